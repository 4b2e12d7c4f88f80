/-
  After an update the open claims are for exactly the flows of the list, and the net is that of the list.
-/
import Derived.Test.YtdjghmpaopfboaaRows
import Derived.Test.YtdjghmpaopfboaaClah
import Derived.Test.YtdjghmpaopfboaaClframe
import Derived.Test.YtdjghmpaopfboaaClsame
import Derived.HandedShaped
import Derived.ProofKit
import Derived.OpenShut
import Derived.ShutString
namespace Go.Proofs.Ytdjghmpaopfboaa.lawNets
open Go.ChangeShapes Go.WideShapes Go.ChangeAt Go.RowKit
open Go.ChangeMaps (open_string shut_string)

theorem own : ownKnob Try.prog.godebug = none := by kernel_rfl

set_option maxRecDepth 100000 in
set_option maxHeartbeats 8000000 in
theorem walk (u : Value) (l : List Z.Cl) (v : Value) (fs : List Z.Fl) (en : Int) (p c : ByteArray) (w : World) (hS : SC w u l) (hF : SF w v fs) (_e0 : -9223372036854775808 ≤ en) (_e1 : en ≤ 9223372036854775807) (hV : HasV w) :
    Calls Try.prog 10 #[.agg #[u], v, .int .i64 en, .string p, .string c] w fun e w' => e = .returned (.bool true) ∧ Below w.heap.size w w' := by
  have hb0 := (Below.refl _ w).alloc (Nat.le_refl w.heap.size) (.cells #[u] 24)
  have BL := Blk.new w 24 #[u]
  have hl0 := BL.cell 0
  have HS := Lib.hid hS
  have HF := Lib.hid hF
  have HV := Lib.hid hV
  clear hS hF hV
  have AL := Lib.hid (fun W (h : Below w.heap.size w W) => alive_any W (HV.out.below h))
  have GR := Lib.hid (fun W (h : Below w.heap.size w W) => great_any u l W (HS.out.below h))
  have GF := Lib.hid (fun W (h : Below w.heap.size w W) => greatf_any v fs W (HF.out.below h))
  go_enter Try.func10, Try.ntmps10
  go_wp2_with fail
  generalize (w.alloc (.cells #[u] 24)) = W0 at *
  refine (AL.out _ hb0).mono ?_
  rintro e W1 ⟨rfl, hb1⟩
  have h1 := hb0.trans (hb1.mono hb0.size)
  have BL1 := BL.below hb1
  clear BL hl0 hb0 hb1 AL
  have hl1 := BL1.cell 0
  go_wp2_with fail
  refine (GR.out _ h1).mono ?_
  rintro e W2 ⟨rfl, hb1⟩
  have h2 := h1.trans (hb1.mono h1.size)
  have BL2 := BL1.below hb1
  clear BL1 hl1 h1 hb1 GR
  have hl2 := BL2.cell 0
  cases hg : Z.greatB l
  case true =>
    go_wp2_with fail
    go_ret
    exact ⟨rfl, h2⟩
  obtain ⟨hlen, hsm⟩ := Z.great_no hg
  have HSM : Hid (∀ x ∈ l, x.fl.small) := Lib.hid (fun x hx => by have := hsm x hx; unfold Z.Fl.small; omega)
  clear hsm hg
  go_wp2_with fail
  refine (GF.out _ h2).mono ?_
  rintro e W3 ⟨rfl, hb1⟩
  have h3 := h2.trans (hb1.mono h2.size)
  have BL3 := BL2.below hb1
  clear BL2 hl2 h2 hb1 GF
  have hl3 := BL3.cell 0
  cases hgf : Z.greatF fs
  case true =>
    go_wp2_with fail
    go_ret
    exact ⟨rfl, h3⟩
  obtain ⟨hfl1, hfl2, hsmf⟩ := Z.greatF_no hgf
  have HSF : Hid (∀ x ∈ fs, x.small) := Lib.hid (fun x hx => by have := hsmf x hx; unfold Z.Fl.small; omega)
  clear hgf hsmf
  by_cases hp : 1000 < p.size
  · go_wp2_with fail
    go_ret
    exact ⟨rfl, h3⟩
  by_cases hc : 1000 < c.size
  · go_wp2_with fail
    go_ret
    exact ⟨rfl, h3⟩
  clear _e0 _e1
  obtain ⟨Af, cf, rfl, _, hcf, _⟩ := HF.out
  unfold maxLen at hcf
  have UP := Lib.hid (fun W (h : Below w.heap.size w W) => update_any u (.slice Af fs.length cf) l fs en W (HS.out.below h) (HF.out.below h) (HV.out.below h) HSM.out HSF.out)
  go_wp2_with fail
  refine (UP.out _ h3).mono ?_
  intro e W4 hr
  obtain ⟨hb4, ⟨hE, rfl⟩ | ⟨hE, vn, rfl, hO⟩⟩ := hr
  · have h4 := h3.trans (hb4.mono h3.size)
    have hn5 := (Blk.new W4 24 #[.slice none 0 0]).cell 0
    have h5 := h4.alloc h4.size (.cells #[.slice none 0 0] 24)
    have hes : (Z.updE l fs en != 0) = true := by rw [bne_iff_ne]; exact hE
    clear hb4 h4 h3 hl3 BL3 UP hE
    generalize Z.updE l fs en = E at *
    go_wp2_with fail
    go_ret
    exact ⟨rfl, h5⟩
  have h4 := h3.trans (hb4.mono h3.size)
  have BL4 := BL3.below hb4
  have HE := Lib.hid hE
  have hsL := upd_small (fs := fs) HSM.out HSF.out en
  have HL : Hid (∀ x ∈ Z.updL l fs en, x.fl.small) := Lib.hid hsL
  have hln : (Z.updL l fs en).length ≤ 5000 := (Z.upd_ok hE).2.2.2.2.2
  obtain ⟨A, cp, rfl⟩ := hO.shape
  have hLH := Lib.hid (rfl : Z.updL l fs en = Z.updL l fs en)
  have BN5 := Blk.new W4 24 #[.slice A (Z.updL l fs en).length cp]
  have BL5 := BL4.alloc (.cells #[.slice A (Z.updL l fs en).length cp] 24)
  have h5 := h4.alloc h4.size (.cells #[.slice A (Z.updL l fs en).length cp] 24)
  have HO5 := Lib.hid ((hO.mono h3.size).alloc (.cells #[.slice A (Z.updL l fs en).length cp] 24))
  clear hE hsL hb4 h4 h3 hl3 BL3 UP BL4 hO
  have HOP := Lib.hid (Z.open_perm HE.out)
  have HNN := Lib.hid (Z.nets_upd HE.out p c)
  have HVL := Lib.hid (Z.valid_upd HE.out)
  have HCN := Lib.hid (open_map_cnt HE.out)
  have hfsl : fs.length ≤ 5000 := by have := Z.upd_ok HE.out; exact (Z.flE_len this.2.1).1
  clear hLH
  generalize Z.updL l fs en = L at *
  have HSL := Lib.hid (OL.sl Z.Cl.vs_len HO5.out)
  have hn5 := BN5.cell 0
  clear HE HO5
  go_wp2_with fail
  generalize (W4.alloc (.cells #[.slice A L.length cp] 24)) = W5 at *
  refine (open_any _ L W5 HSL.out (HV.out.below h5) HL.out).mono ?_
  intro e W6 hr
  obtain ⟨hb6, va, rfl, sa⟩ := open_uni hr
  rw [HVL.out, if_pos rfl] at sa
  rw [show Z.clE L = 0 by unfold Z.clE; rw [HVL.out]; rfl]
  have hlo : (Z.openL L).length = fs.length := by have := HOP.out.length_eq; rwa [List.length_map] at this
  have HSA := Lib.hid sa
  obtain ⟨A6, c6, rfl, _, hc6, _⟩ := sa
  rw [hlo] at HSA ⊢
  have h6 := h5.trans (hb6.mono h5.size)
  have BN6 := BN5.below hb6
  have HSL6 := Lib.hid (HSL.out.below hb6)
  clear hr hb6 BN5 BL5 HSL hn5 h5 HOP
  go_wp2_with fail
  refine (flowsof_any _ (Z.openL L) W6 HSA.out (by omega)).mono ?_
  rintro e W7 ⟨v', rfl, hO7, hb7⟩
  have h7 := h6.trans (hb7.mono h6.size)
  have BN7 := BN6.below hb7
  have HSL7 := Lib.hid (HSL6.out.below hb7)
  have hlm : ((Z.openL L).map Z.Cl.fl).length = fs.length := by rw [List.length_map]; exact hlo
  generalize (Z.openL L).map Z.Cl.fl = M at *
  have HM := Lib.hid (OL.sl Z.Fl.vs_len hO7)
  obtain ⟨A7, c7, rfl⟩ := hO7.shape
  rw [hlm] at HM ⊢
  have HLM := Lib.hid hlm
  clear hlm
  clear hb7 BN6 HSL6 h6 hO7 HSA hlo
  go_wp2_with fail
  go_loopw [17] (fun iv wr => ∃ k : Nat, k ≤ fs.length ∧ iv = .int .i64 k ∧ Below W7.heap.size W7 wr) (fun iv _ => fs.length - (intOf iv).toNat)
  case atStart => exact ⟨0, by omega, rfl, Below.refl _ _⟩
  case round =>
    obtain ⟨k, hk, rfl, hbr⟩ := hrel
    by_cases hlt : k < fs.length
    · have hkm : k < M.length := by rw [HLM.out]; exact hlt
      have hz : M[k]? = some M[k] := List.getElem?_eq_getElem hkm
      obtain ⟨b, o, rfl, hbl, hcj⟩ := (HM.out.below hbr).at_ (by omega)
      obtain ⟨q0, q1, q2, q3, q4⟩ := fc_of (hcj k _ hz)
      clear hcj hz
      have HC1 : Hid (∀ x : Ab wr, ∀ f : Z.Fl, Calls Try.prog 25 #[.slice (some ⟨b, o, none⟩) fs.length c7, .agg #[.int .i64 f.d, .string f.f, .string f.t, .string f.c, .string f.a]] x.1 fun e w' => e = .returned (.int .i64 (Z.cnt M f : Nat)) ∧ Below x.1.heap.size x.1 w') := Lib.hid (fun x f => count_any _ M f x.1 ((HM.out.below hbr).below x.2) (by rw [HLM.out]; omega))
      have HC2 : Hid (∀ x : Ab wr, ∀ f : Z.Fl, Calls Try.prog 25 #[.slice Af fs.length cf, .agg #[.int .i64 f.d, .string f.f, .string f.t, .string f.c, .string f.a]] x.1 fun e w' => e = .returned (.int .i64 (Z.cnt M f : Nat)) ∧ Below x.1.heap.size x.1 w') := Lib.hid (fun x f => by rw [HCN.out f]; exact count_any _ fs f x.1 (HF.out.below (h7.trans ((hbr.trans (Below.mono x.2 hbr.size)).mono h7.size))) (by omega))
      generalize M[k] = x at *
      have x0 : ∀ q : Ab wr, q.1.cell? ⟨b, o + k * 5, none⟩ = some (.int .i64 x.d) := fun q => q.cell q0 hbl
      have x1 : ∀ q : Ab wr, q.1.cell? ⟨b, o + k * 5 + 1, none⟩ = some (.string x.f) := fun q => q.cell q1 hbl
      have x2 : ∀ q : Ab wr, q.1.cell? ⟨b, o + k * 5 + 2, none⟩ = some (.string x.t) := fun q => q.cell q2 hbl
      have x3 : ∀ q : Ab wr, q.1.cell? ⟨b, o + k * 5 + 3, none⟩ = some (.string x.c) := fun q => q.cell q3 hbl
      have x4 : ∀ q : Ab wr, q.1.cell? ⟨b, o + k * 5 + 4, none⟩ = some (.string x.a) := fun q => q.cell q4 hbl
      have hk0 : (0 : Int) ≤ (k : Int) := by omega
      have hk1 : (k : Int) < (fs.length : Int) := by omega
      have HC1' := Lib.hid (fun q : Ab wr => HC1.out q x)
      have HC2' := Lib.hid (fun q : Ab wr => HC2.out q x)
      clear q0 q1 q2 q3 q4 HC1 HC2 hkm
      generalize Z.cnt M x = m at *
      have hmm : ((m : Int) != (m : Int)) = false := by simp
      go_upto_region 14 with fail
      refine wp_region_above (by kernel_rfl) (by kernel_rfl) ?_
      repeat (go_big_quiet_step (first
        | (go_at_call 25; with_reducible exact Ab.step (HC1'.out _))
        | (go_at_call 25; with_reducible exact Ab.step (HC2'.out _))))
      refine wpQuiet_nil ?_
      rintro _ ⟨q', rfl⟩
      clear x0 x1 x2 x3 x4 HC1' HC2'
      go_wp2_with fail
      go_roundw
      case rel => exact ⟨k + 1, by omega, by go_num, hbr.trans (Below.mono q'.2 hbr.size)⟩
      case measure => simp [intOf] <;> omega
    · have h8 := h7.trans (hbr.mono h7.size)
      have BN8 := BN7.below hbr
      have HSL8 := Lib.hid (HSL7.out.below hbr)
      have hn8 := BN8.cell 0
      clear hbr BN7 HSL7 h7 HCN HM HLM
      go_wp2_with fail
      refine (net_any _ L p c wr HSL8.out (HV.out.below h8) HL.out (by omega) (by omega)).mono ?_
      rintro e W9 ⟨rfl, hb⟩
      have h9 := h8.trans (hb.mono h8.size)
      clear hb h8 BN8 hn8 HSL8
      go_wp2_with fail
      refine (mnet_any _ fs p c W9 (HF.out.below h9) (HV.out.below h9) HSF.out (by omega) (by omega)).mono ?_
      rintro e W10 ⟨rfl, hb⟩
      have h10 := h9.trans (hb.mono h9.size)
      have HN := HNN.out
      clear hb h9 HNN
      generalize Z.netR L p c = R at *
      generalize Z.mnetR fs p c = S at *
      obtain ⟨R1, R2⟩ := R
      obtain ⟨S1, S2⟩ := S
      simp only [Prod.mk.injEq] at HN ⊢
      by_cases h14 : R2 = 14
      · subst h14
        go_wp2_with fail
        go_ret
        exact ⟨rfl, h10⟩
      have t1 : (R2 == 14) = false := by rw [beq_eq_false_iff_ne]; exact h14
      by_cases g14 : S2 = 14
      · subst g14
        go_wp2_with fail
        go_ret
        exact ⟨rfl, h10⟩
      have t2 : (S2 == 14) = false := by rw [beq_eq_false_iff_ne]; exact g14
      rcases HN with h | h | ⟨rfl, rfl⟩
      · exact absurd h h14
      · exact absurd h g14
      have s1 : (R1.toList == R1.toList) = true := by simp
      have s2 : (R2 == R2) = true := by simp
      go_wp2_with fail
      go_ret
      exact ⟨rfl, h10⟩

set_option maxRecDepth 100000 in
theorem lifted (os : Os) (started : os.Started) (H : Type) (enc : TypeId × Value → H) :
    ReturnsInHanded {} Try.checked os 10 .any (Rows.claimNetsSpec.pre6 enc Try.prog Try.f10 Rows.claimNetsRow.domain false) (Rows.claimNetsSpec.post enc Try.prog Try.f10 false true false false) := by
  refine returnsInHanded_of_change_shaped (C := Try.checked) own started (by kernel_rfl) Try.func10
    (ChangeSpec.witness6 (enc := enc) (C := Try.checked) false ⟨#[], #[.agg #[.slice none 0 0], .slice none 0 0, .int .i64 0, .string ByteArray.empty, .string ByteArray.empty], []⟩ 8 (by kernel_rfl) (by kernel_rfl) (by kernel_rfl) (by kernel_rfl)) ?_
  intro W base args ds gs before hval0 hW hcnd _ hsh _
  have hval : ∀ (j : Nat) t v, Try.f10.params[j]? = some t → args[j]? = some v → Value.okWide Try.prog W .any base t v := hval0
  have hW' := hW
  obtain ⟨p, q, hA0, hV, rfl, hfz, hnd⟩ := hW
  have hA : DataW.TrodAll enc Try.prog W 0 (fun _ => true) true Try.f10.params.toList args.toList ds p := hA0
  rw [Try.params10] at hA hval
  obtain ⟨v0, vs0, d0, ds0, p0, q0, hargs, rfl, rfl, h0, r0⟩ := trodAll_cons hA
  obtain ⟨v1, vs1, d1, ds1, p1, q1, rfl, rfl, rfl, h1, r1⟩ := trodAll_cons r0
  obtain ⟨v2, vs2, d2, ds2, p2, q2, rfl, rfl, rfl, h2, r2⟩ := trodAll_cons r1
  obtain ⟨v3, vs3, d3, ds3, p3, q3, rfl, rfl, rfl, h3, r3⟩ := trodAll_cons r2
  obtain ⟨v4, vs4, d4, ds4, p4, q4, rfl, rfl, rfl, h4, r4⟩ := trodAll_cons r3
  obtain ⟨rfl, rfl, rfl⟩ := trodAll_nil r4
  obtain rfl : args = #[v0, v1, v2, v3, v4] := by cases args; simp_all
  obtain ⟨rfl, rfl⟩ := trodVars_none hV
  have k0 := h0
  obtain ⟨u0, l0, rfl, si0⟩ := claims_open (hval 0 24 v0 rfl rfl) h0
  have k1 := h1
  obtain ⟨l1, si1⟩ := flows_open (hval 1 25 v1 rfl rfl) h1
  obtain ⟨a2, rfl, rfl, rfl, w2⟩ := open_int Try.underlying3 (hval 2 3 v2 rfl rfl) h2
  obtain ⟨a3, rfl, rfl, rfl, w3⟩ := open_string Try.underlying9 (hval 3 9 v3 rfl rfl) h3
  obtain ⟨a4, rfl, rfl, rfl, w4⟩ := open_string Try.underlying9 (hval 4 9 v4 rfl rfl) h4
  clear hA0 hval0
  have bd2 := bounds_i64 w2
  refine (walk u0 l0 v1 l1 a2 a3 a4 W si0 si1 bd2.1 bd2.2 (Try.laysM145.s1_3 W hsh)).mono fun e W' ⟨he, bel⟩ => ?_
  subst he
  exact ⟨_, rfl, _, _, _, [], _, [], hW', trodAll_mk1 (shut_bool Try.underlying4 _), (trodAll_cons_mk (arg_stays (by kernel_rfl) (of_decide_eq_true (by kernel_rfl)) k0 bel) (trodAll_cons_mk (arg_stays (by kernel_rfl) (of_decide_eq_true (by kernel_rfl)) k1 bel) (trodAll_cons_mk (shut_int Try.underlying3 w2) (trodAll_cons_mk (shut_string Try.underlying9 w3) (trodAll_cons_mk (shut_string Try.underlying9 w4) trodAll_mk0))))), rfl, bel.frame _, fun h => by cases h⟩

theorem over : Rows.claimNetsRow.holds Try.pinned (OpenSpec.ofChange Rows.claimNetsSpec) :=
  OpenClaim.holds_of_wide 10 Try.f10 rfl rfl rfl rfl rfl rfl rfl ⟨rfl, rfl, rfl, rfl, rfl⟩ rfl rfl rfl rfl rfl (by kernel_rfl) Try.func10 (by kernel_rfl)
    (of_decide_eq_true (by kernel_rfl)) (by unfold Func.isWrapper; first | (rw [if_pos (by decide +kernel)]; kernel_rfl) | (rw [if_neg (by decide +kernel)]; exact ⟨rfl, rfl⟩))
    (fun os started H enc _ => lifted os started H enc)

theorem proved : Rows.ClaimNetsSaid := over
#print axioms proved
