/-
  An update leaves all claims as they are, and adds claims with the next numbers and the time of the update.
-/
import Derived.Test.YtdjghmpaopfboaaRows
import Derived.Test.YtdjghmpaopfboaaClah
import Derived.Test.YtdjghmpaopfboaaClframe
import Derived.Test.YtdjghmpaopfboaaClsame
import Derived.HandedShaped
import Derived.ProofKit
import Derived.OpenShut
import Derived.ShutString
namespace Go.Proofs.Ytdjghmpaopfboaa.lawKeeps
open Go.ChangeShapes Go.WideShapes Go.ChangeAt Go.RowKit
open Go.ChangeMaps (open_string shut_string)

theorem own : ownKnob Try.prog.godebug = none := by kernel_rfl

theorem keeps_at {l : List Z.Cl} {fs : List Z.Fl} {en : Int} (h : Z.updE l fs en = 0) {k : Nat} {x : Z.Cl} (hk : l.length ≤ k) (hx : (Z.updL l fs en)[k]? = some x) :
    x.n = (k : Int) + 1 ∧ x.e = en ∧ ((k < l.length + (Z.rmL l fs).length ∧ 1 ≤ x.r ∧ x.r ≤ l.length) ∨ (l.length + (Z.rmL l fs).length ≤ k ∧ x.r = 0 ∧ 0 < Z.cnt fs x.fl)) := by
  obtain ⟨h1, _⟩ := Z.upd_ok h
  rcases Z.upd_at hx with ⟨_, a⟩ | ⟨j, y, e, hy, rfl⟩ | ⟨j, f, e, hf, rfl⟩
  · omega
  · have hj := (List.getElem?_eq_some_iff.1 hy).1
    obtain ⟨m, _, hn, hm, _⟩ := Z.open_at h1 (Z.rm_open (List.mem_of_getElem? hy))
    exact ⟨rfl, rfl, .inl ⟨by omega, by show 1 ≤ y.n; omega, by show y.n ≤ _; omega⟩⟩
  · refine ⟨rfl, rfl, .inr ⟨by omega, rfl, ?_⟩⟩
    show 0 < Z.cnt fs f
    unfold Z.cnt
    exact List.length_pos_of_mem (List.mem_filter.2 ⟨Z.fr_mem (List.mem_of_getElem? hf), decide_eq_true rfl⟩)
theorem SL.pre {w : World} {A : Option Addr} {n c m : Nat} {zs : List Z.Cl} (h : SC w (.slice A n c) zs) (hm : m ≤ zs.length) : SC w (.slice A m c) (zs.take m) := by
  obtain ⟨A', c', hv, h1, h2, h3⟩ := h
  injection hv with e1 e2 e3
  subst e1 e3
  refine ⟨A, c, by rw [List.length_take, Nat.min_eq_left hm], by rw [List.length_take]; omega, h2, fun hp => ?_⟩
  rw [List.length_take] at hp
  obtain ⟨b, o, hA, hlt, hc⟩ := h3 (by omega)
  refine ⟨b, o, hA, hlt, fun i d hd j x hx => hc i d ?_ j x hx⟩
  rw [List.getElem?_take] at hd
  split at hd
  · exact hd
  · cases hd
theorem upd_take (l : List Z.Cl) (fs : List Z.Fl) (en : Int) : (Z.updL l fs en).take l.length = l ∧ l.length ≤ (Z.updL l fs en).length := by
  rw [Z.updL_eq]
  exact ⟨List.take_left, by rw [List.length_append]; omega⟩
set_option maxRecDepth 100000 in
set_option maxHeartbeats 8000000 in
theorem walk (u : Value) (l : List Z.Cl) (v : Value) (fs : List Z.Fl) (en : Int) (w : World) (hS : SC w u l) (hF : SF w v fs) (_e0 : -9223372036854775808 ≤ en) (_e1 : en ≤ 9223372036854775807) (hV : HasV w) :
    Calls Try.prog 6 #[.agg #[u], v, .int .i64 en] w fun e w' => e = .returned (.bool true) ∧ Below w.heap.size w w' := by
  have hb0 := (Below.refl _ w).alloc (Nat.le_refl w.heap.size) (.cells #[u] 24)
  have BL := Blk.new w 24 #[u]
  have hl0 := BL.cell 0
  have HS := Lib.hid hS
  have HF := Lib.hid hF
  have HV := Lib.hid hV
  clear hS hF hV
  have AL := Lib.hid (fun W (h : Below w.heap.size w W) => alive_any W (HV.out.below h))
  have GR := Lib.hid (fun W (h : Below w.heap.size w W) => great_any u l W (HS.out.below h))
  have GF := Lib.hid (fun W (h : Below w.heap.size w W) => greatf_any v fs W (HF.out.below h))
  go_enter Try.func6, Try.ntmps6
  go_wp2_with fail
  generalize (w.alloc (.cells #[u] 24)) = W0 at *
  refine (AL.out _ hb0).mono ?_
  rintro e W1 ⟨rfl, hb1⟩
  have h1 := hb0.trans (hb1.mono hb0.size)
  have BL1 := BL.below hb1
  clear BL hl0 hb0 hb1 AL
  have hl1 := BL1.cell 0
  go_wp2_with fail
  refine (GR.out _ h1).mono ?_
  rintro e W2 ⟨rfl, hb1⟩
  have h2 := h1.trans (hb1.mono h1.size)
  have BL2 := BL1.below hb1
  clear BL1 hl1 h1 hb1 GR
  have hl2 := BL2.cell 0
  cases hg : Z.greatB l
  case true =>
    go_wp2_with fail
    go_ret
    exact ⟨rfl, h2⟩
  obtain ⟨hlen, hsm⟩ := Z.great_no hg
  have HSM : Hid (∀ x ∈ l, x.fl.small) := Lib.hid (fun x hx => by have := hsm x hx; unfold Z.Fl.small; omega)
  clear hsm hg
  go_wp2_with fail
  refine (GF.out _ h2).mono ?_
  rintro e W3 ⟨rfl, hb1⟩
  have h3 := h2.trans (hb1.mono h2.size)
  have BL3 := BL2.below hb1
  clear BL2 hl2 h2 hb1 GF
  have hl3 := BL3.cell 0
  cases hgf : Z.greatF fs
  case true =>
    go_wp2_with fail
    go_ret
    exact ⟨rfl, h3⟩
  obtain ⟨hfl1, hfl2, hsmf⟩ := Z.greatF_no hgf
  have HSF : Hid (∀ x ∈ fs, x.small) := Lib.hid (fun x hx => by have := hsmf x hx; unfold Z.Fl.small; omega)
  clear hgf hsmf
  clear _e0 _e1
  obtain ⟨A0, c0, rfl, _, hc0, _⟩ := HS.out
  unfold maxLen at hc0
  have UP := Lib.hid (fun W (h : Below w.heap.size w W) => update_any (.slice A0 l.length c0) v l fs en W (HS.out.below h) (HF.out.below h) (HV.out.below h) HSM.out HSF.out)
  go_wp2_with fail
  refine (UP.out _ h3).mono ?_
  intro e W4 hr
  obtain ⟨hb4, ⟨hE, rfl⟩ | ⟨hE, vn, rfl, hO⟩⟩ := hr
  · have h4 := h3.trans (hb4.mono h3.size)
    have hn5 := (Blk.new W4 24 #[.slice none 0 0]).cell 0
    have h5 := h4.alloc h4.size (.cells #[.slice none 0 0] 24)
    have hes : (Z.updE l fs en != 0) = true := by rw [bne_iff_ne]; exact hE
    clear hb4 h4 h3 hl3 BL3 UP hE
    generalize Z.updE l fs en = E at *
    go_wp2_with fail
    go_ret
    exact ⟨rfl, h5⟩
  have h4 := h3.trans (hb4.mono h3.size)
  have BL4 := BL3.below hb4
  have HE := Lib.hid hE
  have hsL := upd_small (fs := fs) HSM.out HSF.out en
  have HL : Hid (∀ x ∈ Z.updL l fs en, x.fl.small) := Lib.hid hsL
  have hln : (Z.updL l fs en).length ≤ 5000 := (Z.upd_ok hE).2.2.2.2.2
  obtain ⟨A, cp, rfl⟩ := hO.shape
  have hLH := Lib.hid (rfl : Z.updL l fs en = Z.updL l fs en)
  have BN5 := Blk.new W4 24 #[.slice A (Z.updL l fs en).length cp]
  have BL5 := BL4.alloc (.cells #[.slice A (Z.updL l fs en).length cp] 24)
  have h5 := h4.alloc h4.size (.cells #[.slice A (Z.updL l fs en).length cp] 24)
  have HO5 := Lib.hid ((hO.mono h3.size).alloc (.cells #[.slice A (Z.updL l fs en).length cp] 24))
  clear hE hsL hb4 h4 h3 hl3 BL3 UP BL4 hO
  have HVL := Lib.hid (Z.valid_upd HE.out)
  have HK := Lib.hid (fun k x => @keeps_at l fs en HE.out k x)
  obtain ⟨htk, hll⟩ := upd_take l fs en
  have HTK := Lib.hid htk
  have hfsl : fs.length ≤ 5000 := by have := Z.upd_ok HE.out; exact (Z.flE_len this.2.1).1
  clear hLH htk
  generalize Z.updL l fs en = L at *
  generalize (Z.rmL l fs).length = R at *
  have HSL := Lib.hid (OL.sl Z.Cl.vs_len HO5.out)
  have hcp : L.length ≤ cp ∧ cp ≤ 9223372036854775807 := by
    obtain ⟨_, _, hv, h1, h2, _⟩ := HSL.out
    injection hv with _ _ hv
    subst hv
    unfold maxLen at h2
    omega
  obtain ⟨hcp1, hcp2⟩ := hcp
  have hn5 := BN5.cell 0
  have hl5 := BL5.cell 0
  clear HE HO5
  go_upto_region 8 with fail
  generalize (W4.alloc (.cells #[.slice A L.length cp] 24)) = W5 at *
  have SM : Hid (∀ q : Ab W5, Calls Try.prog 15 #[.slice A l.length cp, .slice A0 l.length c0] q.1 fun e w' => e = .returned (.bool true) ∧ Below q.1.heap.size q.1 w') := Lib.hid (fun q => rsame_claims _ _ l q.1 (by have := SL.pre (HSL.out.below q.2) hll; rwa [HTK.out] at this) (HS.out.below (h5.trans (Below.mono q.2 h5.size))))
  have CK : Hid (∀ q : Ab W5, Calls Try.prog 20 #[.agg #[.slice A L.length cp]] q.1 fun e w' => e = .returned (.int .i64 0) ∧ Below q.1.heap.size q.1 w') := Lib.hid (fun q => by
    have := ccheckc_any (.slice A L.length cp) L q.1 (HSL.out.below q.2) (HV.out.below (h5.trans (Below.mono q.2 h5.size))) HL.out
    rw [show Z.clE L = 0 by unfold Z.clE; rw [HVL.out]; rfl] at this
    exact this)
  have x1 : ∀ q : Ab W5, q.1.cell? ⟨W4.heap.size, 0, none⟩ = some (.slice A L.length cp) := fun q => (Ab.cells BN5).cell 0
  have x2 : ∀ q : Ab W5, q.1.cell? ⟨w.heap.size, 0, none⟩ = some (.slice A0 l.length c0) := fun q => (Ab.cells BL5).cell 0
  have d1 : ¬ ((L.length : Int) < (l.length : Int)) := by omega
  have d2 : decide ((L.length : Int) < (l.length : Int)) = false := decide_eq_false d1
  have d3 : (0 : Int) ≤ (l.length : Int) := by omega
  have d4 : (l.length : Int) ≤ (cp : Int) := by omega
  clear hn5 hl5 HVL
  refine wp_region_above (by kernel_rfl) (by kernel_rfl) ?_
  repeat (go_big_quiet_step (first
    | (go_at_call 15; with_reducible exact Ab.step (SM.out _))
    | (go_at_call 20; with_reducible exact Ab.step (CK.out _))))
  refine wpQuiet_nil ?_
  rintro _ ⟨q', rfl⟩
  have h6 := h5.trans (Below.mono q'.2 h5.size)
  have BN6 := BN5.below q'.2
  have HSL6 := Lib.hid (HSL.out.below q'.2)
  obtain ⟨W6, hq⟩ := q'
  simp only at h6 BN6 HSL6 ⊢
  clear SM CK x1 x2 d2 hq BN5 BL5 HSL h5 HL HTK
  go_wp2_with fail
  go_loopw [11, 12] (fun fv iv wr => ∃ k : Nat, l.length ≤ k ∧ k ≤ L.length ∧ iv = .int .i64 k ∧ fv = .bool (decide (l.length + R < k)) ∧ Below W6.heap.size W6 wr) (fun _ iv _ => L.length - (intOf iv).toNat)
  case atStart => exact ⟨l.length, by omega, hll, rfl, by rw [decide_eq_false (by omega)], Below.refl _ _⟩
  case round =>
    obtain ⟨k, hk0, hk, rfl, rfl, hbr⟩ := hrel
    have hn7 := (BN6.below hbr).cell 0
    by_cases hlt : k < L.length
    · have hz : L[k]? = some L[k] := List.getElem?_eq_getElem hlt
      obtain ⟨b, o, rfl, hbl, hcj⟩ := (HSL6.out.below hbr).at_ (by omega)
      have hcc := cc_of (hcj k _ hz)
      have hkk := HK.out k _ hk0 hz
      have h7 := h6.trans (hbr.mono h6.size)
      have HF7 := Lib.hid (HF.out.below h7)
      clear hcj hz
      generalize L[k] = x at *
      obtain ⟨xn, xr, xe, xf⟩ := x
      simp only at hcc hkk
      obtain ⟨e1, e2, e3⟩ := hkk
      subst e1 e2
      obtain ⟨z0, z1, z2, z3, z4, z5, z6, z7⟩ := hcc
      simp only at z0 z1 z2 z3 z4 z5 z6 z7
      have BX := Blk.new wr 38 #[.int .i64 ((k : Int) + 1), .int .i64 xr, .int .i64 xe, .int .i64 xf.d, .string xf.f, .string xf.t, .string xf.c, .string xf.a]
      have hba := (Below.refl _ wr).alloc (Nat.le_refl wr.heap.size) (.cells #[.int .i64 ((k : Int) + 1), .int .i64 xr, .int .i64 xe, .int .i64 xf.d, .string xf.f, .string xf.t, .string xf.c, .string xf.a] 38)
      have HF8 := Lib.hid (HF7.out.below hba)
      have hb8 := hbr.trans (hba.mono hbr.size)
      have y1 := BX.cell 1
      have y0 := BX.cell 0
      have y2 := BX.cell 2
      have y3 := BX.cell 3
      have y4 := BX.cell 4
      have y5 := BX.cell 5
      have y6 := BX.cell 6
      have y7 := BX.cell 7
      have r0 : ¬ ((l.length : Int) < xr) := by rcases e3 with ⟨_, _, h⟩ | ⟨_, h, _⟩ <;> omega
      have k1 : (k : Int) ≤ 5000 := by omega
      rcases e3 with ⟨a1, a2, a3⟩ | ⟨a1, rfl, a2⟩
      · have hf1 : decide (l.length + R < k) = false := decide_eq_false (by omega)
        have hf2 : (xr == 0) = false := by rw [beq_eq_false_iff_ne]; omega
        rw [hf1]
        go_wp2_with fail
        go_roundw
        case rel => exact ⟨k + 1, by omega, by omega, by go_num, by rw [decide_eq_false (by omega)], hb8⟩
        case measure => simp [intOf] <;> omega
      · have CT := Lib.hid (fun W (h : SF W v fs) => count_any v fs xf W h (by omega))
        have hc0 : ((Z.cnt fs xf : Int) == 0) = false := by rw [beq_eq_false_iff_ne]; omega
        generalize Z.cnt fs xf = m at *
        generalize decide (l.length + R < k) = b0
        cases b0
        all_goals
          go_wp2_with fail
          refine (CT.out _ HF8.out).mono ?_
          rintro e W9 ⟨rfl, hb9⟩
          have hb10 := hb8.trans (hb9.mono hb8.size)
          go_wp2_with fail
          go_roundw
          case rel => exact ⟨k + 1, by omega, by omega, by go_num, by rw [decide_eq_true (by omega)], hb10⟩
          case measure => simp [intOf] <;> omega
    · have h7 := h6.trans (hbr.mono h6.size)
      go_wp2_with fail
      go_ret
      exact ⟨rfl, h7⟩

set_option maxRecDepth 100000 in
theorem lifted (os : Os) (started : os.Started) (H : Type) (enc : TypeId × Value → H) :
    ReturnsInHanded {} Try.checked os 6 .any (Rows.claimKeepsSpec.pre6 enc Try.prog Try.f6 Rows.claimKeepsRow.domain false) (Rows.claimKeepsSpec.post enc Try.prog Try.f6 false true false false) := by
  refine returnsInHanded_of_change_shaped (C := Try.checked) own started (by kernel_rfl) Try.func6
    (ChangeSpec.witness6 (enc := enc) (C := Try.checked) false ⟨#[], #[.agg #[.slice none 0 0], .slice none 0 0, .int .i64 0], []⟩ 8 (by kernel_rfl) (by kernel_rfl) (by kernel_rfl) (by kernel_rfl)) ?_
  intro W base args ds gs before hval0 hW hcnd _ hsh _
  have hval : ∀ (j : Nat) t v, Try.f6.params[j]? = some t → args[j]? = some v → Value.okWide Try.prog W .any base t v := hval0
  have hW' := hW
  obtain ⟨p, q, hA0, hV, rfl, hfz, hnd⟩ := hW
  have hA : DataW.TrodAll enc Try.prog W 0 (fun _ => true) true Try.f6.params.toList args.toList ds p := hA0
  rw [Try.params6] at hA hval
  obtain ⟨v0, vs0, d0, ds0, p0, q0, hargs, rfl, rfl, h0, r0⟩ := trodAll_cons hA
  obtain ⟨v1, vs1, d1, ds1, p1, q1, rfl, rfl, rfl, h1, r1⟩ := trodAll_cons r0
  obtain ⟨v2, vs2, d2, ds2, p2, q2, rfl, rfl, rfl, h2, r2⟩ := trodAll_cons r1
  obtain ⟨rfl, rfl, rfl⟩ := trodAll_nil r2
  obtain rfl : args = #[v0, v1, v2] := by cases args; simp_all
  obtain ⟨rfl, rfl⟩ := trodVars_none hV
  have k0 := h0
  obtain ⟨u0, l0, rfl, si0⟩ := claims_open (hval 0 24 v0 rfl rfl) h0
  have k1 := h1
  obtain ⟨l1, si1⟩ := flows_open (hval 1 25 v1 rfl rfl) h1
  obtain ⟨a2, rfl, rfl, rfl, w2⟩ := open_int Try.underlying3 (hval 2 3 v2 rfl rfl) h2
  clear hA0 hval0
  have bd2 := bounds_i64 w2
  refine (walk u0 l0 v1 l1 a2 W si0 si1 bd2.1 bd2.2 (Try.laysM145.s1_3 W hsh)).mono fun e W' ⟨he, bel⟩ => ?_
  subst he
  exact ⟨_, rfl, _, _, _, [], _, [], hW', trodAll_mk1 (shut_bool Try.underlying4 _), (trodAll_cons_mk (arg_stays (by kernel_rfl) (of_decide_eq_true (by kernel_rfl)) k0 bel) (trodAll_cons_mk (arg_stays (by kernel_rfl) (of_decide_eq_true (by kernel_rfl)) k1 bel) (trodAll_cons_mk (shut_int Try.underlying3 w2) trodAll_mk0))), rfl, bel.frame _, fun h => by cases h⟩

theorem over : Rows.claimKeepsRow.holds Try.pinned (OpenSpec.ofChange Rows.claimKeepsSpec) :=
  OpenClaim.holds_of_wide 6 Try.f6 rfl rfl rfl rfl rfl rfl rfl ⟨rfl, rfl, rfl, rfl, rfl⟩ rfl rfl rfl rfl rfl (by kernel_rfl) Try.func6 (by kernel_rfl)
    (of_decide_eq_true (by kernel_rfl)) (by unfold Func.isWrapper; first | (rw [if_pos (by decide +kernel)]; kernel_rfl) | (rw [if_neg (by decide +kernel)]; exact ⟨rfl, rfl⟩))
    (fun os started H enc _ => lifted os started H enc)

theorem proved : Rows.ClaimKeepsSaid := over
#print axioms proved
