/-
  Updating again with the same flows, at the same or a later time, adds nothing.
-/
import Derived.Test.YtdjghmpaopfboaaRows
import Derived.Test.YtdjghmpaopfboaaClah
import Derived.Test.YtdjghmpaopfboaaClframe
import Derived.Test.YtdjghmpaopfboaaClsame
import Derived.HandedShaped
import Derived.ProofKit
import Derived.OpenShut
import Derived.ShutString
namespace Go.Proofs.Ytdjghmpaopfboaa.lawAgain
open Go.ChangeShapes Go.WideShapes Go.ChangeAt Go.RowKit
open Go.ChangeMaps (open_string shut_string)

theorem own : ownKnob Try.prog.godebug = none := by kernel_rfl

set_option maxRecDepth 100000 in
set_option maxHeartbeats 8000000 in
theorem walk (u : Value) (l : List Z.Cl) (v : Value) (fs : List Z.Fl) (en later : Int) (w : World) (hS : SC w u l) (hF : SF w v fs) (_e0 : -9223372036854775808 ≤ en) (_e1 : en ≤ 9223372036854775807) (_l0 : -9223372036854775808 ≤ later) (_l1 : later ≤ 9223372036854775807) (hV : HasV w) :
    Calls Try.prog 7 #[.agg #[u], v, .int .i64 en, .int .i64 later] w fun e w' => e = .returned (.bool true) ∧ Below w.heap.size w w' := by
  have hb0 := (Below.refl _ w).alloc (Nat.le_refl w.heap.size) (.cells #[u] 24)
  have BL := Blk.new w 24 #[u]
  have hl0 := BL.cell 0
  have HS := Lib.hid hS
  have HF := Lib.hid hF
  have HV := Lib.hid hV
  clear hS hF hV
  have AL := Lib.hid (fun W (h : Below w.heap.size w W) => alive_any W (HV.out.below h))
  have GR := Lib.hid (fun W (h : Below w.heap.size w W) => great_any u l W (HS.out.below h))
  have GF := Lib.hid (fun W (h : Below w.heap.size w W) => greatf_any v fs W (HF.out.below h))
  go_enter Try.func7, Try.ntmps7
  go_wp2_with fail
  generalize (w.alloc (.cells #[u] 24)) = W0 at *
  refine (AL.out _ hb0).mono ?_
  rintro e W1 ⟨rfl, hb1⟩
  have h1 := hb0.trans (hb1.mono hb0.size)
  have BL1 := BL.below hb1
  clear BL hl0 hb0 hb1 AL
  have hl1 := BL1.cell 0
  go_wp2_with fail
  refine (GR.out _ h1).mono ?_
  rintro e W2 ⟨rfl, hb1⟩
  have h2 := h1.trans (hb1.mono h1.size)
  have BL2 := BL1.below hb1
  clear BL1 hl1 h1 hb1 GR
  have hl2 := BL2.cell 0
  cases hg : Z.greatB l
  case true =>
    go_wp2_with fail
    go_ret
    exact ⟨rfl, h2⟩
  obtain ⟨hlen, hsm⟩ := Z.great_no hg
  have HSM : Hid (∀ x ∈ l, x.fl.small) := Lib.hid (fun x hx => by have := hsm x hx; unfold Z.Fl.small; omega)
  clear hsm hg
  go_wp2_with fail
  refine (GF.out _ h2).mono ?_
  rintro e W3 ⟨rfl, hb1⟩
  have h3 := h2.trans (hb1.mono h2.size)
  have BL3 := BL2.below hb1
  clear BL2 hl2 h2 hb1 GF
  have hl3 := BL3.cell 0
  cases hgf : Z.greatF fs
  case true =>
    go_wp2_with fail
    go_ret
    exact ⟨rfl, h3⟩
  obtain ⟨hfl1, hfl2, hsmf⟩ := Z.greatF_no hgf
  have HSF : Hid (∀ x ∈ fs, x.small) := Lib.hid (fun x hx => by have := hsmf x hx; unfold Z.Fl.small; omega)
  clear hgf hsmf
  clear _e0 _e1 _l0 _l1
  by_cases ha : later < en
  · go_wp2_with fail
    go_ret
    exact ⟨rfl, h3⟩
  by_cases hz : 1125899906842624 < later
  · go_wp2_with fail
    go_ret
    exact ⟨rfl, h3⟩
  have UP := Lib.hid (fun W (h : Below w.heap.size w W) => update_any u v l fs en W (HS.out.below h) (HF.out.below h) (HV.out.below h) HSM.out HSF.out)
  go_wp2_with fail
  refine (UP.out _ h3).mono ?_
  intro e W4 hr
  obtain ⟨hb4, ⟨hE, rfl⟩ | ⟨hE, vn, rfl, hO⟩⟩ := hr
  · have h4 := h3.trans (hb4.mono h3.size)
    have hn5 := (Blk.new W4 24 #[.slice none 0 0]).cell 0
    have h5 := h4.alloc h4.size (.cells #[.slice none 0 0] 24)
    have hes : (Z.updE l fs en != 0) = true := by rw [bne_iff_ne]; exact hE
    clear hb4 h4 h3 hl3 BL3 UP hE
    generalize Z.updE l fs en = E at *
    go_wp2_with fail
    go_ret
    exact ⟨rfl, h5⟩
  have h4 := h3.trans (hb4.mono h3.size)
  have BL4 := BL3.below hb4
  have HE := Lib.hid hE
  have hsL := upd_small (fs := fs) HSM.out HSF.out en
  have HL : Hid (∀ x ∈ Z.updL l fs en, x.fl.small) := Lib.hid hsL
  have hln : (Z.updL l fs en).length ≤ 5000 := (Z.upd_ok hE).2.2.2.2.2
  obtain ⟨A, cp, rfl⟩ := hO.shape
  have hLH := Lib.hid (rfl : Z.updL l fs en = Z.updL l fs en)
  have BN5 := Blk.new W4 24 #[.slice A (Z.updL l fs en).length cp]
  have BL5 := BL4.alloc (.cells #[.slice A (Z.updL l fs en).length cp] 24)
  have h5 := h4.alloc h4.size (.cells #[.slice A (Z.updL l fs en).length cp] 24)
  have HO5 := Lib.hid ((hO.mono h3.size).alloc (.cells #[.slice A (Z.updL l fs en).length cp] 24))
  clear hE hsL hb4 h4 h3 hl3 BL3 UP BL4 hO
  have HE2 : Hid (Z.updE (Z.updL l fs en) fs later = 0) := Lib.hid (Z.updE_again HE.out (by omega) (by omega))
  have HL2 : Hid (Z.updL (Z.updL l fs en) fs later = Z.updL l fs en) := Lib.hid (Z.upd_again HE.out)
  clear hLH
  generalize Z.updL l fs en = L at *
  have hn5 := BN5.cell 0
  go_wp2_with fail
  generalize (W4.alloc (.cells #[.slice A L.length cp] 24)) = W5 at *
  refine (update_any _ v L fs later W5 (OL.sl Z.Cl.vs_len HO5.out) (HF.out.below h5) (HV.out.below h5) HL.out HSF.out).mono ?_
  intro e W6 hr
  obtain ⟨hb6, vb, rfl, hO6⟩ := upd_good hr HE2.out
  rw [HL2.out] at hO6
  obtain ⟨A6, c6, rfl⟩ := hO6.shape
  have h6 := h5.trans (hb6.mono h5.size)
  have BN6 := BN5.below hb6
  have HO6 := HO5.out.below hb6
  have BM7 := Blk.new W6 24 #[.slice A6 L.length c6]
  have BN7 := BN6.alloc (.cells #[.slice A6 L.length c6] 24)
  have h7 := h6.alloc h6.size (.cells #[.slice A6 L.length c6] 24)
  have SM := Lib.hid (rsame_claims _ _ L _ (OL.sl Z.Cl.vs_len (HO6.alloc (.cells #[.slice A6 L.length c6] 24))) (OL.sl Z.Cl.vs_len (hO6.alloc (.cells #[.slice A6 L.length c6] 24))))
  have hm7 := BM7.cell 0
  have hn7 := BN7.cell 0
  clear hr HL2 HE2 BN5 hn5 hb6 BN6 HO6 hO6 BM7 BN7 h6 HO5 h5 BL5
  go_wp2_with fail
  generalize (W6.alloc (.cells #[.slice A6 L.length c6] 24)) = W7 at *
  refine SM.out.mono ?_
  rintro e W8 ⟨rfl, hb8⟩
  have h8 := h7.trans (hb8.mono h7.size)
  go_wp2_with fail
  go_ret
  exact ⟨rfl, h8⟩

set_option maxRecDepth 100000 in
theorem lifted (os : Os) (started : os.Started) (H : Type) (enc : TypeId × Value → H) :
    ReturnsInHanded {} Try.checked os 7 .any (Rows.claimAgainSpec.pre6 enc Try.prog Try.f7 Rows.claimAgainRow.domain false) (Rows.claimAgainSpec.post enc Try.prog Try.f7 false true false false) := by
  refine returnsInHanded_of_change_shaped (C := Try.checked) own started (by kernel_rfl) Try.func7
    (ChangeSpec.witness6 (enc := enc) (C := Try.checked) false ⟨#[], #[.agg #[.slice none 0 0], .slice none 0 0, .int .i64 0, .int .i64 0], []⟩ 8 (by kernel_rfl) (by kernel_rfl) (by kernel_rfl) (by kernel_rfl)) ?_
  intro W base args ds gs before hval0 hW hcnd _ hsh _
  have hval : ∀ (j : Nat) t v, Try.f7.params[j]? = some t → args[j]? = some v → Value.okWide Try.prog W .any base t v := hval0
  have hW' := hW
  obtain ⟨p, q, hA0, hV, rfl, hfz, hnd⟩ := hW
  have hA : DataW.TrodAll enc Try.prog W 0 (fun _ => true) true Try.f7.params.toList args.toList ds p := hA0
  rw [Try.params7] at hA hval
  obtain ⟨v0, vs0, d0, ds0, p0, q0, hargs, rfl, rfl, h0, r0⟩ := trodAll_cons hA
  obtain ⟨v1, vs1, d1, ds1, p1, q1, rfl, rfl, rfl, h1, r1⟩ := trodAll_cons r0
  obtain ⟨v2, vs2, d2, ds2, p2, q2, rfl, rfl, rfl, h2, r2⟩ := trodAll_cons r1
  obtain ⟨v3, vs3, d3, ds3, p3, q3, rfl, rfl, rfl, h3, r3⟩ := trodAll_cons r2
  obtain ⟨rfl, rfl, rfl⟩ := trodAll_nil r3
  obtain rfl : args = #[v0, v1, v2, v3] := by cases args; simp_all
  obtain ⟨rfl, rfl⟩ := trodVars_none hV
  have k0 := h0
  obtain ⟨u0, l0, rfl, si0⟩ := claims_open (hval 0 24 v0 rfl rfl) h0
  have k1 := h1
  obtain ⟨l1, si1⟩ := flows_open (hval 1 25 v1 rfl rfl) h1
  obtain ⟨a2, rfl, rfl, rfl, w2⟩ := open_int Try.underlying3 (hval 2 3 v2 rfl rfl) h2
  obtain ⟨a3, rfl, rfl, rfl, w3⟩ := open_int Try.underlying3 (hval 3 3 v3 rfl rfl) h3
  clear hA0 hval0
  have bd2 := bounds_i64 w2
  have bd3 := bounds_i64 w3
  refine (walk u0 l0 v1 l1 a2 a3 W si0 si1 bd2.1 bd2.2 bd3.1 bd3.2 (Try.laysM145.s1_3 W hsh)).mono fun e W' ⟨he, bel⟩ => ?_
  subst he
  exact ⟨_, rfl, _, _, _, [], _, [], hW', trodAll_mk1 (shut_bool Try.underlying4 _), (trodAll_cons_mk (arg_stays (by kernel_rfl) (of_decide_eq_true (by kernel_rfl)) k0 bel) (trodAll_cons_mk (arg_stays (by kernel_rfl) (of_decide_eq_true (by kernel_rfl)) k1 bel) (trodAll_cons_mk (shut_int Try.underlying3 w2) (trodAll_cons_mk (shut_int Try.underlying3 w3) trodAll_mk0)))), rfl, bel.frame _, fun h => by cases h⟩

theorem over : Rows.claimAgainRow.holds Try.pinned (OpenSpec.ofChange Rows.claimAgainSpec) :=
  OpenClaim.holds_of_wide 7 Try.f7 rfl rfl rfl rfl rfl rfl rfl ⟨rfl, rfl, rfl, rfl, rfl⟩ rfl rfl rfl rfl rfl (by kernel_rfl) Try.func7 (by kernel_rfl)
    (of_decide_eq_true (by kernel_rfl)) (by unfold Func.isWrapper; first | (rw [if_pos (by decide +kernel)]; kernel_rfl) | (rw [if_neg (by decide +kernel)]; exact ⟨rfl, rfl⟩))
    (fun os started H enc _ => lifted os started H enc)

theorem proved : Rows.ClaimAgainSaid := over
#print axioms proved
