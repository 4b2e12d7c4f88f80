/-
  Check, Open and Net answer as the reference does, for any claims and names.
-/
import Derived.Test.YtdjghmpaopfboaaRows
import Derived.Test.YtdjghmpaopfboaaClsame
import Derived.Test.YtdjghmpaopfboaaClframe
import Derived.Test.YtdjghmpaopfboaaClopenr
import Derived.Test.YtdjghmpaopfboaaClnetr
import Derived.HandedShaped
import Derived.ProofKit
import Derived.OpenShut
import Derived.ShutString
namespace Go.Proofs.Ytdjghmpaopfboaa.lawTells
open Go.ChangeShapes Go.WideShapes Go.ChangeAt Go.RowKit
open Go.ChangeMaps (open_string shut_string)

theorem own : ownKnob Try.prog.godebug = none := by kernel_rfl

theorem open_uni {l : List Z.Cl} {w w' : World} {e : Ending} (h : OpenRet l w e w') : Below w.heap.size w w' ∧ ∃ v, e = .returned (.tuple #[v, .int .i64 (Z.clE l)]) ∧ SC w' v (if Z.valid l = true then Z.openL l else []) := by
  obtain ⟨hb, ⟨hv, rfl⟩ | ⟨hv, v, rfl, hO⟩⟩ := h
  · exact ⟨hb, _, by unfold Z.clE; rw [hv]; rfl, by rw [hv]; exact SL.nil_⟩
  · exact ⟨hb, v, by unfold Z.clE; rw [hv]; rfl, by rw [hv]; exact OL.sl (fun _ => rfl) hO⟩
theorem clE_either (l : List Z.Cl) : (Z.clE l = 0 ∧ Z.valid l = true) ∨ (Z.clE l = 8 ∧ Z.valid l = false) := by
  unfold Z.clE
  cases Z.valid l
  · exact .inr ⟨rfl, rfl⟩
  · exact .inl ⟨rfl, rfl⟩
set_option maxRecDepth 100000 in
set_option maxHeartbeats 8000000 in
theorem walk (u : Value) (l : List Z.Cl) (p c : ByteArray) (w : World) (hS : SC w u l) (hV : HasV w) :
    Calls Try.prog 4 #[.agg #[u], .string p, .string c] w fun e w' => e = .returned (.bool true) ∧ Below w.heap.size w w' := by
  have hb0 := (Below.refl _ w).alloc (Nat.le_refl w.heap.size) (.cells #[u] 24)
  have BL := Blk.new w 24 #[u]
  have hl0 := BL.cell 0
  have HS := Lib.hid hS
  have HV := Lib.hid hV
  clear hS hV
  have GR := Lib.hid (fun W (h : Below w.heap.size w W) => great_any u l W (HS.out.below h))
  go_enter Try.func4, Try.ntmps4
  go_wp2_with fail
  generalize (w.alloc (.cells #[u] 24)) = W0 at *
  refine (GR.out _ hb0).mono ?_
  rintro e W1 ⟨rfl, hb1⟩
  have h1 := hb0.trans (hb1.mono hb0.size)
  have BL1 := BL.below hb1
  clear BL hl0 hb0 hb1 GR
  have hl1 := BL1.cell 0
  cases hg : Z.greatB l
  case true =>
    go_wp2_with fail
    go_ret
    exact ⟨rfl, h1⟩
  obtain ⟨hlen, hsm⟩ := Z.great_no hg
  have HSM : Hid (∀ x ∈ l, x.fl.small) := Lib.hid (fun x hx => by have := hsm x hx; unfold Z.Fl.small; omega)
  clear hsm hg
  by_cases hp : 1000 < p.size
  · go_wp2_with fail
    go_ret
    exact ⟨rfl, h1⟩
  by_cases hc : 1000 < c.size
  · go_wp2_with fail
    go_ret
    exact ⟨rfl, h1⟩
  have OP := Lib.hid (fun W (h : Below w.heap.size w W) => open_any u l W (HS.out.below h) (HV.out.below h) HSM.out)
  have RO := Lib.hid (fun W (h : Below w.heap.size w W) => ropen_any u l W (HS.out.below h) HSM.out)
  have NE : Hid (∀ (W : World), Below w.heap.size w W → Calls Try.prog 18 #[.agg #[u], .string p, .string c] W (NetRet (Z.netR l p c) W)) := Lib.hid (fun W (h : Below w.heap.size w W) => net_any u l p c W (HS.out.below h) (HV.out.below h) HSM.out (by omega) (by omega))
  have RN : Hid (∀ (W : World), Below w.heap.size w W → Calls Try.prog 19 #[.agg #[u], .string p, .string c] W (NetRet (Z.netR l p c) W)) := Lib.hid (fun W (h : Below w.heap.size w W) => rnet_any u l p c W (HS.out.below h) (HV.out.below h) HSM.out (by omega) (by omega))
  unfold NetRet at NE RN
  have CK := Lib.hid (fun W (h : Below w.heap.size w W) => ccheckc_any u l W (HS.out.below h) (HV.out.below h) HSM.out)
  have VA := Lib.hid (fun W (h : Below w.heap.size w W) => rvalid_any u l W (HS.out.below h) HSM.out)
  go_wp2_with fail
  refine (OP.out _ h1).mono ?_
  intro e W2 hr
  obtain ⟨hb2, va, rfl, sa⟩ := open_uni hr
  have h2 := h1.trans (hb2.mono h1.size)
  have BL2 := BL1.below hb2
  clear hr OP BL1 hl1 hb2 h1
  have hl2 := BL2.cell 0
  go_wp2_with fail
  refine (RO.out _ h2).mono ?_
  intro e W3 hr
  obtain ⟨hb3, vb, rfl, sb⟩ := open_uni hr
  have sa := sa.below hb3
  have h3 := h2.trans (hb3.mono h2.size)
  have BL3 := BL2.below hb3
  clear hr RO BL2 hl2 hb3 h2
  have hl3 := BL3.cell 0
  go_wp2_with fail
  refine (NE.out _ h3).mono ?_
  rintro e W4 ⟨rfl, hb4⟩
  have sa := sa.below hb4
  have sb := sb.below hb4
  have h4 := h3.trans (hb4.mono h3.size)
  have BL4 := BL3.below hb4
  clear NE BL3 hl3 hb4 h3
  have hl4 := BL4.cell 0
  go_wp2_with fail
  refine (RN.out _ h4).mono ?_
  rintro e W5 ⟨rfl, hb5⟩
  have sa := sa.below hb5
  have sb := sb.below hb5
  have h5 := h4.trans (hb5.mono h4.size)
  have BL5 := BL4.below hb5
  clear RN BL4 hl4 hb5 h4
  have SM : Hid (∀ x : Ab W5, Calls Try.prog 15 #[va, vb] x.1 fun e w' => e = .returned (.bool true) ∧ Below x.1.heap.size x.1 w') := Lib.hid (fun x => rsame_claims va vb _ x.1 (sa.below x.2) (sb.below x.2))
  have CK5 := Lib.hid (fun x : Ab W5 => CK.out x.1 (h5.trans (Below.mono x.2 h5.size)))
  have VA5 := Lib.hid (fun x : Ab W5 => VA.out x.1 (h5.trans (Below.mono x.2 h5.size)))
  have hl5 : ∀ x : Ab W5, x.1.cell? ⟨w.heap.size, 0, none⟩ = some u := fun _ => (Ab.cells BL5).cell 0
  clear CK VA BL5 sa sb
  generalize Z.netR l p c = R at *
  obtain ⟨R1, R2⟩ := R
  simp only at *
  have s1 : (R1.toList == R1.toList) = true := by simp
  have s2 : (R2 == R2) = true := by simp
  go_upto_region 7 with fail
  rcases clE_either l with ⟨q1, q2⟩ | ⟨q1, q2⟩
  all_goals
    rw [q1] at CK5 ⊢
    rw [q2] at VA5
    clear q1 q2
    refine wp_region_above (by kernel_rfl) (by kernel_rfl) ?_
    repeat (go_big_quiet_step (first
      | (go_at_call 15; with_reducible exact Ab.step (SM.out _))
      | (go_at_call 20; with_reducible exact Ab.step (CK5.out _))
      | (go_at_call 21; with_reducible exact Ab.step (VA5.out _))))
    refine wpQuiet_nil ?_
    rintro _ ⟨q', rfl⟩
    go_wp2_with fail
    go_ret
    exact ⟨rfl, h5.trans (Below.mono q'.2 h5.size)⟩

set_option maxRecDepth 100000 in
theorem lifted (os : Os) (started : os.Started) (H : Type) (enc : TypeId × Value → H) :
    ReturnsInHanded {} Try.checked os 4 .any (Rows.claimTellsSpec.pre6 enc Try.prog Try.f4 Rows.claimTellsRow.domain false) (Rows.claimTellsSpec.post enc Try.prog Try.f4 false true false false) := by
  refine returnsInHanded_of_change_shaped (C := Try.checked) own started (by kernel_rfl) Try.func4
    (ChangeSpec.witness6 (enc := enc) (C := Try.checked) false ⟨#[], #[.agg #[.slice none 0 0], .string ByteArray.empty, .string ByteArray.empty], []⟩ 8 (by kernel_rfl) (by kernel_rfl) (by kernel_rfl) (by kernel_rfl)) ?_
  intro W base args ds gs before hval0 hW hcnd _ hsh _
  have hval : ∀ (j : Nat) t v, Try.f4.params[j]? = some t → args[j]? = some v → Value.okWide Try.prog W .any base t v := hval0
  have hW' := hW
  obtain ⟨p, q, hA0, hV, rfl, hfz, hnd⟩ := hW
  have hA : DataW.TrodAll enc Try.prog W 0 (fun _ => true) true Try.f4.params.toList args.toList ds p := hA0
  rw [Try.params4] at hA hval
  obtain ⟨v0, vs0, d0, ds0, p0, q0, hargs, rfl, rfl, h0, r0⟩ := trodAll_cons hA
  obtain ⟨v1, vs1, d1, ds1, p1, q1, rfl, rfl, rfl, h1, r1⟩ := trodAll_cons r0
  obtain ⟨v2, vs2, d2, ds2, p2, q2, rfl, rfl, rfl, h2, r2⟩ := trodAll_cons r1
  obtain ⟨rfl, rfl, rfl⟩ := trodAll_nil r2
  obtain rfl : args = #[v0, v1, v2] := by cases args; simp_all
  obtain ⟨rfl, rfl⟩ := trodVars_none hV
  have k0 := h0
  obtain ⟨u0, l0, rfl, si0⟩ := claims_open (hval 0 24 v0 rfl rfl) h0
  obtain ⟨a1, rfl, rfl, rfl, w1⟩ := open_string Try.underlying9 (hval 1 9 v1 rfl rfl) h1
  obtain ⟨a2, rfl, rfl, rfl, w2⟩ := open_string Try.underlying9 (hval 2 9 v2 rfl rfl) h2
  clear hA0 hval0
  refine (walk u0 l0 a1 a2 W si0 (Try.laysM145.s1_3 W hsh)).mono fun e W' ⟨he, bel⟩ => ?_
  subst he
  exact ⟨_, rfl, _, _, _, [], _, [], hW', trodAll_mk1 (shut_bool Try.underlying4 _), (trodAll_cons_mk (arg_stays (by kernel_rfl) (of_decide_eq_true (by kernel_rfl)) k0 bel) (trodAll_cons_mk (shut_string Try.underlying9 w1) (trodAll_cons_mk (shut_string Try.underlying9 w2) trodAll_mk0))), rfl, bel.frame _, fun h => by cases h⟩

theorem over : Rows.claimTellsRow.holds Try.pinned (OpenSpec.ofChange Rows.claimTellsSpec) :=
  OpenClaim.holds_of_wide 4 Try.f4 rfl rfl rfl rfl rfl rfl rfl ⟨rfl, rfl, rfl, rfl, rfl⟩ rfl rfl rfl rfl rfl (by kernel_rfl) Try.func4 (by kernel_rfl)
    (of_decide_eq_true (by kernel_rfl)) (by unfold Func.isWrapper; first | (rw [if_pos (by decide +kernel)]; kernel_rfl) | (rw [if_neg (by decide +kernel)]; exact ⟨rfl, rfl⟩))
    (fun os started H enc _ => lifted os started H enc)

theorem proved : Rows.ClaimTellsSaid := over
#print axioms proved
