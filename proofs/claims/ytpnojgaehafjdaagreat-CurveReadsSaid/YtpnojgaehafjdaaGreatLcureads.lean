/-
  Check, Factor and Between return the results and errors of the reference.
-/
import Derived.Test.YtpnojgaehafjdaaGreatRows
import Derived.Test.YtpnojgaehafjdaaGreatCvrb
import Derived.Test.YtpnojgaehafjdaaGreatCvh
import Derived.Test.YtpnojgaehafjdaaGreatCvfr
import Derived.HandedShaped
import Derived.ProofKit
import Derived.OpenShut
import Derived.ShutString
namespace Go.Proofs.YtpnojgaehafjdaaGreat.lawReads
open Go.ChangeShapes Go.WideShapes Go.ChangeAt Go.RowKit
open Go.ChangeMaps (open_string shut_string)

theorem own : ownKnob Tryz.prog.godebug = none := by kernel_rfl

set_option maxRecDepth 100000 in
set_option maxHeartbeats 16000000 in
theorem walk (u : Value) (c : Z.Cu) (x y : Int) (w : World) (hS : SP w u c.pts) (_e0 : -9223372036854775808 ≤ x) (_e1 : x ≤ 9223372036854775807) (_e2 : -9223372036854775808 ≤ y) (_e3 : y ≤ 9223372036854775807) (hV : HasV w) :
    Calls Tryz.prog 3 #[.agg #[.int .i64 c.base, u], .int .i64 x, .int .i64 y] w fun e w' => e = .returned (.bool true) ∧ Below w.heap.size w w' := by
  have h0 := (Below.refl _ w).alloc (Nat.le_refl w.heap.size) (.cells #[.int .i64 c.base, u] 24)
  have BC0 := Blk.new w 24 #[.int .i64 c.base, u]
  have c0 := BC0.cell 0
  have c1 := BC0.cell 1
  have HS := Lib.hid hS
  have HV := Lib.hid hV
  clear hS hV
  go_enter Tryz.func3, Tryz.ntmps3
  go_wp2_with fail
  generalize (w.alloc (.cells #[.int .i64 c.base, u] 24)) = W0 at *
  refine (greatcu_any c u W0 (HS.out.below h0)).mono ?_
  rintro e W1 ⟨rfl, hb⟩
  have h1 := h0.trans (hb.mono h0.size)
  have BC1 := BC0.below hb
  clear hb c0 c1 BC0
  have c0 := BC1.cell 0
  have c1 := BC1.cell 1
  cases hg : Z.greatC c
  case true =>
    go_wp2_with fail
    go_ret
    exact ⟨rfl, h1⟩
  obtain ⟨hgl, hgs⟩ := greatc_csm hg
  have HCS : Hid (CSm c) := Lib.hid (fun p hp => by have := hgs p hp; omega)
  clear hg hgl hgs _e0 _e1 _e2 _e3
  have CF : Hid (∀ W, Below w.heap.size w W → Calls Tryz.prog 6 #[.agg #[.int .i64 c.base, u], .int .i64 x] W (RRet (Z.factorR c x) W)) := Lib.hid fun W h => factorF_any c u x W (HS.out.below h) (HV.out.below h) HCS.out
  have CG : Hid (∀ W, Below w.heap.size w W → Calls Tryz.prog 7 #[.agg #[.int .i64 c.base, u], .int .i64 x] W (RRet (Z.factorR c x) W)) := Lib.hid fun W h => rfactor_any c u x W (HS.out.below h) HCS.out
  have CB : Hid (∀ W, Below w.heap.size w W → Calls Tryz.prog 8 #[.agg #[.int .i64 c.base, u], .int .i64 x, .int .i64 y] W (RRet (Z.betweenR c x y) W)) := Lib.hid fun W h => between_any c u x y W (HS.out.below h) (HV.out.below h) HCS.out
  have CD : Hid (∀ W, Below w.heap.size w W → Calls Tryz.prog 9 #[.agg #[.int .i64 c.base, u], .int .i64 x, .int .i64 y] W (RRet (Z.betweenR c x y) W)) := Lib.hid fun W h => rbetween_any c u x y W (HS.out.below h) HCS.out
  generalize Z.factorR c x = pF at *
  generalize Z.betweenR c x y = pB at *
  go_wp2_with fail
  refine (CF.out W1 h1).mono ?_
  rintro e W2 ⟨rfl, hb⟩
  have h2 := h1.trans (hb.mono h1.size)
  have BC2 := BC1.below hb
  clear hb c0 c1 BC1
  have c0 := BC2.cell 0
  have c1 := BC2.cell 1
  go_wp2_with fail
  refine (CG.out W2 h2).mono ?_
  rintro e W3 ⟨rfl, hb⟩
  have h3 := h2.trans (hb.mono h2.size)
  have BC3 := BC2.below hb
  clear hb c0 c1 BC2
  have c0 := BC3.cell 0
  have c1 := BC3.cell 1
  go_wp2_with fail
  refine (CB.out W3 h3).mono ?_
  rintro e W4 ⟨rfl, hb⟩
  have h4 := h3.trans (hb.mono h3.size)
  have BC4 := BC3.below hb
  clear hb c0 c1 BC3
  have c0 := BC4.cell 0
  have c1 := BC4.cell 1
  go_wp2_with fail
  refine (CD.out W4 h4).mono ?_
  rintro e W5 ⟨rfl, hb⟩
  have h5 := h4.trans (hb.mono h4.size)
  have BC5 := BC4.below hb
  clear hb c0 c1 BC4
  have c0 := BC5.cell 0
  have c1 := BC5.cell 1
  have C1 : Hid (∀ x : Ab W5, Calls Tryz.prog 10 #[.agg #[.int .i64 c.base, u]] x.1 fun e w' => e = .returned (.int .i64 (Z.cuE c)) ∧ Below x.1.heap.size x.1 w') := Lib.hid fun x => cucheck_any c u x.1 (HS.out.below (h5.trans (x.2.mono h5.size))) (HV.out.below (h5.trans (x.2.mono h5.size))) HCS.out
  have C2 : Hid (∀ x : Ab W5, Calls Tryz.prog 11 #[.agg #[.int .i64 c.base, u]] x.1 fun e w' => e = .returned (.int .i64 (Z.cuE c)) ∧ Below x.1.heap.size x.1 w') := Lib.hid fun x => rcucheck_any c u x.1 (HS.out.below (h5.trans (x.2.mono h5.size))) HCS.out
  have f0 : ∀ x : Ab W5, x.1.cell? ⟨w.heap.size, 0, none⟩ = some (.int .i64 c.base) := fun x => (Ab.cells (x := x) BC5).cell 0
  have f1 : ∀ x : Ab W5, x.1.cell? ⟨w.heap.size, 1, none⟩ = some u := fun x => (Ab.cells (x := x) BC5).cell 1
  generalize Z.cuE c = kE at *
  clear CF CG CB CD HCS
  go_upto_region 7 with fail
  refine wp_region_above (by kernel_rfl) (by kernel_rfl) ?_
  repeat (go_big_quiet_step (first | (go_at_call 10; with_reducible exact Ab.step (C1.out _)) | (go_at_call 11; with_reducible exact Ab.step (C2.out _))))
  refine wpQuiet_nil ?_
  rintro _ ⟨x, rfl⟩
  have hx := h5.trans (x.2.mono h5.size)
  clear f0 f1 C1 C2
  go_wp2_with fail
  go_ret
  exact ⟨rfl, hx⟩

set_option maxRecDepth 100000 in
theorem lifted (os : Os) (started : os.Started) (H : Type) (enc : TypeId × Value → H) :
    ReturnsInHanded {} Tryz.checked os 3 .any (Rows.curveReadsSpec.pre6 enc Tryz.prog Tryz.f3 Rows.curveReadsRow.domain false) (Rows.curveReadsSpec.post enc Tryz.prog Tryz.f3 false true false false) := by
  refine returnsInHanded_of_change_shaped (C := Tryz.checked) own started (by kernel_rfl) Tryz.func3
    (ChangeSpec.witness6 (enc := enc) (C := Tryz.checked) false ⟨#[], #[.agg #[.int .i64 0, .slice none 0 0], .int .i64 0, .int .i64 0], []⟩ 8 (by kernel_rfl) (by kernel_rfl) (by kernel_rfl) (by kernel_rfl)) ?_
  intro W base args ds gs before hval0 hW hcnd _ hsh _
  have hval : ∀ (j : Nat) t v, Tryz.f3.params[j]? = some t → args[j]? = some v → Value.okWide Tryz.prog W .any base t v := hval0
  have hW' := hW
  obtain ⟨p, q, hA0, hV, rfl, hfz, hnd⟩ := hW
  have hA : DataW.TrodAll enc Tryz.prog W 0 (fun _ => true) true Tryz.f3.params.toList args.toList ds p := hA0
  rw [Tryz.params3] at hA hval
  obtain ⟨v0, vs0, d0, ds0, p0, q0, hargs, rfl, rfl, h0, r0⟩ := trodAll_cons hA
  obtain ⟨v1, vs1, d1, ds1, p1, q1, rfl, rfl, rfl, h1, r1⟩ := trodAll_cons r0
  obtain ⟨v2, vs2, d2, ds2, p2, q2, rfl, rfl, rfl, h2, r2⟩ := trodAll_cons r1
  obtain ⟨rfl, rfl, rfl⟩ := trodAll_nil r2
  obtain rfl : args = #[v0, v1, v2] := by cases args; simp_all
  obtain ⟨rfl, rfl⟩ := trodVars_none hV
  have k0 := h0
  obtain ⟨u0, l0, rfl, si0⟩ := curve_open (hval 0 24 v0 rfl rfl) h0
  obtain ⟨a1, rfl, rfl, rfl, w1⟩ := open_int Tryz.underlying3 (hval 1 3 v1 rfl rfl) h1
  obtain ⟨a2, rfl, rfl, rfl, w2⟩ := open_int Tryz.underlying3 (hval 2 3 v2 rfl rfl) h2
  clear hA0 hval0
  have bd1 := bounds_i64 w1
  have bd2 := bounds_i64 w2
  refine (walk u0 l0 a1 a2 W si0 bd1.1 bd1.2 bd2.1 bd2.2 (Tryz.laysM145.s1_3 W hsh)).mono fun e W' ⟨he, bel⟩ => ?_
  subst he
  exact ⟨_, rfl, _, _, _, [], _, [], hW', trodAll_mk1 (shut_bool Tryz.underlying4 _), (trodAll_cons_mk (arg_stays (by kernel_rfl) (of_decide_eq_true (by kernel_rfl)) k0 bel) (trodAll_cons_mk (shut_int Tryz.underlying3 w1) (trodAll_cons_mk (shut_int Tryz.underlying3 w2) trodAll_mk0))), rfl, bel.frame _, fun h => by cases h⟩

theorem over : Rows.curveReadsRow.holds Tryz.pinned (OpenSpec.ofChange Rows.curveReadsSpec) :=
  OpenClaim.holds_of_wide 3 Tryz.f3 rfl rfl rfl rfl rfl rfl rfl ⟨rfl, rfl, rfl, rfl, rfl⟩ rfl rfl rfl rfl rfl (by kernel_rfl) Tryz.func3 (by kernel_rfl)
    (of_decide_eq_true (by kernel_rfl)) (by unfold Func.isWrapper; first | (rw [if_pos (by decide +kernel)]; kernel_rfl) | (rw [if_neg (by decide +kernel)]; exact ⟨rfl, rfl⟩))
    (fun os started H enc _ => lifted os started H enc)

theorem proved : Rows.CurveReadsSaid := over
#print axioms proved
