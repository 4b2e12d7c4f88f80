/-
  The examples of chapter 05, its limits and errors.
-/
import Derived.Test.YtblelgmedononaaRows
import Derived.Test.YtblelgmedononaaDgives
import Derived.ProofKit
import Derived.OpenShut
import Derived.ShutString
namespace Go.Proofs.Ytblelgmedononaa.lawNames
open Go.ChangeShapes Go.WideShapes Go.ChangeAt Go.RowKit
open Go.ChangeMaps (open_string shut_string)

theorem own : ownKnob Try.prog.godebug = none := by kernel_rfl

theorem dv1 : (Z.days 4 45304 45502).1 = 196 ∧ (Z.days 4 45304 45502).2 = 0 := by
  refine ⟨?_, Z.days_dom.2 ⟨by omega, by decide, by decide⟩⟩
  rw [days_ruled (by omega) (by decide) (by decide) (by omega)]
  unfold Z.ruled
  rw [if_neg (by omega), if_pos rfl, dt45304.thirty1 dt45502]
  decide
theorem dv2 : (Z.days 2 45349 45350).1 = 2 ∧ (Z.days 2 45349 45350).2 = 0 := by
  refine ⟨?_, Z.days_dom.2 ⟨by omega, by decide, by decide⟩⟩
  rw [days_ruled (by omega) (by decide) (by decide) (by omega)]
  unfold Z.ruled
  rw [if_pos rfl, dt45349.thirty0 dt45350, dt45349.T, dt45350.T]
  decide
theorem no_dom {rule a b : Int} (h : ¬ (rule ≤ 4 ∧ Z.inR a = true ∧ Z.inR b = true)) : (Z.days rule a b).1 = 0 ∧ (Z.days rule a b).2 = 2 ∧ Z.yrS rule a b = ⟨#[]⟩ := by
  have hn : (Z.days rule a b).2 ≠ 0 := fun hh => h (Z.days_dom.1 hh)
  obtain ⟨e1, e2⟩ := days_err hn
  exact ⟨e2, e1, by unfold Z.yrS; rw [if_neg hn]⟩
set_option maxRecDepth 100000 in
set_option maxHeartbeats 16000000 in
theorem walk (w : World) :
    Calls Try.prog 4 #[] w fun e w' => e = .returned (.bool true) ∧ Below w.heap.size w w' := by
  have AL := Lib.hid dalive_any
  have F1 := Lib.hid (fun W : World => fraction_any 5 0 1 W (by omega) (by omega))
  have D1 := Lib.hid (fun W : World => days_any 0 (-1) 1 W (by omega) (by omega))
  have D2 := Lib.hid (fun W : World => days_any 0 1 100000 W (by omega) (by omega))
  have D3 := Lib.hid (fun W : World => days_any 4 45304 45502 W (by omega) (by omega))
  have D4 := Lib.hid (fun W : World => days_any 4 45502 45304 W (by omega) (by omega))
  have D5 := Lib.hid (fun W : World => days_any 2 45349 45350 W (by omega) (by omega))
  have G1 := Lib.hid gives8
  have G2 := Lib.hid gives9
  have G3 := Lib.hid gives10
  have G4 := Lib.hid gives11
  unfold DaysRet FracRet GV at *
  obtain ⟨a1, a2, a3⟩ := no_dom (rule := 5) (a := 0) (b := 1) (by omega)
  obtain ⟨b1, b2, _⟩ := no_dom (rule := 0) (a := -1) (b := 1) (by decide)
  obtain ⟨c1, c2, _⟩ := no_dom (rule := 0) (a := 1) (b := 100000) (by decide)
  rw [a2, a3] at F1
  rw [b1, b2] at D1
  rw [c1, c2] at D2
  rw [dv1.1, dv1.2] at D3
  rw [(Z.days_swap 4 45304 45502).1, (Z.days_swap 4 45304 45502).2, dv1.1, dv1.2] at D4
  rw [dv2.1, dv2.2] at D5
  clear a1 a2 a3 b1 b2 c1 c2
  go_enter Try.func4, Try.ntmps4
  go_wp2_with fail
  refine (F1.out _).mono ?_
  rintro e w1 ⟨rfl, hb1⟩
  have c1 := hb1
  clear hb1
  go_wp2_with fail
  refine (D1.out _).mono ?_
  rintro e w2 ⟨rfl, hb2⟩
  have c2 := c1.trans (hb2.mono c1.size)
  clear c1 hb2
  go_wp2_with fail
  refine (D2.out _).mono ?_
  rintro e w3 ⟨rfl, hb3⟩
  have c3 := c2.trans (hb3.mono c2.size)
  clear c2 hb3
  go_wp2_with fail
  refine (D3.out _).mono ?_
  rintro e w4 ⟨rfl, hb4⟩
  have c4 := c3.trans (hb4.mono c3.size)
  clear c3 hb4
  go_wp2_with fail
  refine (D4.out _).mono ?_
  rintro e w5 ⟨rfl, hb5⟩
  have c5 := c4.trans (hb5.mono c4.size)
  clear c4 hb5
  go_wp2_with fail
  refine (D5.out _).mono ?_
  rintro e w6 ⟨rfl, hb6⟩
  have c6 := c5.trans (hb6.mono c5.size)
  clear c5 hb6
  go_wp2_with fail
  refine (G1.out _).mono ?_
  rintro e w7 ⟨rfl, hb7⟩
  have c7 := c6.trans (hb7.mono c6.size)
  clear c6 hb7
  go_wp2_with fail
  refine (G2.out _).mono ?_
  rintro e w8 ⟨rfl, hb8⟩
  have c8 := c7.trans (hb8.mono c7.size)
  clear c7 hb8
  go_wp2_with fail
  refine (G3.out _).mono ?_
  rintro e w9 ⟨rfl, hb9⟩
  have c9 := c8.trans (hb9.mono c8.size)
  clear c8 hb9
  go_wp2_with fail
  refine (G4.out _).mono ?_
  rintro e w10 ⟨rfl, hb10⟩
  have c10 := c9.trans (hb10.mono c9.size)
  clear c9 hb10
  go_wp2_with fail
  refine (AL.out _).mono ?_
  rintro e w11 ⟨rfl, hb11⟩
  have c11 := c10.trans (hb11.mono c10.size)
  clear c10 hb11
  go_wp2_with fail
  all_goals (go_ret; refine ⟨ret_bool ?_, c11⟩; first | rfl | (simp; done) | (simp; omega))

set_option maxRecDepth 100000 in
theorem lifted (os : Os) (started : os.Started) (H : Type) (enc : TypeId × Value → H) :
    ReturnsInHanded {} Try.checked os 4 .any (Rows.daycountNamesSpec.pre6 enc Try.prog Try.f4 Rows.daycountNamesRow.domain false) (Rows.daycountNamesSpec.post enc Try.prog Try.f4 false true false false) := by
  refine returnsInHanded_of_change (C := Try.checked) own started (by kernel_rfl) Try.func4
    (ChangeSpec.witness6 (enc := enc) (C := Try.checked) false ⟨#[], #[], []⟩ 8 (by kernel_rfl) (by kernel_rfl) (by kernel_rfl) (by kernel_rfl)) ?_
  intro W base args ds gs before hval0 hW hcnd _
  have hval : ∀ (j : Nat) t v, Try.f4.params[j]? = some t → args[j]? = some v → Value.okWide Try.prog W .any base t v := hval0
  have hW' := hW
  obtain ⟨p, q, hA0, hV, rfl, hfz, hnd⟩ := hW
  have hA : DataW.TrodAll enc Try.prog W 0 (fun _ => true) true Try.f4.params.toList args.toList ds p := hA0
  rw [Try.params4] at hA hval
  obtain ⟨hargs, rfl, rfl⟩ := trodAll_nil hA
  obtain rfl : args = #[] := by cases args; simp_all
  obtain ⟨rfl, rfl⟩ := trodVars_none hV
  clear hA0 hval0
  simp only [List.append_nil] at hW'
  refine (walk W).mono fun e W' ⟨he, bel⟩ => ?_
  subst he
  exact ⟨_, rfl, _, _, _, [], _, [], hW', trodAll_mk1 (shut_bool Try.underlying4 _), trodAll_mk0, rfl, bel.frame _, fun h => by cases h⟩

theorem over : Rows.daycountNamesRow.holds Try.pinned (OpenSpec.ofChange Rows.daycountNamesSpec) :=
  OpenClaim.holds_of_wide 4 Try.f4 rfl rfl rfl rfl rfl rfl rfl ⟨rfl, rfl, rfl, rfl, rfl⟩ rfl rfl rfl rfl rfl (by kernel_rfl) Try.func4 (by kernel_rfl)
    (of_decide_eq_true (by kernel_rfl)) (by unfold Func.isWrapper; first | (rw [if_pos (by decide +kernel)]; kernel_rfl) | (rw [if_neg (by decide +kernel)]; exact ⟨rfl, rfl⟩))
    (fun os started H enc _ => lifted os started H enc)

theorem proved : Rows.DaycountNamesSaid := over
#print axioms proved
