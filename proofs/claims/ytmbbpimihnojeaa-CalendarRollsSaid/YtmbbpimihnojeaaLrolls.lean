/-
  CalendarRolls: whatever the calendar, the day and the rule: Roll returns the reference's result and error. Conditions: none.
-/
import Derived.Test.YtmbbpimihnojeaaRows
import Derived.Test.YtmbbpimihnojeaaCrefc
import Derived.Test.YtmbbpimihnojeaaCframe
import Derived.ProofKit
import Derived.OpenShut
import Derived.ShutString
namespace Go.Proofs.Ytmbbpimihnojeaa.lawRolls
open Go.ChangeShapes Go.WideShapes Go.ChangeAt Go.RowKit
open Go.ChangeMaps (open_string shut_string)

theorem own : ownKnob Try.prog.godebug = none := by kernel_rfl

set_option maxHeartbeats 1000000 in
theorem walk (wk : Int) (u : Value) (hs : List Int) (a r : Int) (w : World) (h0 : 0 ≤ wk) (_h1 : wk ≤ 255) (hSI : SI w u hs) (_a0 : -9223372036854775808 ≤ a) (_a1 : a ≤ 9223372036854775807) (hr0 : 0 ≤ r) (_r1 : r ≤ 255) :
    Calls Try.prog 4 #[.agg #[.int .u8 wk, u], .int .i64 a, .int .u8 r] w fun e w' => e = .returned (.bool true) ∧ Below w.heap.size w w' := by
  clear _a0 _a1
  go_enter Try.func4, Try.ntmps4
  go_wp2_with fail
  have bC := Blk.new w 24 #[.int .u8 wk, u]
  have hb0 : Below w.heap.size w (w.alloc (.cells #[.int .u8 wk, u] 24)) := (Below.refl _ w).alloc (Nat.le_refl _) _
  refine (rgreat_any wk u hs _ (hSI.below hb0)).mono ?_
  rintro e w1 ⟨rfl, hb⟩
  have bC := bC.below hb
  have hb1 := hb0.trans (hb.mono hb0.size)
  clear hb hb0
  cases hg : great hs
  · have c0 := bC.cell 0
    have c1 := bC.cell 1
    go_wp2_with fail
    refine (croll_any wk u hs a r _ (hSI.below hb1) h0 hr0).mono ?_
    rintro e w2 ⟨rfl, hb⟩
    have bC := bC.below hb
    have hb2 := hb1.trans (hb.mono hb1.size)
    clear hb c0 c1
    have c0 := bC.cell 0
    have c1 := bC.cell 1
    go_wp2_with fail
    refine (rroll_any wk u hs a r _ (hSI.below hb2) h0 hr0).mono ?_
    rintro e w3 ⟨rfl, hb⟩
    have hb3 := hb2.trans (hb.mono hb2.size)
    clear hb
    generalize (Z.roll wk hs a r).1 = x1
    generalize (Z.roll wk hs a r).2 = x2
    go_wp2_with fail
    go_ret
    exact ⟨rfl, hb3⟩
  · go_wp2_with fail
    go_ret
    exact ⟨rfl, hb1⟩

set_option maxRecDepth 100000 in
theorem lifted (os : Os) (started : os.Started) (H : Type) (enc : TypeId × Value → H) :
    ReturnsInHanded {} Try.checked os 4 .any (Rows.calendarRollsSpec.pre6 enc Try.prog Try.f4 Rows.calendarRollsRow.domain false) (Rows.calendarRollsSpec.post enc Try.prog Try.f4 false true false false) := by
  refine returnsInHanded_of_change (C := Try.checked) own started (by kernel_rfl) Try.func4
    (ChangeSpec.witness6 (enc := enc) (C := Try.checked) false ⟨#[], #[.agg #[.int .u8 0, .slice none 0 0], .int .i64 0, .int .u8 0], []⟩ 8 (by kernel_rfl) (by kernel_rfl) (by kernel_rfl) (by kernel_rfl)) ?_
  intro W base args ds gs before hval0 hW hcnd _
  have hval : ∀ (j : Nat) t v, Try.f4.params[j]? = some t → args[j]? = some v → Value.okWide Try.prog W .any base t v := hval0
  have hW' := hW
  obtain ⟨p, q, hA0, hV, rfl, hfz, hnd⟩ := hW
  have hA : DataW.TrodAll enc Try.prog W 0 (fun _ => true) true Try.f4.params.toList args.toList ds p := hA0
  rw [Try.params4] at hA hval
  obtain ⟨v0, vs0, d0, ds0, p0, q0, hargs, rfl, rfl, h0, r0⟩ := trodAll_cons hA
  obtain ⟨v1, vs1, d1, ds1, p1, q1, rfl, rfl, rfl, h1, r1⟩ := trodAll_cons r0
  obtain ⟨v2, vs2, d2, ds2, p2, q2, rfl, rfl, rfl, h2, r2⟩ := trodAll_cons r1
  obtain ⟨rfl, rfl, rfl⟩ := trodAll_nil r2
  obtain rfl : args = #[v0, v1, v2] := by cases args; simp_all
  obtain ⟨rfl, rfl⟩ := trodVars_none hV
  have k0 := h0
  obtain ⟨wk0, u0, hs0, rfl, wl0, wh0, si0⟩ := cal_open (hval 0 24 v0 rfl rfl) h0
  obtain ⟨a1, rfl, rfl, rfl, w1⟩ := open_int Try.underlying3 (hval 1 3 v1 rfl rfl) h1
  obtain ⟨a2, rfl, rfl, rfl, w2⟩ := open_int Try.underlying5 (hval 2 5 v2 rfl rfl) h2
  clear hA0 hval0
  have bd1 := bounds_i64 w1
  have bd2 := bounds_u8 w2
  refine (walk wk0 u0 hs0 a1 a2 W wl0 wh0 si0 bd1.1 bd1.2 bd2.1 bd2.2).mono fun e W' ⟨he, bel⟩ => ?_
  subst he
  exact ⟨_, rfl, _, _, _, [], _, [], hW', trodAll_mk1 (shut_bool Try.underlying4 _), (trodAll_cons_mk (arg_stays (by kernel_rfl) (of_decide_eq_true (by kernel_rfl)) k0 bel) (trodAll_cons_mk (shut_int Try.underlying3 w1) (trodAll_cons_mk (shut_int Try.underlying5 w2) trodAll_mk0))), rfl, bel.frame _, fun h => by cases h⟩

theorem over : Rows.calendarRollsRow.holds Try.pinned (OpenSpec.ofChange Rows.calendarRollsSpec) :=
  OpenClaim.holds_of_wide 4 Try.f4 rfl rfl rfl rfl rfl rfl rfl ⟨rfl, rfl, rfl, rfl, rfl⟩ rfl rfl rfl rfl rfl (by kernel_rfl) Try.func4 (by kernel_rfl)
    (of_decide_eq_true (by kernel_rfl)) (by unfold Func.isWrapper; first | (rw [if_pos (by decide +kernel)]; kernel_rfl) | (rw [if_neg (by decide +kernel)]; exact ⟨rfl, rfl⟩))
    (fun os started H enc _ => lifted os started H enc)

theorem proved : Rows.CalendarRollsSaid := over
#print axioms proved
