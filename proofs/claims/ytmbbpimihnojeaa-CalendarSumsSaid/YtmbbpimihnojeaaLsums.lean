/-
  CalendarSums: whatever the calendar and the days: counts add up, and change their sign when the days are exchanged. Conditions: none.
-/
import Derived.Test.YtmbbpimihnojeaaRows
import Derived.Test.YtmbbpimihnojeaaCrefb
import Derived.Test.YtmbbpimihnojeaaZcalb
import Derived.Test.YtmbbpimihnojeaaCalive
import Derived.Test.YtmbbpimihnojeaaCframe
import Derived.ProofKit
import Derived.OpenShut
import Derived.ShutString
namespace Go.Proofs.Ytmbbpimihnojeaa.lawSums
open Go.ChangeShapes Go.WideShapes Go.ChangeAt Go.RowKit
open Go.ChangeMaps (open_string shut_string)

theorem own : ownKnob Try.prog.godebug = none := by kernel_rfl

set_option maxRecDepth 100000 in
set_option maxHeartbeats 1000000 in
theorem walk (wk : Int) (u : Value) (hs : List Int) (a b d : Int) (w : World) (h0 : 0 ≤ wk) (_h1 : wk ≤ 255) (hSI : SI w u hs) (_a0 : -9223372036854775808 ≤ a) (_a1 : a ≤ 9223372036854775807) (_b0 : -9223372036854775808 ≤ b) (_b1 : b ≤ 9223372036854775807) (_n0 : -9223372036854775808 ≤ d) (_n1 : d ≤ 9223372036854775807) :
    Calls Try.prog 5 #[.agg #[.int .u8 wk, u], .int .i64 a, .int .i64 b, .int .i64 d] w fun e w' => e = .returned (.bool true) ∧ Below w.heap.size w w' := by
  clear _a0 _a1 _b0 _b1 _n0 _n1
  obtain ⟨x1, e1, x2, e2, x3, e3, x4, e4, q1, q2, q3, q4, hc⟩ := Z.sums_cases wk hs a b d
  have hC : ∀ (x y n f : Int) (W : World), Z.count wk hs x y = (n, f) → SI W u hs → Calls Try.prog 14 #[.agg #[.int .u8 wk, u], .int .i64 x, .int .i64 y] W fun e w' => e = .returned (.tuple #[.int .i64 n, .int .i64 f]) ∧ Below W.heap.size W w' := by
    intro x y n f W hx hS
    have := ccount_any wk u hs x y W hS h0
    unfold CountRet at this
    rwa [hx] at this
  have HC := Lib.hid hC
  have Q1 := Lib.hid q1
  have Q2 := Lib.hid q2
  have Q3 := Lib.hid q3
  have Q4 := Lib.hid q4
  clear hC q1 q2 q3 q4
  go_enter Try.func5, Try.ntmps5
  go_wp2_with fail
  have bC := Blk.new w 24 #[.int .u8 wk, u]
  have hb0 : Below w.heap.size w (w.alloc (.cells #[.int .u8 wk, u] 24)) := (Below.refl _ w).alloc (Nat.le_refl _) _
  refine (alive_any _).mono ?_
  rintro e w1 ⟨rfl, hb⟩
  have bC := bC.below hb
  have hb1 := hb0.trans (hb.mono hb0.size)
  clear hb hb0
  have c0 := bC.cell 0
  have c1 := bC.cell 1
  go_wp2_with fail
  refine (rgreat_any wk u hs _ (hSI.below hb1)).mono ?_
  rintro e w2 ⟨rfl, hb⟩
  have bC := bC.below hb
  have hb2 := hb1.trans (hb.mono hb1.size)
  clear hb c0 c1
  cases hg : great hs
  · have c0 := bC.cell 0
    have c1 := bC.cell 1
    go_wp2_with fail
    refine (HC.out _ _ _ _ _ Q1.out (hSI.below hb2)).mono ?_
    rintro e w3 ⟨rfl, hb⟩
    have bC := bC.below hb
    have hb3 := hb2.trans (hb.mono hb2.size)
    clear hb c0 c1
    have c0 := bC.cell 0
    have c1 := bC.cell 1
    go_wp2_with fail
    refine (HC.out _ _ _ _ _ Q2.out (hSI.below hb3)).mono ?_
    rintro e w4 ⟨rfl, hb⟩
    have bC := bC.below hb
    have hb4 := hb3.trans (hb.mono hb3.size)
    clear hb c0 c1
    have c0 := bC.cell 0
    have c1 := bC.cell 1
    go_wp2_with fail
    refine (HC.out _ _ _ _ _ Q3.out (hSI.below hb4)).mono ?_
    rintro e w5 ⟨rfl, hb⟩
    have bC := bC.below hb
    have hb5 := hb4.trans (hb.mono hb4.size)
    clear hb c0 c1
    have c0 := bC.cell 0
    have c1 := bC.cell 1
    go_wp2_with fail
    refine (HC.out _ _ _ _ _ Q4.out (hSI.below hb5)).mono ?_
    rintro e w6 ⟨rfl, hb⟩
    have hb6 := hb5.trans (hb.mono hb5.size)
    clear hb c0 c1 Q1 Q2 Q3 Q4 HC
    rcases hc with ⟨rfl, f1, rfl, f2⟩ | ⟨rfl, rfl, f2⟩ | ⟨rfl, f1, rfl⟩ | ⟨p, q, r, p0, p1, p2, p3, p4, p5, rfl, rfl, rfl, rfl, rfl, rfl, rfl, rfl⟩
    · have g1 : (e1 != 0) = true := by simp [bne, f1]
      have g2 : (e2 != 0) = true := by simp [bne, f2]
      go_wp2_with fail
      go_ret
      exact ⟨rfl, hb6⟩
    · have g2 : (e2 != 0) = true := by simp [bne, f2]
      go_wp2_with fail
      go_ret
      exact ⟨rfl, hb6⟩
    · have g1 : (e1 != 0) = true := by simp [bne, f1]
      go_wp2_with fail
      go_ret
      exact ⟨rfl, hb6⟩
    · have g1 : ((q - p + (r - q) : Int) == r - p) = true := by rw [beq_iff_eq]; omega
      have g2 : ((p - q : Int) == -(q - p)) = true := by rw [beq_iff_eq]; omega
      go_wp2_with fail
      go_ret
      exact ⟨rfl, hb6⟩
  · go_wp2_with fail
    go_ret
    exact ⟨rfl, hb2⟩

set_option maxRecDepth 100000 in
theorem lifted (os : Os) (started : os.Started) (H : Type) (enc : TypeId × Value → H) :
    ReturnsInHanded {} Try.checked os 5 .any (Rows.calendarSumsSpec.pre6 enc Try.prog Try.f5 Rows.calendarSumsRow.domain false) (Rows.calendarSumsSpec.post enc Try.prog Try.f5 false true false false) := by
  refine returnsInHanded_of_change (C := Try.checked) own started (by kernel_rfl) Try.func5
    (ChangeSpec.witness6 (enc := enc) (C := Try.checked) false ⟨#[], #[.agg #[.int .u8 0, .slice none 0 0], .int .i64 0, .int .i64 0, .int .i64 0], []⟩ 8 (by kernel_rfl) (by kernel_rfl) (by kernel_rfl) (by kernel_rfl)) ?_
  intro W base args ds gs before hval0 hW hcnd _
  have hval : ∀ (j : Nat) t v, Try.f5.params[j]? = some t → args[j]? = some v → Value.okWide Try.prog W .any base t v := hval0
  have hW' := hW
  obtain ⟨p, q, hA0, hV, rfl, hfz, hnd⟩ := hW
  have hA : DataW.TrodAll enc Try.prog W 0 (fun _ => true) true Try.f5.params.toList args.toList ds p := hA0
  rw [Try.params5] at hA hval
  obtain ⟨v0, vs0, d0, ds0, p0, q0, hargs, rfl, rfl, h0, r0⟩ := trodAll_cons hA
  obtain ⟨v1, vs1, d1, ds1, p1, q1, rfl, rfl, rfl, h1, r1⟩ := trodAll_cons r0
  obtain ⟨v2, vs2, d2, ds2, p2, q2, rfl, rfl, rfl, h2, r2⟩ := trodAll_cons r1
  obtain ⟨v3, vs3, d3, ds3, p3, q3, rfl, rfl, rfl, h3, r3⟩ := trodAll_cons r2
  obtain ⟨rfl, rfl, rfl⟩ := trodAll_nil r3
  obtain rfl : args = #[v0, v1, v2, v3] := by cases args; simp_all
  obtain ⟨rfl, rfl⟩ := trodVars_none hV
  have k0 := h0
  obtain ⟨wk0, u0, hs0, rfl, wl0, wh0, si0⟩ := cal_open (hval 0 24 v0 rfl rfl) h0
  obtain ⟨a1, rfl, rfl, rfl, w1⟩ := open_int Try.underlying3 (hval 1 3 v1 rfl rfl) h1
  obtain ⟨a2, rfl, rfl, rfl, w2⟩ := open_int Try.underlying3 (hval 2 3 v2 rfl rfl) h2
  obtain ⟨a3, rfl, rfl, rfl, w3⟩ := open_int Try.underlying3 (hval 3 3 v3 rfl rfl) h3
  clear hA0 hval0
  have bd1 := bounds_i64 w1
  have bd2 := bounds_i64 w2
  have bd3 := bounds_i64 w3
  refine (walk wk0 u0 hs0 a1 a2 a3 W wl0 wh0 si0 bd1.1 bd1.2 bd2.1 bd2.2 bd3.1 bd3.2).mono fun e W' ⟨he, bel⟩ => ?_
  subst he
  exact ⟨_, rfl, _, _, _, [], _, [], hW', trodAll_mk1 (shut_bool Try.underlying4 _), (trodAll_cons_mk (arg_stays (by kernel_rfl) (of_decide_eq_true (by kernel_rfl)) k0 bel) (trodAll_cons_mk (shut_int Try.underlying3 w1) (trodAll_cons_mk (shut_int Try.underlying3 w2) (trodAll_cons_mk (shut_int Try.underlying3 w3) trodAll_mk0)))), rfl, bel.frame _, fun h => by cases h⟩

theorem over : Rows.calendarSumsRow.holds Try.pinned (OpenSpec.ofChange Rows.calendarSumsSpec) :=
  OpenClaim.holds_of_wide 5 Try.f5 rfl rfl rfl rfl rfl rfl rfl ⟨rfl, rfl, rfl, rfl, rfl⟩ rfl rfl rfl rfl rfl (by kernel_rfl) Try.func5 (by kernel_rfl)
    (of_decide_eq_true (by kernel_rfl)) (by unfold Func.isWrapper; first | (rw [if_pos (by decide +kernel)]; kernel_rfl) | (rw [if_neg (by decide +kernel)]; exact ⟨rfl, rfl⟩))
    (fun os started H enc _ => lifted os started H enc)

theorem proved : Rows.CalendarSumsSaid := over
#print axioms proved
