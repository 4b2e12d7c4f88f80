/-
  CalendarAdds: whatever the calendar, the day and the number: adding n business days passes n of them. Conditions: none.
-/
import Derived.Test.YtmbbpimihnojeaaRows
import Derived.Test.YtmbbpimihnojeaaCrefb
import Derived.Test.YtmbbpimihnojeaaZcalc
import Derived.Test.YtmbbpimihnojeaaCalive
import Derived.Test.YtmbbpimihnojeaaCframe
import Derived.ProofKit
import Derived.OpenShut
import Derived.ShutString
namespace Go.Proofs.Ytmbbpimihnojeaa.lawAdds
open Go.ChangeShapes Go.WideShapes Go.ChangeAt Go.RowKit
open Go.ChangeMaps (open_string shut_string)

theorem own : ownKnob Try.prog.godebug = none := by kernel_rfl

set_option maxRecDepth 100000 in
set_option maxHeartbeats 4000000 in
theorem walk (wk : Int) (u : Value) (hs : List Int) (day n : Int) (w : World) (h0 : 0 ≤ wk) (_h1 : wk ≤ 255) (hSI : SI w u hs) (_a0 : -9223372036854775808 ≤ day) (_a1 : day ≤ 9223372036854775807) (_n0 : -9223372036854775808 ≤ n) (_n1 : n ≤ 9223372036854775807) :
    Calls Try.prog 7 #[.agg #[.int .u8 wk, u], .int .i64 day, .int .i64 n] w fun e w' => e = .returned (.bool true) ∧ Below w.heap.size w w' := by
  clear _a0 _a1 _n0 _n1
  have hC : ∀ (x y n f : Int) (W : World), Z.count wk hs x y = (n, f) → SI W u hs → Calls Try.prog 14 #[.agg #[.int .u8 wk, u], .int .i64 x, .int .i64 y] W fun e w' => e = .returned (.tuple #[.int .i64 n, .int .i64 f]) ∧ Below W.heap.size W w' := by
    intro x y n f W hx hS
    have := ccount_any wk u hs x y W hS h0
    unfold CountRet at this
    rwa [hx] at this
  have hR : ∀ (n f : Int) (W : World), Z.roll wk hs day 1 = (n, f) → SI W u hs → Calls Try.prog 16 #[.agg #[.int .u8 wk, u], .int .i64 day, .int .u8 1] W fun e w' => e = .returned (.tuple #[.int .i64 n, .int .i64 f]) ∧ Below W.heap.size W w' := by
    intro n f W hx hS
    have := croll_any wk u hs day 1 W hS h0 (by omega)
    unfold Ret2 at this
    rwa [hx] at this
  have hB : ∀ (x : Int) (n : Bool) (f : Int) (W : World), Z.business wk hs x = (n, f) → SI W u hs → Calls Try.prog 19 #[.agg #[.int .u8 wk, u], .int .i64 x] W fun e w' => e = .returned (.tuple #[.bool n, .int .i64 f]) ∧ Below W.heap.size W w' := by
    intro x n f W hx hS
    have := cbusiness_any wk u hs x W hS h0
    unfold RetB at this
    rwa [hx] at this
  have hA : ∀ (x m n f : Int) (W : World), Z.add wk hs x m = (n, f) → SI W u hs → Calls Try.prog 12 #[.agg #[.int .u8 wk, u], .int .i64 x, .int .i64 m] W fun e w' => e = .returned (.tuple #[.int .i64 n, .int .i64 f]) ∧ Below W.heap.size W w' := by
    intro x m n f W hx hS
    have := cadd_any wk u hs x m W hS h0
    unfold Ret2 at this
    rwa [hx] at this
  have HC := Lib.hid hC
  have HR := Lib.hid hR
  have HB := Lib.hid hB
  have HA := Lib.hid hA
  have hcases := Z.add_cases wk hs day n
  clear hC hR hB hA
  go_enter Try.func7, Try.ntmps7
  go_wp2_with fail
  have bC := Blk.new w 24 #[.int .u8 wk, u]
  have hb0 : Below w.heap.size w (w.alloc (.cells #[.int .u8 wk, u] 24)) := (Below.refl _ w).alloc (Nat.le_refl _) _
  refine (alive_any _).mono ?_
  rintro e w1 ⟨rfl, hb⟩
  have bC := bC.below hb
  have hb1 := hb0.trans (hb.mono hb0.size)
  clear hb hb0
  have c0 := bC.cell 0
  have c1 := bC.cell 1
  go_wp2_with fail
  refine (rgreat_any wk u hs _ (hSI.below hb1)).mono ?_
  rintro e w2 ⟨rfl, hb⟩
  have bC := bC.below hb
  have hb2 := hb1.trans (hb.mono hb1.size)
  clear hb c0 c1
  cases hg : great hs
  · have c0 := bC.cell 0
    have c1 := bC.cell 1
    go_wp2_with fail
    rcases hcases with ⟨er, hv, he⟩ | ⟨r, hv, hbr, hrr0, hrr1, hc3⟩
    · have hne : (er != 0) = true := by simp [bne, he]
      refine (HA.out _ _ _ _ _ hv (hSI.below hb2)).mono ?_
      rintro e w3 ⟨rfl, hb⟩
      have hb3 := hb2.trans (hb.mono hb2.size)
      clear hv hb c0 c1
      go_wp2_with fail
      go_ret
      exact ⟨rfl, hb3⟩
    · refine (HA.out _ _ _ _ _ hv (hSI.below hb2)).mono ?_
      rintro e w3 ⟨rfl, hb⟩
      have bC := bC.below hb
      have hb3 := hb2.trans (hb.mono hb2.size)
      clear hv hb c0 c1
      have c0 := bC.cell 0
      have c1 := bC.cell 1
      have HBR := Lib.hid hbr
      have H3 := Lib.hid hc3
      clear hbr hc3
      go_wp2_with fail
      refine (HB.out _ _ _ _ HBR.out (hSI.below hb3)).mono ?_
      rintro e w4 ⟨rfl, hb⟩
      have bC := bC.below hb
      have hb4 := hb3.trans (hb.mono hb3.size)
      clear hb c0 c1
      have c0 := bC.cell 0
      have c1 := bC.cell 1
      rcases H3.out with ⟨rfl, hr1⟩ | ⟨hn, hlt, hcn⟩ | ⟨hn, hn1, hlt, hcn, hbk⟩
      · have H1 := Lib.hid hr1
        clear hr1
        go_wp2_with fail
        refine (HR.out _ _ _ H1.out (hSI.below hb4)).mono ?_
        rintro e w5 ⟨rfl, hb⟩
        have hb5 := hb4.trans (hb.mono hb4.size)
        clear hb c0 c1
        go_wp2_with fail
        go_ret
        exact ⟨rfl, hb5⟩
      · have H1 := Lib.hid hcn
        clear hcn
        have hnz : (n == 0) = false := by rw [beq_eq_false_iff_ne]; omega
        have hnb : -99999 ≤ n := hn.2
        have hn2 := hn.1
        clear hn
        have hlt2 : decide (r < day) = true := by simp; omega
        go_wp2_with fail
        refine (HC.out _ _ _ _ _ H1.out (hSI.below hb4)).mono ?_
        rintro e w5 ⟨rfl, hb⟩
        have hb5 := hb4.trans (hb.mono hb4.size)
        clear hb c0 c1
        go_wp2_with fail
        go_ret
        exact ⟨rfl, hb5⟩
      · have H1 := Lib.hid hcn
        have H2 := Lib.hid hbk
        clear hcn hbk
        have hnz : (n == 0) = false := by rw [beq_eq_false_iff_ne]; omega
        have hlt2 : decide (day < r) = true := by simp; omega
        have hd2 : day ≤ 99999 := by omega
        have hd3 : -1 ≤ day := by have := H2.out.1; omega
        go_wp2_with fail
        refine (HC.out _ _ _ _ _ H1.out (hSI.below hb4)).mono ?_
        rintro e w5 ⟨rfl, hb⟩
        have bC := bC.below hb
        have hb5 := hb4.trans (hb.mono hb4.size)
        clear hb c0 c1
        have c0 := bC.cell 0
        have c1 := bC.cell 1
        obtain ⟨hd0, hr, hHB, bx, be, hAB, hHr⟩ := H2.out
        have H4 := Lib.hid hHB
        have H5 := Lib.hid hAB
        clear hHB hAB
        go_wp2_with fail
        refine (HA.out _ _ _ _ _ H5.out (hSI.below hb5)).mono ?_
        rintro e w6 ⟨rfl, hb⟩
        have bC := bC.below hb
        have hb6 := hb5.trans (hb.mono hb5.size)
        clear hb c0 c1
        have c0 := bC.cell 0
        have c1 := bC.cell 1
        go_wp2_with fail
        refine (HB.out _ _ _ _ H4.out (hSI.below hb6)).mono ?_
        rintro e w7 ⟨rfl, hb⟩
        have hb7 := hb6.trans (hb.mono hb6.size)
        clear hb c0 c1
        cases hr
        · clear hHr
          go_wp2_with fail
          go_ret
          exact ⟨rfl, hb7⟩
        · obtain ⟨rfl, rfl⟩ := hHr rfl
          clear hHr
          go_wp2_with fail
          go_ret
          exact ⟨rfl, hb7⟩
  · go_wp2_with fail
    go_ret
    exact ⟨rfl, hb2⟩

set_option maxRecDepth 100000 in
theorem lifted (os : Os) (started : os.Started) (H : Type) (enc : TypeId × Value → H) :
    ReturnsInHanded {} Try.checked os 7 .any (Rows.calendarAddsSpec.pre6 enc Try.prog Try.f7 Rows.calendarAddsRow.domain false) (Rows.calendarAddsSpec.post enc Try.prog Try.f7 false true false false) := by
  refine returnsInHanded_of_change (C := Try.checked) own started (by kernel_rfl) Try.func7
    (ChangeSpec.witness6 (enc := enc) (C := Try.checked) false ⟨#[], #[.agg #[.int .u8 0, .slice none 0 0], .int .i64 0, .int .i64 0], []⟩ 8 (by kernel_rfl) (by kernel_rfl) (by kernel_rfl) (by kernel_rfl)) ?_
  intro W base args ds gs before hval0 hW hcnd _
  have hval : ∀ (j : Nat) t v, Try.f7.params[j]? = some t → args[j]? = some v → Value.okWide Try.prog W .any base t v := hval0
  have hW' := hW
  obtain ⟨p, q, hA0, hV, rfl, hfz, hnd⟩ := hW
  have hA : DataW.TrodAll enc Try.prog W 0 (fun _ => true) true Try.f7.params.toList args.toList ds p := hA0
  rw [Try.params7] at hA hval
  obtain ⟨v0, vs0, d0, ds0, p0, q0, hargs, rfl, rfl, h0, r0⟩ := trodAll_cons hA
  obtain ⟨v1, vs1, d1, ds1, p1, q1, rfl, rfl, rfl, h1, r1⟩ := trodAll_cons r0
  obtain ⟨v2, vs2, d2, ds2, p2, q2, rfl, rfl, rfl, h2, r2⟩ := trodAll_cons r1
  obtain ⟨rfl, rfl, rfl⟩ := trodAll_nil r2
  obtain rfl : args = #[v0, v1, v2] := by cases args; simp_all
  obtain ⟨rfl, rfl⟩ := trodVars_none hV
  have k0 := h0
  obtain ⟨wk0, u0, hs0, rfl, wl0, wh0, si0⟩ := cal_open (hval 0 24 v0 rfl rfl) h0
  obtain ⟨a1, rfl, rfl, rfl, w1⟩ := open_int Try.underlying3 (hval 1 3 v1 rfl rfl) h1
  obtain ⟨a2, rfl, rfl, rfl, w2⟩ := open_int Try.underlying3 (hval 2 3 v2 rfl rfl) h2
  clear hA0 hval0
  have bd1 := bounds_i64 w1
  have bd2 := bounds_i64 w2
  refine (walk wk0 u0 hs0 a1 a2 W wl0 wh0 si0 bd1.1 bd1.2 bd2.1 bd2.2).mono fun e W' ⟨he, bel⟩ => ?_
  subst he
  exact ⟨_, rfl, _, _, _, [], _, [], hW', trodAll_mk1 (shut_bool Try.underlying4 _), (trodAll_cons_mk (arg_stays (by kernel_rfl) (of_decide_eq_true (by kernel_rfl)) k0 bel) (trodAll_cons_mk (shut_int Try.underlying3 w1) (trodAll_cons_mk (shut_int Try.underlying3 w2) trodAll_mk0))), rfl, bel.frame _, fun h => by cases h⟩

theorem over : Rows.calendarAddsRow.holds Try.pinned (OpenSpec.ofChange Rows.calendarAddsSpec) :=
  OpenClaim.holds_of_wide 7 Try.f7 rfl rfl rfl rfl rfl rfl rfl ⟨rfl, rfl, rfl, rfl, rfl⟩ rfl rfl rfl rfl rfl (by kernel_rfl) Try.func7 (by kernel_rfl)
    (of_decide_eq_true (by kernel_rfl)) (by unfold Func.isWrapper; first | (rw [if_pos (by decide +kernel)]; kernel_rfl) | (rw [if_neg (by decide +kernel)]; exact ⟨rfl, rfl⟩))
    (fun os started H enc _ => lifted os started H enc)

theorem proved : Rows.CalendarAddsSaid := over
#print axioms proved
