/- Walks: daycount: since, years, Fraction; the statements' gives. -/
import Derived.Test.YtblelgmedononaaDday
import Derived.Test.YtblelgmedononaaDof
import Derived.Test.YtblelgmedononaaZfra
import Derived.Test.YtblelgmedononaaQ1
namespace Go.Proofs.Ytblelgmedononaa
open Go.RowKit
/-- Ratio of two ints, whatever the world. -/
theorem ratC {n m : Int} {q : Rat} (hn : -10000000000 ≤ n ∧ n ≤ 10000000000) (hm : -10000000000 ≤ m ∧ m ≤ 10000000000) (h0 : m ≠ 0) (e : Rat.divInt n m = q) :
    Hid (∀ W : World, Calls Try.prog 20 #[.int .i64 n, .int .i64 m] W fun e w' => e = .returned (.tuple #[.string (Z.Q q), .int .i64 0]) ∧ Below W.heap.size W w') := by
  subst e
  intro W
  have hx : Z.Lt 12 n := by unfold Z.Lt; omega
  have hy : Z.Lt 12 m := by unfold Z.Lt; omega
  have := ratio_any n m W (by omega) (by omega) (by omega) (by omega)
  unfold MakeRet at this
  obtain ⟨e1, e2⟩ := Z.make_S (hx.chk (by omega) (by omega)) (hy.chk (by omega) (by omega)) h0
  rwa [e1, e2] at this
def SinceRet (day : Int) (w : World) (e : Ending) (w' : World) : Prop := ∃ y m d, Z.Dt day y m d ∧ e = .returned (.tuple #[.int .i64 y, .int .i64 (day - Z.fst y), .int .i64 (Z.ylen y)]) ∧ Below w.heap.size w w'
set_option maxHeartbeats 400000 in
theorem since_any (day : Int) (w : World) (h0 : 0 ≤ day) (h1 : day ≤ 99999) :
    Calls Try.prog 44 #[.int .i64 day] w (SinceRet day w) := by
  go_enter Try.func44, Try.ntmps44
  go_wp2_with fail
  refine (parts_any _ _ h0 h1).mono ?_
  rintro e w1 ⟨y, m, d, hD, rfl, hb1⟩
  have y0 := hD.y0; have y1 := hD.y1
  have hr := hD.range
  have hf := Z.fst_in y0 y1
  have hok : Z.okD y 1 1 := ⟨⟨y0, y1, by omega, by omega⟩, by omega, by have := Z.len_ge y 1; omega, by rw [Z.cum_one]; omega⟩
  have O1 := Lib.hid (dof_any y 1 1 w1 (by omega) (by omega) (by omega) (by omega) (by omega) (by omega))
  rw [(Z.of_ok hok).1, (Z.of_ok hok).2, Z.cum_one, show Z.fst y + 0 + 1 - 1 = Z.fst y by omega] at O1
  have HD := Lib.hid hD
  clear hD hok
  go_wp2_with fail
  refine O1.out.mono ?_
  rintro e w2 ⟨rfl, hb2⟩
  have c2 := hb1.trans (hb2.mono hb1.size)
  go_wp2_with fail
  refine (leap_any _ _ (by omega) (by omega)).mono ?_
  rintro e w3 ⟨rfl, rfl⟩
  cases hl : Z.leap y
  · have e1 : Z.ylen y = 365 := by unfold Z.ylen; rw [hl]; rfl
    go_wp2_with fail
    go_ret3
    exact ⟨y, m, d, HD.out, by rw [e1]; rfl, c2⟩
  · have e1 : Z.ylen y = 366 := by unfold Z.ylen; rw [hl]; rfl
    go_wp2_with fail
    go_ret3
    exact ⟨y, m, d, HD.out, by rw [e1]; rfl, c2⟩
def FracRet (rule a b : Int) (w : World) (e : Ending) (w' : World) : Prop := e = .returned (.tuple #[.string (Z.yrS rule a b), .int .i64 (Z.days rule a b).2]) ∧ Below w.heap.size w w'
set_option maxHeartbeats 800000 in
theorem years_any (a b : Int) (w : World) (ha : Z.inR a = true) (hb : Z.inR b = true) :
    Calls Try.prog 26 #[.int .i64 a, .int .i64 b] w fun e w' => e = .returned (.tuple #[.string (Z.Q (Rat.divInt (Z.E b - Z.E a) 133590)), .int .i64 0]) ∧ Below w.heap.size w w' := by
  rw [inR_iff] at ha hb
  go_enter Try.func26, Try.ntmps26
  go_wp2_with fail
  refine (since_any _ _ ha.1 ha.2).mono ?_
  rintro e w1 ⟨y, m, d, hA, rfl, hb1⟩
  go_wp2_with fail
  refine (since_any _ _ hb.1 hb.2).mono ?_
  rintro e w2 ⟨p, q, r, hB, rfl, hb2⟩
  have c2 := hb1.trans (hb2.mono hb1.size)
  clear hb1 hb2
  have y0 := hA.y0; have y1 := hA.y1; have p0 := hB.y0; have p1 := hB.y1
  have f1 := hA.passed; have f2 := hB.passed
  obtain ⟨e1, e2⟩ := Z.years_eq (y := y) (p := p) (s := a - Z.fst y) (t := b - Z.fst p)
  rw [← hA.E, ← hB.E] at e1 e2
  clear hA hB ha hb
  generalize a - Z.fst y = s at *
  generalize b - Z.fst p = t at *
  have hy : Z.ylen y = 365 ∨ Z.ylen y = 366 := by unfold Z.ylen; split <;> simp
  have hp : Z.ylen p = 365 ∨ Z.ylen p = 366 := by unfold Z.ylen; split <;> simp
  generalize Z.ylen y = n at *
  generalize Z.ylen p = k at *
  rcases hy with rfl | rfl <;> rcases hp with rfl | rfl
  · have C := ratC (by omega) (by omega) (by omega) (e1 rfl)
    clear e1 e2
    go_wp2_with fail
    refine (C.out _).mono ?_
    rintro e w3 ⟨rfl, hb3⟩
    go_wp2_with fail
    go_ret2
    exact ⟨rfl, c2.trans (hb3.mono c2.size)⟩
  · have C := ratC (by omega) (by omega) (by omega) (e2 (by omega))
    clear e1 e2
    go_wp2_with fail
    refine (C.out _).mono ?_
    rintro e w3 ⟨rfl, hb3⟩
    go_wp2_with fail
    go_ret2
    exact ⟨rfl, c2.trans (hb3.mono c2.size)⟩
  · have C := ratC (by omega) (by omega) (by omega) (e2 (by omega))
    clear e1 e2
    go_wp2_with fail
    refine (C.out _).mono ?_
    rintro e w3 ⟨rfl, hb3⟩
    go_wp2_with fail
    go_ret2
    exact ⟨rfl, c2.trans (hb3.mono c2.size)⟩
  · have C := ratC (by omega) (by omega) (by omega) (e1 rfl)
    clear e1 e2
    go_wp2_with fail
    refine (C.out _).mono ?_
    rintro e w3 ⟨rfl, hb3⟩
    go_wp2_with fail
    go_ret2
    exact ⟨rfl, c2.trans (hb3.mono c2.size)⟩
theorem frac_no {rule a b : Int} {w w' : World} {k : Int} (h : (Z.days rule a b).2 = k) (hk : k ≠ 0) (hb : Below w.heap.size w w') : FracRet rule a b w (.returned (.tuple #[.string ⟨#[]⟩, .int .i64 k])) w' := by
  unfold FracRet Z.yrS
  rw [if_neg (by rw [h]; exact hk), h]
  exact ⟨rfl, hb⟩
theorem frac_yes {rule a b : Int} {w w' : World} {q : Rat} (h : (Z.days rule a b).2 = 0) (hq : Z.frac rule a b = q) (hb : Below w.heap.size w w') : FracRet rule a b w (.returned (.tuple #[.string (Z.Q q), .int .i64 0])) w' := by
  unfold FracRet Z.yrS
  rw [if_pos h, h, hq]
  exact ⟨rfl, hb⟩
/-- Days, when it answers. -/
theorem days_ok {rule a b : Int} (h : (Z.days rule a b).2 = 0) : rule ≤ 4 ∧ Z.inR a = true ∧ Z.inR b = true ∧ -200000 ≤ (Z.days rule a b).1 ∧ (Z.days rule a b).1 ≤ 200000 := by
  unfold Z.days at h ⊢
  by_cases hc : rule ≤ 4 ∧ Z.inR a = true ∧ Z.inR b = true
  · rw [if_pos hc]
    refine ⟨hc.1, hc.2.1, hc.2.2, ?_⟩
    have a1 := (inR_iff a).1 hc.2.1
    have b1 := (inR_iff b).1 hc.2.2
    have t1 := thirty_bounds false a b hc.2.1 hc.2.2
    have t2 := thirty_bounds true a b hc.2.1 hc.2.2
    have t3 := thirty_bounds false b a hc.2.2 hc.2.1
    have t4 := thirty_bounds true b a hc.2.2 hc.2.1
    unfold Z.ruled
    dsimp only
    (repeat' split) <;> omega
  · rw [if_neg hc] at h; exact absurd h (by decide)
theorem days_err {rule a b : Int} (h : (Z.days rule a b).2 ≠ 0) : (Z.days rule a b).2 = 2 ∧ (Z.days rule a b).1 = 0 := by
  unfold Z.days at h ⊢
  split
  · rename_i hc; rw [if_pos hc] at h; exact absurd rfl h
  · exact ⟨rfl, rfl⟩
set_option maxHeartbeats 800000 in
theorem fraction_any (rule a b : Int) (w : World) (hr0 : 0 ≤ rule) (hr1 : rule ≤ 255) :
    Calls Try.prog 12 #[.int .u8 rule, .int .i64 a, .int .i64 b] w (FracRet rule a b w) := by
  have D := Lib.hid (days_any rule a b w hr0 hr1)
  unfold DaysRet at D
  by_cases hk : (Z.days rule a b).2 = 0
  · obtain ⟨r4, ia, ib, n0, n1⟩ := days_ok hk
    have HY := fun (h : rule = 3) (w' : World) (hb : Below w.heap.size w w') => frac_yes (w := w) (rule := rule) (q := Rat.divInt (Z.E b - Z.E a) 133590) hk (by unfold Z.frac; rw [if_pos h]) hb
    have H0 := fun (h : rule = 0) (w' : World) (hb : Below w.heap.size w w') => frac_yes (w := w) (rule := rule) (q := Rat.divInt (Z.days rule a b).1 365) hk (by unfold Z.frac; rw [if_neg (by omega), if_pos h]) hb
    have H1 := fun (h : rule ≠ 3 ∧ rule ≠ 0) (w' : World) (hb : Below w.heap.size w w') => frac_yes (w := w) (rule := rule) (q := Rat.divInt (Z.days rule a b).1 360) hk (by unfold Z.frac; rw [if_neg h.1, if_neg h.2]) hb
    have HY := Lib.hid HY
    have H0 := Lib.hid H0
    have H1 := Lib.hid H1
    have C0 := ratC (n := (Z.days rule a b).1) (m := 365) (by omega) (by omega) (by omega) rfl
    have C1 := ratC (n := (Z.days rule a b).1) (m := 360) (by omega) (by omega) (by omega) rfl
    rw [hk] at D
    generalize (Z.days rule a b).1 = n at *
    clear hk
    have hr : rule = 3 ∨ rule = 0 ∨ (rule ≠ 3 ∧ rule ≠ 0) := by omega
    rcases hr with rfl | rfl | ⟨g1, g2⟩
    · go_enter Try.func12, Try.ntmps12
      go_wp2_with fail
      refine D.out.mono ?_
      rintro e w1 ⟨rfl, hb1⟩
      go_wp2_with fail
      refine (years_any _ _ _ ia ib).mono ?_
      rintro e w2 ⟨rfl, hb2⟩
      have c2 := hb1.trans (hb2.mono hb1.size)
      go_wp2_with fail
      go_ret2
      exact HY.out trivial _ c2
    · go_enter Try.func12, Try.ntmps12
      go_wp2_with fail
      refine D.out.mono ?_
      rintro e w1 ⟨rfl, hb1⟩
      go_wp2_with fail
      refine (C0.out _).mono ?_
      rintro e w2 ⟨rfl, hb2⟩
      have c2 := hb1.trans (hb2.mono hb1.size)
      go_wp2_with fail
      go_ret2
      exact H0.out trivial _ c2
    · have k1 : (rule == 3) = false := by simp [g1]
      have k2 : (rule == 0) = false := by simp [g2]
      go_enter Try.func12, Try.ntmps12
      go_wp2_with fail
      refine D.out.mono ?_
      rintro e w1 ⟨rfl, hb1⟩
      go_wp2_with fail
      refine (C1.out _).mono ?_
      rintro e w2 ⟨rfl, hb2⟩
      have c2 := hb1.trans (hb2.mono hb1.size)
      go_wp2_with fail
      go_ret2
      exact H1.out ⟨g1, g2⟩ _ c2
  · obtain ⟨e1, e2⟩ := days_err hk
    have HN := Lib.hid (fun (w' : World) (hb : Below w.heap.size w w') => frac_no (rule := rule) (a := a) (b := b) e1 (by decide) hb)
    rw [e1, e2] at D
    clear hk e1 e2
    go_enter Try.func12, Try.ntmps12
    go_wp2_with fail
    refine D.out.mono ?_
    rintro e w1 ⟨rfl, hb1⟩
    go_wp2_with fail
    go_ret2
    exact HN.out _ hb1
end Go.Proofs.Ytblelgmedononaa
