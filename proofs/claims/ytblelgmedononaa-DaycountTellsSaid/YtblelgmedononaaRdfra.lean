/- Walks: the reference: ratio, Fraction. -/
import Derived.Test.YtblelgmedononaaDfra
import Derived.Test.YtblelgmedononaaRdday
import Derived.Test.YtblelgmedononaaQ4
namespace Go.Proofs.Ytblelgmedononaa
open Go.RowKit
theorem rratC {n m : Int} {q : Rat} (hn : -10000000000 ≤ n ∧ n ≤ 10000000000) (hm : -10000000000 ≤ m ∧ m ≤ 10000000000) (h0 : m ≠ 0) (e : Rat.divInt n m = q) :
    Hid (∀ W : World, Calls Try.prog 27 #[.int .i64 n, .int .i64 m] W fun e w' => e = .returned (.string (Z.Q q)) ∧ Below W.heap.size W w') := by
  subst e
  intro w
  have hx : Z.Lt 12 n := by unfold Z.Lt; omega
  have hy : Z.Lt 12 m := by unfold Z.Lt; omega
  have s1 := Z.chk_mil (hx.chk (by omega) (by omega))
  have s2 := Z.chk_mil (hy.chk (by omega) (by omega))
  have M := Lib.hid (fun W : World => rmake_any (Z.S n) (Z.S m) W s1 s2)
  unfold MakeRet at M
  obtain ⟨e1, e2⟩ := Z.make_S (hx.chk (by omega) (by omega)) (hy.chk (by omega) (by omega)) h0
  rw [e1, e2] at M
  have O1 := Lib.hid (fun W : World => rof_any n W (by omega) (by omega))
  have O2 := Lib.hid (fun W : World => rof_any m W (by omega) (by omega))
  unfold StrRet at O1 O2
  change Hid (∀ W : World, Calls Try.prog 46 #[.int .i64 n] W fun e w' => e = .returned (.string (Z.S n)) ∧ Below W.heap.size W w') at O1
  change Hid (∀ W : World, Calls Try.prog 46 #[.int .i64 m] W fun e w' => e = .returned (.string (Z.S m)) ∧ Below W.heap.size W w') at O2
  generalize Z.Q (Rat.divInt n m) = R at *
  generalize Z.S n = sn at *
  generalize Z.S m = sm at *
  clear hx hy s1 s2 e1 e2 h0
  go_enter Try.func27, Try.ntmps27
  go_wp2_with fail
  refine (O1.out _).mono ?_
  rintro e w1 ⟨rfl, hb1⟩
  go_wp2_with fail
  refine (O2.out _).mono ?_
  rintro e w2 ⟨rfl, hb2⟩
  have c2 := hb1.trans (hb2.mono hb1.size)
  go_wp2_with fail
  refine (M.out _).mono ?_
  rintro e w3 ⟨rfl, hb3⟩
  have c3 := c2.trans (hb3.mono c2.size)
  go_wp2_with fail
  go_ret
  exact ⟨rfl, c3⟩
/-- The reference's loop over the years, and what follows. -/
theorem Z.frac_sum {low high : Int} (hl : Z.inR low = true) (hh : Z.inR high = true) :
    Rat.divInt (Z.cC high 274 - Z.cC low 274) 365 + Rat.divInt (Z.cL high 274 - Z.cL low 274) 366 = Rat.divInt (Z.E high - Z.E low) 133590 := by
  obtain ⟨y, m, d, h⟩ := Z.dt_of ((inR_iff low).1 hl).1 ((inR_iff low).1 hl).2
  obtain ⟨p, q, r, k⟩ := Z.dt_of ((inR_iff high).1 hh).1 ((inR_iff high).1 hh).2
  have e1 := h.sum
  have e2 := k.sum
  exact Z.frac3 (by omega)
theorem Z.frac_neg {low high : Int} (hl : Z.inR low = true) (hh : Z.inR high = true) :
    Rat.divInt (-(Z.cC high 274 - Z.cC low 274)) 365 + Rat.divInt (-(Z.cL high 274 - Z.cL low 274)) 366 = Rat.divInt (Z.E low - Z.E high) 133590 := by
  obtain ⟨y, m, d, h⟩ := Z.dt_of ((inR_iff low).1 hl).1 ((inR_iff low).1 hl).2
  obtain ⟨p, q, r, k⟩ := Z.dt_of ((inR_iff high).1 hh).1 ((inR_iff high).1 hh).2
  have e1 := h.sum
  have e2 := k.sum
  exact Z.frac3 (by omega)
theorem radd_small {x y : Rat} {z : Rat} (hx : Z.Rt 12 x) (hy : Z.Rt 12 y) (e : x + y = z) : Hid (∀ W : World, Calls Try.prog 29 #[.string (Z.Q x), .string (Z.Q y)] W fun e w' => e = .returned (.tuple #[.string (Z.Q z), .int .i64 0]) ∧ Below W.heap.size W w') := by
  subst e
  intro W
  have a1 := hx.size (by omega) (by omega)
  have a2 := hy.size (by omega) (by omega)
  have := rqadd_any (Z.Q x) (Z.Q y) W (by omega) (by omega)
  unfold RopRet at this
  rwa [(Z.add_S hx hy (by omega) (by omega) (by omega)).1, (Z.add_S hx hy (by omega) (by omega) (by omega)).2] at this
set_option maxRecDepth 100000 in
set_option maxHeartbeats 2000000 in
theorem rfrac3_a (a b : Int) (w : World) (ia : Z.inR a = true) (ib : Z.inR b = true) (hab : ¬ b < a) :
    Calls Try.prog 15 #[.int .u8 3, .int .i64 a, .int .i64 b] w fun e w' => e = .returned (.tuple #[.string (Z.Q (Rat.divInt (Z.E b - Z.E a) 133590)), .int .i64 0]) ∧ Below w.heap.size w w' := by
  have D := Lib.hid (rdays_any 3 a b w (by omega) (by omega))
  unfold DaysRet at D
  have hk : (Z.days 3 a b).2 = 0 := by unfold Z.days; rw [if_pos ⟨by omega, ia, ib⟩]
  rw [hk] at D
  generalize (Z.days 3 a b).1 = n at *
  have cb := Z.cC_bounds b 274; have cb2 := Z.cC_bounds a 274; have lb := Z.cL_bounds b 274; have lb2 := Z.cL_bounds a 274
  have hs := Z.frac_sum ia ib
  have R1 := rratC (n := Z.cC b 274 - Z.cC a 274) (m := 365) (by omega) (by omega) (by omega) rfl
  have R2 := rratC (n := Z.cL b 274 - Z.cL a 274) (m := 366) (by omega) (by omega) (by omega) rfl
  have t1 : Z.Rt 12 (Rat.divInt (Z.cC b 274 - Z.cC a 274) 365) := Z.rt_divInt (by unfold Z.Lt; omega) (by unfold Z.Lt; omega) (by omega)
  have t2 : Z.Rt 12 (Rat.divInt (Z.cL b 274 - Z.cL a 274) 366) := Z.rt_divInt (by unfold Z.Lt; omega) (by unfold Z.Lt; omega) (by omega)
  have AD := radd_small t1 t2 hs
  generalize Z.Q (Rat.divInt (Z.E b - Z.E a) 133590) = R at *
  generalize Z.Q (Rat.divInt (Z.cC b 274 - Z.cC a 274) 365) = S1 at *
  generalize Z.Q (Rat.divInt (Z.cL b 274 - Z.cL a 274) 366) = S2 at *
  obtain ⟨a0, a1⟩ := (inR_iff a).1 ia
  obtain ⟨b0, b1⟩ := (inR_iff b).1 ib
  clear hk ia ib hs t1 t2
  go_enter Try.func15, Try.ntmps15
  go_wp2_with fail
  refine D.out.mono ?_
  rintro e w1 ⟨rfl, hb1⟩
  clear D
  go_wp2_with fail
  go_loopw [13, 14, 15, 16] (fun cv lv bv yv wr => ∃ k : Nat, k ≤ 274 ∧ cv = .int .i64 (Z.cC b k - Z.cC a k) ∧ lv = .int .i64 (Z.cL b k - Z.cL a k) ∧ bv = .int .i64 (Z.fst (1900 + k)) ∧ yv = .int .i64 (1900 + k) ∧ wr = w1) (fun _ _ _ yv _ => (2174 - intOf yv).toNat)
  case atStart => exact ⟨0, by omega, rfl, rfl, rfl, rfl, rfl⟩
  case round =>
    obtain ⟨k, hk, rfl, rfl, rfl, rfl, rfl⟩ := hrel
    have c1 := Z.cC_bounds b k; have c2 := Z.cC_bounds a k; have l1 := Z.cL_bounds b k; have l2 := Z.cL_bounds a k
    by_cases hlt : k < 274
    · have hf := Z.fst_in (y := 1900 + k) (by omega) (by omega)
      have hs := Z.fst_succ (1900 + k)
      have ho := fun e he => Z.cl_over (low := a) (high := b) (b := Z.fst (1900 + k)) (e := e) (by omega) he
      have g1 := Z.cl_bounds b (1900 + k)
      have g2 := Z.cl_bounds a (1900 + k)
      have q1 : Z.cC b (k + 1) = Z.cC b k + (if Z.leap (1900 + k) = true then 0 else Z.cl b (1900 + k)) := rfl
      have q2 : Z.cC a (k + 1) = Z.cC a k + (if Z.leap (1900 + k) = true then 0 else Z.cl a (1900 + k)) := rfl
      have q3 : Z.cL b (k + 1) = Z.cL b k + (if Z.leap (1900 + k) = true then Z.cl b (1900 + k) else 0) := rfl
      have q4 : Z.cL a (k + 1) = Z.cL a k + (if Z.leap (1900 + k) = true then Z.cl a (1900 + k) else 0) := rfl
      cases hl : Z.leap (1900 + k)
      · rw [hl] at q1 q2 q3 q4 hs
        simp only [Bool.false_eq_true, if_false] at q1 q2 q3 q4 hs
        have hcl : max (min b (Z.fst (1900 + k) + 365) - max a (Z.fst (1900 + k))) 0 = Z.cl b (1900 + k) - Z.cl a (1900 + k) := by
          unfold Z.cl; rw [hs]; exact ho _ (by omega)
        skip
        go_wp2_with fail
        refine (rleap_any _ _ (by omega) (by omega)).mono ?_
        rintro e w2 ⟨rfl, rfl⟩
        rw [hl]
        go_wp2_with fail
        refine (rleap_any _ _ (by omega) (by omega)).mono ?_
        rintro e w2 ⟨rfl, rfl⟩
        rw [hl]
        go_wp2_with fail
        have ek : (1900 : Int) + ((k + 1 : Nat) : Int) = 1900 + k + 1 := by omega
        go_roundw
        case rel => exact ⟨k + 1, by omega, ret_v (by rw [q1, q2] <;> omega), ret_v (by rw [q3, q4] <;> omega), ret_v (by rw [ek, hs] <;> omega), ret_v (by omega), trivial⟩
        case measure => simp [intOf]; omega
      · rw [hl] at q1 q2 q3 q4 hs
        simp only [if_true] at q1 q2 q3 q4 hs
        have hcl : max (min b (Z.fst (1900 + k) + 366) - max a (Z.fst (1900 + k))) 0 = Z.cl b (1900 + k) - Z.cl a (1900 + k) := by
          unfold Z.cl; rw [hs]; exact ho _ (by omega)
        have hcl2 : max (min b (Z.fst (1900 + k) + 365 + 1) - max a (Z.fst (1900 + k))) 0 = Z.cl b (1900 + k) - Z.cl a (1900 + k) := by rw [← hcl, show Z.fst (1900 + (k : Int)) + 365 + 1 = Z.fst (1900 + (k : Int)) + 366 by omega]
        go_wp2_with fail
        refine (rleap_any _ _ (by omega) (by omega)).mono ?_
        rintro e w2 ⟨rfl, rfl⟩
        rw [hl]
        go_wp2_with fail
        refine (rleap_any _ _ (by omega) (by omega)).mono ?_
        rintro e w2 ⟨rfl, rfl⟩
        rw [hl]
        go_wp2_with fail
        have ek : (1900 : Int) + ((k + 1 : Nat) : Int) = 1900 + k + 1 := by omega
        go_roundw
        case rel => exact ⟨k + 1, by omega, ret_v (by rw [q1, q2] <;> omega), ret_v (by rw [q3, q4] <;> omega), ret_v (by rw [ek, hs] <;> omega), ret_v (by omega), trivial⟩
        case measure => simp [intOf]; omega
    · obtain rfl : k = 274 := by omega
      clear c1 c2 l1 l2 hk hlt
      go_wp2_with fail
      refine (R1.out _).mono ?_
      rintro e w2 ⟨rfl, hb2⟩
      have d2 := hb1.trans (hb2.mono hb1.size)
      go_wp2_with fail
      refine (R2.out _).mono ?_
      rintro e w3 ⟨rfl, hb3⟩
      have d3 := d2.trans (hb3.mono d2.size)
      go_wp2_with fail
      refine (AD.out _).mono ?_
      rintro e w4 ⟨rfl, hb4⟩
      have d4 := d3.trans (hb4.mono d3.size)
      go_wp2_with fail
      go_ret2
      exact ⟨rfl, d4⟩
set_option maxRecDepth 100000 in
set_option maxHeartbeats 2000000 in
theorem rfrac3_b (a b : Int) (w : World) (ia : Z.inR a = true) (ib : Z.inR b = true) (hab : b < a) :
    Calls Try.prog 15 #[.int .u8 3, .int .i64 a, .int .i64 b] w fun e w' => e = .returned (.tuple #[.string (Z.Q (Rat.divInt (Z.E b - Z.E a) 133590)), .int .i64 0]) ∧ Below w.heap.size w w' := by
  have D := Lib.hid (rdays_any 3 a b w (by omega) (by omega))
  unfold DaysRet at D
  have hk : (Z.days 3 a b).2 = 0 := by unfold Z.days; rw [if_pos ⟨by omega, ia, ib⟩]
  rw [hk] at D
  generalize (Z.days 3 a b).1 = n at *
  have cb := Z.cC_bounds a 274; have cb2 := Z.cC_bounds b 274; have lb := Z.cL_bounds a 274; have lb2 := Z.cL_bounds b 274
  have hs := Z.frac_neg ib ia
  have R1 := rratC (n := -(Z.cC a 274 - Z.cC b 274)) (m := 365) (by omega) (by omega) (by omega) rfl
  have R2 := rratC (n := -(Z.cL a 274 - Z.cL b 274)) (m := 366) (by omega) (by omega) (by omega) rfl
  have t1 : Z.Rt 12 (Rat.divInt (-(Z.cC a 274 - Z.cC b 274)) 365) := Z.rt_divInt (by unfold Z.Lt; omega) (by unfold Z.Lt; omega) (by omega)
  have t2 : Z.Rt 12 (Rat.divInt (-(Z.cL a 274 - Z.cL b 274)) 366) := Z.rt_divInt (by unfold Z.Lt; omega) (by unfold Z.Lt; omega) (by omega)
  have AD := radd_small t1 t2 hs
  generalize Z.Q (Rat.divInt (Z.E b - Z.E a) 133590) = R at *
  generalize Z.Q (Rat.divInt (-(Z.cC a 274 - Z.cC b 274)) 365) = S1 at *
  generalize Z.Q (Rat.divInt (-(Z.cL a 274 - Z.cL b 274)) 366) = S2 at *
  obtain ⟨a0, a1⟩ := (inR_iff a).1 ia
  obtain ⟨b0, b1⟩ := (inR_iff b).1 ib
  clear hk ia ib hs t1 t2
  go_enter Try.func15, Try.ntmps15
  go_wp2_with fail
  refine D.out.mono ?_
  rintro e w1 ⟨rfl, hb1⟩
  clear D
  go_wp2_with fail
  go_loopw [13, 14, 15, 16] (fun cv lv bv yv wr => ∃ k : Nat, k ≤ 274 ∧ cv = .int .i64 (Z.cC a k - Z.cC b k) ∧ lv = .int .i64 (Z.cL a k - Z.cL b k) ∧ bv = .int .i64 (Z.fst (1900 + k)) ∧ yv = .int .i64 (1900 + k) ∧ wr = w1) (fun _ _ _ yv _ => (2174 - intOf yv).toNat)
  case atStart => exact ⟨0, by omega, rfl, rfl, rfl, rfl, rfl⟩
  case round =>
    obtain ⟨k, hk, rfl, rfl, rfl, rfl, rfl⟩ := hrel
    have c1 := Z.cC_bounds a k; have c2 := Z.cC_bounds b k; have l1 := Z.cL_bounds a k; have l2 := Z.cL_bounds b k
    by_cases hlt : k < 274
    · have hf := Z.fst_in (y := 1900 + k) (by omega) (by omega)
      have hs := Z.fst_succ (1900 + k)
      have ho := fun e he => Z.cl_over (low := b) (high := a) (b := Z.fst (1900 + k)) (e := e) (by omega) he
      have g1 := Z.cl_bounds a (1900 + k)
      have g2 := Z.cl_bounds b (1900 + k)
      have q1 : Z.cC a (k + 1) = Z.cC a k + (if Z.leap (1900 + k) = true then 0 else Z.cl a (1900 + k)) := rfl
      have q2 : Z.cC b (k + 1) = Z.cC b k + (if Z.leap (1900 + k) = true then 0 else Z.cl b (1900 + k)) := rfl
      have q3 : Z.cL a (k + 1) = Z.cL a k + (if Z.leap (1900 + k) = true then Z.cl a (1900 + k) else 0) := rfl
      have q4 : Z.cL b (k + 1) = Z.cL b k + (if Z.leap (1900 + k) = true then Z.cl b (1900 + k) else 0) := rfl
      cases hl : Z.leap (1900 + k)
      · rw [hl] at q1 q2 q3 q4 hs
        simp only [Bool.false_eq_true, if_false] at q1 q2 q3 q4 hs
        have hcl : max (min a (Z.fst (1900 + k) + 365) - max b (Z.fst (1900 + k))) 0 = Z.cl a (1900 + k) - Z.cl b (1900 + k) := by
          unfold Z.cl; rw [hs]; exact ho _ (by omega)
        skip
        go_wp2_with fail
        refine (rleap_any _ _ (by omega) (by omega)).mono ?_
        rintro e w2 ⟨rfl, rfl⟩
        rw [hl]
        go_wp2_with fail
        refine (rleap_any _ _ (by omega) (by omega)).mono ?_
        rintro e w2 ⟨rfl, rfl⟩
        rw [hl]
        go_wp2_with fail
        have ek : (1900 : Int) + ((k + 1 : Nat) : Int) = 1900 + k + 1 := by omega
        go_roundw
        case rel => exact ⟨k + 1, by omega, ret_v (by rw [q1, q2] <;> omega), ret_v (by rw [q3, q4] <;> omega), ret_v (by rw [ek, hs] <;> omega), ret_v (by omega), trivial⟩
        case measure => simp [intOf]; omega
      · rw [hl] at q1 q2 q3 q4 hs
        simp only [if_true] at q1 q2 q3 q4 hs
        have hcl : max (min a (Z.fst (1900 + k) + 366) - max b (Z.fst (1900 + k))) 0 = Z.cl a (1900 + k) - Z.cl b (1900 + k) := by
          unfold Z.cl; rw [hs]; exact ho _ (by omega)
        have hcl2 : max (min a (Z.fst (1900 + k) + 365 + 1) - max b (Z.fst (1900 + k))) 0 = Z.cl a (1900 + k) - Z.cl b (1900 + k) := by rw [← hcl, show Z.fst (1900 + (k : Int)) + 365 + 1 = Z.fst (1900 + (k : Int)) + 366 by omega]
        go_wp2_with fail
        refine (rleap_any _ _ (by omega) (by omega)).mono ?_
        rintro e w2 ⟨rfl, rfl⟩
        rw [hl]
        go_wp2_with fail
        refine (rleap_any _ _ (by omega) (by omega)).mono ?_
        rintro e w2 ⟨rfl, rfl⟩
        rw [hl]
        go_wp2_with fail
        have ek : (1900 : Int) + ((k + 1 : Nat) : Int) = 1900 + k + 1 := by omega
        go_roundw
        case rel => exact ⟨k + 1, by omega, ret_v (by rw [q1, q2] <;> omega), ret_v (by rw [q3, q4] <;> omega), ret_v (by rw [ek, hs] <;> omega), ret_v (by omega), trivial⟩
        case measure => simp [intOf]; omega
    · obtain rfl : k = 274 := by omega
      clear c1 c2 l1 l2 hk hlt
      go_wp2_with fail
      refine (R1.out _).mono ?_
      rintro e w2 ⟨rfl, hb2⟩
      have d2 := hb1.trans (hb2.mono hb1.size)
      go_wp2_with fail
      refine (R2.out _).mono ?_
      rintro e w3 ⟨rfl, hb3⟩
      have d3 := d2.trans (hb3.mono d2.size)
      go_wp2_with fail
      refine (AD.out _).mono ?_
      rintro e w4 ⟨rfl, hb4⟩
      have d4 := d3.trans (hb4.mono d3.size)
      go_wp2_with fail
      go_ret2
      exact ⟨rfl, d4⟩
set_option maxHeartbeats 800000 in
theorem rfraction_any (rule a b : Int) (w : World) (hr0 : 0 ≤ rule) (hr1 : rule ≤ 255) :
    Calls Try.prog 15 #[.int .u8 rule, .int .i64 a, .int .i64 b] w (FracRet rule a b w) := by
  have D := Lib.hid (rdays_any rule a b w hr0 hr1)
  unfold DaysRet at D
  by_cases hk : (Z.days rule a b).2 = 0
  · obtain ⟨r4, ia, ib, n0, n1⟩ := days_ok hk
    have HY := fun (h : rule = 3) (w' : World) (hb : Below w.heap.size w w') => frac_yes (w := w) (rule := rule) (q := Rat.divInt (Z.E b - Z.E a) 133590) hk (by unfold Z.frac; rw [if_pos h]) hb
    have H0 := fun (h : rule = 0) (w' : World) (hb : Below w.heap.size w w') => frac_yes (w := w) (rule := rule) (q := Rat.divInt (Z.days rule a b).1 365) hk (by unfold Z.frac; rw [if_neg (by omega), if_pos h]) hb
    have H1 := fun (h : rule ≠ 3 ∧ rule ≠ 0) (w' : World) (hb : Below w.heap.size w w') => frac_yes (w := w) (rule := rule) (q := Rat.divInt (Z.days rule a b).1 360) hk (by unfold Z.frac; rw [if_neg h.1, if_neg h.2]) hb
    have H0 := Lib.hid H0
    have H1 := Lib.hid H1
    have C0 := rratC (n := (Z.days rule a b).1) (m := 365) (by omega) (by omega) (by omega) rfl
    have C1 := rratC (n := (Z.days rule a b).1) (m := 360) (by omega) (by omega) (by omega) rfl
    rw [hk] at D
    by_cases h3 : rule = 3
    · have HY := HY h3
      subst h3
      by_cases hab : b < a
      · refine (rfrac3_b a b w ia ib hab).mono ?_
        rintro e w' ⟨rfl, hb⟩
        exact HY w' hb
      · refine (rfrac3_a a b w ia ib hab).mono ?_
        rintro e w' ⟨rfl, hb⟩
        exact HY w' hb
    · generalize (Z.days rule a b).1 = n at *
      clear hk HY
      have hr : rule = 0 ∨ rule = 1 ∨ rule = 2 ∨ rule = 4 := by omega
      clear h3
      rcases hr with rfl | rfl | rfl | rfl
      · go_enter Try.func15, Try.ntmps15
        go_wp2_with fail
        refine D.out.mono ?_
        rintro e w1 ⟨rfl, hb1⟩
        go_wp2_with fail
        refine (C0.out _).mono ?_
        rintro e w2 ⟨rfl, hb2⟩
        have c2 := hb1.trans (hb2.mono hb1.size)
        go_wp2_with fail
        go_ret2
        exact H0.out trivial _ c2
      · go_enter Try.func15, Try.ntmps15
        go_wp2_with fail
        refine D.out.mono ?_
        rintro e w1 ⟨rfl, hb1⟩
        go_wp2_with fail
        refine (C1.out _).mono ?_
        rintro e w2 ⟨rfl, hb2⟩
        have c2 := hb1.trans (hb2.mono hb1.size)
        go_wp2_with fail
        go_ret2
        exact H1.out (by simp) _ c2
      · go_enter Try.func15, Try.ntmps15
        go_wp2_with fail
        refine D.out.mono ?_
        rintro e w1 ⟨rfl, hb1⟩
        go_wp2_with fail
        refine (C1.out _).mono ?_
        rintro e w2 ⟨rfl, hb2⟩
        have c2 := hb1.trans (hb2.mono hb1.size)
        go_wp2_with fail
        go_ret2
        exact H1.out (by simp) _ c2
      · go_enter Try.func15, Try.ntmps15
        go_wp2_with fail
        refine D.out.mono ?_
        rintro e w1 ⟨rfl, hb1⟩
        go_wp2_with fail
        refine (C1.out _).mono ?_
        rintro e w2 ⟨rfl, hb2⟩
        have c2 := hb1.trans (hb2.mono hb1.size)
        go_wp2_with fail
        go_ret2
        exact H1.out (by simp) _ c2
  · obtain ⟨e1, e2⟩ := days_err hk
    have HN := Lib.hid (fun (w' : World) (hb : Below w.heap.size w w') => frac_no (rule := rule) (a := a) (b := b) e1 (by decide) hb)
    rw [e1, e2] at D
    clear hk e1 e2
    go_enter Try.func15, Try.ntmps15
    go_wp2_with fail
    refine D.out.mono ?_
    rintro e w1 ⟨rfl, hb1⟩
    go_wp2_with fail
    go_ret2
    exact HN.out _ hb1
end Go.Proofs.Ytblelgmedononaa
