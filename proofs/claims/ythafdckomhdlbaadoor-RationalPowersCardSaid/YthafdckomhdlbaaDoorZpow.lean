/- Plain: what Power answers for small canonical texts: powers of core's rationals. -/
import Derived.Test.YthafdckomhdlbaaDoorZrt
import Derived.Test.YthafdckomhdlbaaDoorQ5
namespace Go.Proofs.YthafdckomhdlbaaDoor
namespace Z
theorem Lt.pow {n : Nat} {x : Int} (h : Lt n x) (k : Nat) : Lt (n * k + 1) (x ^ k) := by
  induction k with
  | zero => unfold Lt; rw [Int.pow_zero, Nat.mul_zero]; decide
  | succ k ih =>
    rw [Int.pow_succ]
    have := ih.mul h
    have e : n * k + 1 + n = n * (k + 1) + 1 := by rw [Nat.mul_add]; omega
    rwa [e] at this
theorem pwOk_of {n : Nat} {x : Int} (h : Lt n x) : ∀ m : Nat, n * m + 1 ≤ 1000 → pwOk x m = true
  | 0, _ => rfl
  | m + 1, hm => by
    have h1 := pwOk_of h m (by rw [Nat.mul_add] at hm; omega)
    have h2 := h.pow (m + 1)
    rw [Int.pow_succ] at h2
    unfold pwOk
    rw [h1, lt_res h2 (by omega) hm]
    rfl
theorem pwm_le (x : Int) (n : Nat) : pwm x n ≤ n := by unfold pwm; split <;> omega
theorem pow_pwm (x : Int) (n : Nat) : x ^ pwm x n = x ^ n := by
  unfold pwm
  split
  · rename_i h
    rcases h with rfl | rfl
    · cases n with
      | zero => rfl
      | succ n =>
        have : min (n + 1) 1 = 0 + 1 := by omega
        rw [this, Int.pow_succ, Int.pow_succ, Int.mul_zero, Int.mul_zero]
    · rw [Int.one_pow, Int.one_pow]
  · rfl
theorem p2_of {n : Nat} {x y : Int} (hx : Lt n x) (hy : Lt n y) {m : Nat} (hm : n * m + 1 ≤ 1000) : p2S x y m = Q (Rat.divInt (x ^ m) (y ^ m)) ∧ p2E x y m = 0 := by
  have a := pw_ok (pwOk_le (pwm_le x m) (pwOk_of hx m hm))
  have b := pw_ok (pwOk_le (pwm_le y m) (pwOk_of hy m hm))
  unfold p2S p2E
  rw [if_pos ⟨a.2, b.2⟩, if_pos ⟨a.2, b.2⟩, pow_pwm, pow_pwm]
  exact ⟨rfl, rfl⟩
theorem rat_pow (x : Rat) (k : Nat) : x ^ k = Rat.divInt (x.num ^ k) ((x.den : Int) ^ k) := by
  rw [Rat.pow_def, Rat.mk_eq_divInt, Int.natCast_pow]
theorem rat_pow_inv (x : Rat) (k : Nat) : (x ^ k)⁻¹ = Rat.divInt ((x.den : Int) ^ k) (x.num ^ k) := by
  rw [Rat.inv_def, Rat.pow_def, Int.natCast_pow]
theorem Rt.pow {n : Nat} {x : Rat} (h : Rt n x) (k : Nat) : Rt (n * k + 1) (x ^ k) := by
  rw [rat_pow]
  exact rt_divInt (h.1.pow k) (h.2.pow k) (Int.pow_pos (den_pos' x))
/-- What Power answers. -/
theorem pow_S {n : Nat} {x : Rat} (h : Rt n x) (h0 : 0 < n) (h1 : n ≤ 1000) {k : Int} (hk : n * k.natAbs + 1 ≤ 1000) (hz : x ≠ 0 ∨ 0 ≤ k) : powS (Q x) k = Q (x ^ k) ∧ powE (Q x) k = 0 := by
  have hb : ¬ (k < -1000 ∨ 1000 < k) := by
    have : k.natAbs ≤ n * k.natAbs := Nat.le_mul_of_pos_left _ h0
    omega
  have hc := h.chk h0 h1
  unfold powS powE
  rw [if_neg hb, if_neg hb, hc, Q_n, Q_d]
  simp only [ne_eq, not_true_eq_false, if_false]
  by_cases hn : k < 0
  · have hx : x ≠ 0 := hz.resolve_right (by omega)
    rw [if_pos hn, if_pos hn, if_neg (num_ne hx), if_neg (num_ne hx)]
    have e : k = -((k.natAbs : Nat) : Int) := by omega
    obtain ⟨a, b⟩ := p2_of (m := k.natAbs) h.2 h.1 hk
    refine ⟨?_, b⟩
    rw [a, ← rat_pow_inv]
    conv => rhs; rw [e, Rat.zpow_neg, Rat.zpow_natCast]
  · rw [if_neg hn, if_neg hn]
    have e : k = ((k.natAbs : Nat) : Int) := by omega
    obtain ⟨a, b⟩ := p2_of (m := k.natAbs) h.1 h.2 hk
    refine ⟨?_, b⟩
    rw [a, ← rat_pow]
    conv => rhs; rw [e, Rat.zpow_natCast]
theorem pow_0 {k : Int} (hk : k < 0) (h1 : -1000 ≤ k) : powS (Q 0) k = ⟨#[]⟩ ∧ powE (Q 0) k = 16 := by
  have hb : ¬ (k < -1000 ∨ 1000 < k) := by omega
  have hc := rt_zero.chk (by omega) (by omega)
  have hn : rn (Q 0) = 0 := Q_n 0
  unfold powS powE
  rw [if_neg hb, if_neg hb, hc, hn]
  simp [hk]
theorem rt_zpow {n : Nat} {x : Rat} (h : Rt n x) (h0 : x ≠ 0) (k : Int) : Rt (n * k.natAbs + 1) (x ^ k) := by
  by_cases hk : k < 0
  · have e : k = -((k.natAbs : Nat) : Int) := by omega
    have g := h.pow k.natAbs
    rw [e, Rat.zpow_neg, Rat.zpow_natCast, Int.natAbs_neg, Int.natAbs_natCast]
    refine g.inv ?_
    intro hh
    have : x ^ ((k.natAbs : Nat) : Int) * x ^ (-((k.natAbs : Nat) : Int)) = 1 := by
      rw [← Rat.zpow_add h0, Int.add_right_neg, Rat.zpow_zero]
    rw [Rat.zpow_natCast, hh, Rat.zero_mul] at this
    exact absurd this (by decide)
  · have e : k = ((k.natAbs : Nat) : Int) := by omega
    have g := h.pow k.natAbs
    rw [e, Rat.zpow_natCast, Int.natAbs_natCast]
    exact g
theorem zpow_one {x : Rat} (h0 : x ≠ 0) (k : Int) : x ^ k * x ^ (-k) = 1 := by
  rw [← Rat.zpow_add h0, Int.add_right_neg, Rat.zpow_zero]
theorem zero_zpow {k : Int} (h : 0 < k) : (0 : Rat) ^ k = 0 := by
  have e : k = (((k.natAbs - 1) + 1 : Nat) : Int) := by omega
  rw [e, Rat.zpow_natCast, Rat.pow_succ, Rat.mul_zero]
end Z
end Go.Proofs.YthafdckomhdlbaaDoor
