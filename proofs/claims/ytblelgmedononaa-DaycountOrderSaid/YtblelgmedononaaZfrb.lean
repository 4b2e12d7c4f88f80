/- Plain: laws of days and fractions of years. -/
import Derived.Test.YtblelgmedononaaZfra
namespace Go.Proofs.Ytblelgmedononaa
namespace Z
theorem Dt.thirty0 {a b y m d p q r : Int} (h : Dt a y m d) (k : Dt b p q r) : thirty false a b = Z.T b - Z.T a := by
  rw [h.T, k.T]
  unfold Z.thirty th
  rw [h.pts, k.pts]
  simp only [true_or, if_true]
  omega
theorem Dt.thirty1 {a b y m d p q r : Int} (h : Dt a y m d) (k : Dt b p q r) : thirty true a b = 360 * (p - y) + 30 * (q - m) + (if min d 30 = 30 then min r 30 else r) - min d 30 := by
  unfold Z.thirty th
  rw [h.pts, k.pts]
  simp only [Bool.true_eq_false, false_or]
theorem Dt.T_mono {a b y m d p q r : Int} (h : Dt a y m d) (k : Dt b p q r) (hab : a ≤ b) : Z.T a ≤ Z.T b := by
  have hl := h.lt k hab
  rw [h.T, k.T]
  have := h.m0; have := h.m1; have := h.d0; have := k.m0; have := k.m1; have := k.d0
  omega
theorem inR_iff' (a : Int) : inR a = true ↔ 0 ≤ a ∧ a ≤ 99999 := by unfold inR; simp
theorem dt_in {a : Int} (h : inR a = true) : ∃ y m d, Dt a y m d := by
  rw [inR_iff'] at h
  exact dt_of h.1 h.2
theorem thirty0_eq {a b : Int} (ha : inR a = true) (hb : inR b = true) : thirty false a b = T b - T a := by
  obtain ⟨y, m, d, h⟩ := dt_in ha
  obtain ⟨p, q, r, k⟩ := dt_in hb
  exact h.thirty0 k
theorem thirty1_self {a : Int} (ha : inR a = true) : thirty true a a = 0 := by
  obtain ⟨y, m, d, h⟩ := dt_in ha
  rw [h.thirty1 h]
  have := h.d0; have := h.d1; have := len_ge y m
  split <;> omega
/-- Days is an antisymmetric function. -/
theorem days_swap (rule a b : Int) : (days rule b a).1 = -(days rule a b).1 ∧ (days rule b a).2 = (days rule a b).2 := by
  unfold days
  by_cases h : rule ≤ 4 ∧ inR a = true ∧ inR b = true
  · rw [if_pos h, if_pos ⟨h.1, h.2.2, h.2.1⟩]
    refine ⟨?_, rfl⟩
    dsimp only
    by_cases h1 : b < a
    · rw [if_pos h1, if_neg (by omega)]; omega
    · by_cases h2 : a < b
      · rw [if_neg h1, if_pos h2]
      · obtain rfl : a = b := by omega
        rw [if_neg (by omega)]
        have e : ruled rule a a = 0 := by
          unfold ruled
          split
          · rw [thirty0_eq h.2.1 h.2.1]; omega
          · split
            · exact thirty1_self h.2.1
            · omega
        omega
  · rw [if_neg h, if_neg (fun hh => h ⟨hh.1, hh.2.2, hh.2.1⟩)]
    exact ⟨rfl, rfl⟩
/-- What is counted, by every rule but CountBond. -/
noncomputable def K (rule a : Int) : Int := if rule = 2 then T a else a
theorem days_K {rule a b : Int} (h : (days rule a b).2 = 0) (h4 : rule ≠ 4) : (days rule a b).1 = K rule b - K rule a := by
  unfold days at h ⊢
  by_cases hc : rule ≤ 4 ∧ inR a = true ∧ inR b = true
  · rw [if_pos hc]
    dsimp only
    unfold ruled K
    rw [if_neg h4, if_neg h4]
    by_cases h2 : rule = 2
    · rw [if_pos h2, if_pos h2, if_pos h2, if_pos h2, thirty0_eq hc.2.1 hc.2.2, thirty0_eq hc.2.2 hc.2.1]
      split <;> omega
    · rw [if_neg h2, if_neg h2, if_neg h2, if_neg h2]
      split <;> omega
  · rw [if_neg hc] at h; exact absurd h (by decide)
theorem days_dom {rule a b : Int} : (days rule a b).2 = 0 ↔ rule ≤ 4 ∧ inR a = true ∧ inR b = true := by
  unfold days
  split
  · rename_i h; exact ⟨fun _ => h, fun _ => rfl⟩
  · rename_i h; exact ⟨fun hh => absurd hh (by decide), fun hh => absurd hh h⟩
theorem div_add_same {x y d : Int} (h : 0 < d) : Rat.divInt x d + Rat.divInt y d = Rat.divInt (x + y) d := by
  have hd : d * d ≠ 0 := Int.mul_ne_zero (by omega) (by omega)
  rw [Rat.divInt_add_divInt _ _ (by omega) (by omega), Rat.divInt_eq_divInt_iff hd (by omega), ← Int.add_mul, Int.mul_assoc]
/-- Fractions of adjacent periods add up. -/
theorem frac_add {rule a b c : Int} (h1 : (days rule a b).2 = 0) (h2 : (days rule b c).2 = 0) (h3 : (days rule a c).2 = 0) (h4 : rule ≠ 4) : frac rule a b + frac rule b c = frac rule a c := by
  have k1 := days_K h1 h4
  have k2 := days_K h2 h4
  have k3 := days_K h3 h4
  unfold frac
  split
  · rw [div_add_same (by omega)]; congr 1; omega
  · split
    · rw [div_add_same (by omega)]; congr 1; omega
    · rw [div_add_same (by omega)]; congr 1; omega
theorem frac_swap {rule a b : Int} : frac rule a b + frac rule b a = 0 := by
  have k := (days_swap rule a b).1
  have z : ∀ d : Int, Rat.divInt 0 d = 0 := Rat.zero_divInt
  unfold frac
  split
  · rw [div_add_same (by omega), show E b - E a + (E a - E b) = 0 by omega]; exact z _
  · split
    · rw [div_add_same (by omega), show (days rule a b).1 + (days rule b a).1 = 0 by omega]; exact z _
    · rw [div_add_same (by omega), show (days rule a b).1 + (days rule b a).1 = 0 by omega]; exact z _
theorem frac_self {rule a : Int} : frac rule a a = 0 := by
  have k := (days_swap rule a a).1
  have z : ∀ d : Int, Rat.divInt 0 d = 0 := Rat.zero_divInt
  have e : (days rule a a).1 = 0 := by omega
  unfold frac
  rw [e, Int.sub_self]
  split
  · exact z _
  · split <;> exact z _
theorem E_bounds {a : Int} (h : inR a = true) : 0 ≤ E a ∧ E a ≤ 40000000 := by
  obtain ⟨y, m, d, h⟩ := dt_in h
  rw [h.E]
  have := h.passed
  have hl : ylen y ≤ 366 := by unfold ylen; split <;> omega
  exact eof_bounds h.y0 h.y1 this.1 (by omega)
/-- Later ends do not give fewer days. -/
theorem ruled_mono {rule a b c : Int} (ha : inR a = true) (hb : inR b = true) (hc : inR c = true) (_h1 : a ≤ b) (h2 : b ≤ c) : ruled rule a b ≤ ruled rule a c := by
  obtain ⟨y, m, d, h⟩ := dt_in ha
  obtain ⟨p, q, r, k⟩ := dt_in hb
  obtain ⟨p', q', r', k'⟩ := dt_in hc
  unfold ruled
  split
  · rw [h.thirty0 k, h.thirty0 k']
    have := k.T_mono k' h2
    omega
  · split
    · rw [h.thirty1 k, h.thirty1 k']
      have hl := k.lt k' h2
      have := k.m0; have := k.m1; have := k.d0; have := k.d1; have := len_ge p q
      have := k'.m0; have := k'.m1; have := k'.d0
      split <;> omega
    · omega
theorem bond_eq {a b y m d p q r : Int} (h : Dt a y m d) (k : Dt b p q r) : thirty true a b = thirty false a b + (if r = 31 ∧ d < 30 then 1 else 0) := by
  rw [h.thirty1 k, h.thirty0 k, h.T, k.T]
  have := k.d1; have := len_ge p q; have := h.d1; have := len_ge y m
  split <;> split <;> omega
/-- Months count as twelfths of a year. -/
theorem months_eq {a b y m d p q n : Int} (h : Dt a y m d) (k : Dt b p q d) (hd : d ≤ 28) (hn : 12 * p + q = 12 * y + m + n) : thirty false a b = 30 * n ∧ thirty true a b = 30 * n ∧ thirty false b a = -(30 * n) ∧ thirty true b a = -(30 * n) := by
  rw [h.thirty0 k, k.thirty0 h, h.thirty1 k, k.thirty1 h, h.T, k.T]
  rw [if_neg (by omega)]
  omega
theorem months_frac {n : Int} : Rat.divInt (30 * n) 360 = Rat.divInt n 12 := by
  rw [Rat.divInt_eq_divInt_iff (by omega) (by omega)]
  omega
theorem years_frac {y p : Int} : Rat.divInt (eof p 0 - eof y 0) 133590 = ((p - y : Int) : Rat) := by
  have e : ((p - y : Int) : Rat) = Rat.divInt (p - y) 1 := by rw [← self_div ((p - y : Int) : Rat), Rat.num_intCast, Rat.den_intCast]; rfl
  rw [e, Rat.divInt_eq_divInt_iff (by omega) (by omega)]
  unfold eof
  omega
theorem rt_frac {rule a b : Int} (h : (days rule a b).2 = 0) (hb : -200000 ≤ (days rule a b).1 ∧ (days rule a b).1 ≤ 200000) : Rt 12 (frac rule a b) := by
  obtain ⟨_, ia, ib⟩ := days_dom.1 h
  have e1 := E_bounds ia
  have e2 := E_bounds ib
  unfold frac
  split
  · exact rt_divInt (by unfold Lt; omega) (by unfold Lt; omega) (by omega)
  · split
    · exact rt_divInt (by unfold Lt; omega) (by unfold Lt; omega) (by omega)
    · exact rt_divInt (by unfold Lt; omega) (by unfold Lt; omega) (by omega)
end Z
end Go.Proofs.Ytblelgmedononaa
