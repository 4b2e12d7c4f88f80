/- Plain: how much rounding changes a number, and in which direction; heads and tails of rationals' texts. -/
import Derived.Test.YthafdckomhdlbaaDoorZrt
import Derived.Test.YthafdckomhdlbaaDoorRd1
import Derived.Test.YthafdckomhdlbaaDoorIl
namespace Go.Proofs.YthafdckomhdlbaaDoor
namespace Z
theorem Q_data_head {q : Rat} : ∃ l, (Q q).data.toList = (S q.num).data.toList ++ l := by
  rw [Q_data]
  unfold qT
  split
  · exact ⟨[], by rw [S_data, List.append_nil]⟩
  · exact ⟨_, by rw [S_data]⟩
theorem Q_pos (q : Rat) : 0 < (Q q).size := by
  obtain ⟨l, h⟩ := Q_data_head (q := q)
  have := S_pos q.num
  rw [Lib.size_eq] at this ⊢
  rw [h, List.length_append]; omega
theorem isNeg_app {a b : List UInt8} (h : 0 < a.length) : isNeg (a ++ b) = isNeg a := by
  cases a with
  | nil => simp at h
  | cons => rfl
theorem Q_headF (q : Rat) : ∀ h : 0 < (Q q).size, ((((Q q)[0]'h).toNat : Int) == 45) = decide (q.num < 0) := by
  intro h
  have h1 := neg_of (Q q) h
  obtain ⟨l, hl⟩ := Q_data_head (q := q)
  have hp := S_pos q.num
  rw [Lib.size_eq] at hp
  rw [hl, isNeg_app hp, S_data, isNeg_txt] at h1
  exact h1.symm
theorem Q_tail {q : Rat} (h : q.num < 0) : (Q q).extract 1 (Q q).size = Q (-q) := by
  apply ba_ext
  rw [Lib.extract_data, Q_data, Q_data]
  have hs : (Q q).size = (qT q).length := by rw [Lib.size_eq, Q_data]
  rw [hs]
  have e : ∀ l : List UInt8, (l.drop 1).take (l.length - 1) = l.tail := by
    intro l; cases l with
    | nil => rfl
    | cons c l => simp
  have e2 : qT q = 45 :: qT (-q) := by
    unfold qT
    rw [Rat.neg_num, Rat.neg_den]
    have ht : txt q.num = 45 :: txt (-q.num) := by
      unfold txt
      rw [if_pos h, if_neg (by omega), Int.natAbs_neg]
    rw [ht]
    split <;> rfl
  rw [e2]
  simp
/-- The change: t over d. -/
theorem near_gcd {n d r : Int} (h : gcdI n d = 1) : gcdI (r * d - n) d = 1 := by
  have h1 := gcdI_dvd_left (r * d - n) d
  have h2 := gcdI_dvd_right (r * d - n) d
  have h3 : gcdI (r * d - n) d ∣ n := by
    have := Int.dvd_sub (Int.dvd_mul_of_dvd_right h2 : _ ∣ r * d) h1
    have e : r * d - (r * d - n) = n := by omega
    rwa [e] at this
  have h4 : gcdI (r * d - n) d ∣ gcdI n d := Int.dvd_coe_gcd h3 h2
  rw [h] at h4
  have h5 := gcdI_nonneg (r * d - n) d
  exact Int.eq_one_of_dvd_one h5 h4
theorem near_parts (x : Rat) (r : Int) : ((r : Rat) - x).num = r * x.den - x.num ∧ ((((r : Rat) - x).den : Nat) : Int) = x.den := by
  have hd := den_pos' x
  have e : (r : Rat) - x = Rat.divInt (r * x.den - x.num) x.den := by
    have e1 : (r : Rat) = Rat.divInt r 1 := by rw [← self_div (r : Rat), Rat.num_intCast, Rat.den_intCast]; rfl
    conv => lhs; rw [e1, ← self_div x]
    rw [Rat.divInt_sub_divInt _ _ (by omega) (by omega), Int.mul_one, Int.one_mul]
  have h := div_num_pos (x := r * x.den - x.num) hd
  rw [near_gcd (gcd_rat x), Int.ediv_one, Int.ediv_one, ← e] at h
  exact h
/-- What rounding does, in integers: t = r d - n. -/
theorem near_facts {m n d : Int} (h0 : 0 ≤ m) (h4 : m ≤ 4) (hd : 0 < d) (r t : Int) (hr : rndP m n d = r) (ht : r * d - n = t) :
    (-d < t ∧ t < d) ∧ (m = 0 → (t ≤ 0 ∧ 0 ≤ n) ∨ (0 ≤ t ∧ n ≤ 0)) ∧ (m = 1 → (t ≤ 0 ∧ n ≤ 0) ∨ (0 ≤ t ∧ 0 ≤ n)) ∧ (m = 4 → t ≤ 0) ∧
    (m = 2 → (-d ≤ 2 * t ∧ 2 * t ≤ d) ∧ (2 * t = d → 0 < n) ∧ (2 * t = -d → n < 0)) ∧ (m = 3 → (-d ≤ 2 * t ∧ 2 * t ≤ d) ∧ (2 * t = d ∨ 2 * t = -d → r % 2 = 0)) ∧ (d = 1 → r = n) := by
  have e := Int.mul_ediv_add_emod n d
  have r0 := Int.emod_nonneg n (by omega : d ≠ 0)
  have r1 := Int.emod_lt_of_pos n hd
  rw [rnd_eq h0 h4 hd] at hr
  have hq0 : n < 0 → n / d < 0 := fun h => Int.ediv_neg_of_neg_of_pos h hd
  have hq1 : 0 ≤ n → 0 ≤ n / d := fun h => Int.ediv_nonneg h (by omega)
  have hd1 : d = 1 → n / d = n ∧ n % d = 0 := by rintro rfl; exact ⟨Int.ediv_one n, by omega⟩
  have hn0 : n = 0 → n % d = 0 := by rintro rfl; exact Int.zero_emod d
  have hc : ((n % d = 0 ∨ m = 4) ∧ n / d = r) ∨ (¬ (n % d = 0 ∨ m = 4) ∧ upR m n d ∧ n / d + 1 = r) ∨ (¬ (n % d = 0 ∨ m = 4) ∧ ¬ upR m n d ∧ n / d = r) := by
    unfold rndR at hr
    by_cases hz : n % d = 0 ∨ m = 4
    · rw [if_pos hz] at hr; exact .inl ⟨hz, hr⟩
    · rw [if_neg hz] at hr
      by_cases hu : upR m n d
      · rw [if_pos hu] at hr; exact .inr (.inl ⟨hz, hu, hr⟩)
      · rw [if_neg hu, Int.add_zero] at hr; exact .inr (.inr ⟨hz, hu, hr⟩)
  clear hr
  unfold upR at hc
  generalize n / d = q at *
  generalize n % d = k at *
  rw [Int.mul_comm] at e
  rcases hc with ⟨hz, hr⟩ | ⟨hz, hu, hr⟩ | ⟨hz, hu, hr⟩
  · subst hr
    generalize q * d = qd at *
    refine ⟨?_, ?_, ?_, ?_, ?_, ?_, ?_⟩ <;> omega
  · subst hr
    rw [Int.add_mul, Int.one_mul] at ht
    generalize q * d = qd at *
    refine ⟨?_, ?_, ?_, ?_, ?_, ?_, ?_⟩ <;> omega
  · subst hr
    generalize q * d = qd at *
    refine ⟨?_, ?_, ?_, ?_, ?_, ?_, ?_⟩ <;> omega
theorem last_any {x : Int} (h : (S x).size - 1 < (S x).size) : (((S x)[(S x).size - 1].toNat : Int) - 48) = (x.natAbs : Int) % 10 := by
  obtain ⟨l, hl⟩ := decB_last x.natAbs
  have e : ∃ l', (S x).data.toList = l' ++ [chr (x.natAbs % 10)] := by
    rw [S_data]; unfold txt
    split
    · exact ⟨45 :: l, by rw [hl]; rfl⟩
    · exact ⟨l, hl⟩
  obtain ⟨l', e⟩ := e
  rw [last_get e h, chr_nat (Nat.mod_lt _ (by omega))]
  omega
theorem even_any {x : Int} (h : (S x).size - 1 < (S x).size) : ((((S x)[(S x).size - 1].toNat : Int) - 48) % 2 == 0) = decide (x % 2 = 0) := by
  rw [last_any h]
  have : (x.natAbs : Int) % 10 % 2 = x % 2 := by omega
  rw [this]
  by_cases hh : x % 2 = 0 <;> simp [hh]
end Z
end Go.Proofs.YthafdckomhdlbaaDoor
