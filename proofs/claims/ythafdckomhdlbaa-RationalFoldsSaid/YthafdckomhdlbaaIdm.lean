/- Walks: integer.divide (all ways), Compare, DivMod. -/
import Derived.Test.YthafdckomhdlbaaIops
import Derived.Test.YthafdckomhdlbaaIlong
namespace Go.Proofs.Ythafdckomhdlbaa
open Go.RowKit

theorem divideN (v u : Value) (n m : Nat) (w : World) (hS : SN .u32 w v (Z.dg 1000000000 n)) (hT : SN .u32 w u (Z.dg 1000000000 m)) (hl : (Z.dg 1000000000 n).length ≤ 100000) (hl' : (Z.dg 1000000000 m).length ≤ 100000) (hm : 0 < m) :
    Calls Try.prog 64 #[v, u] w (DivRet w (n / m) (n % m)) := by
  have cn := Z.can_dg 1000000000 (by omega) n
  have cm := Z.can_dg 1000000000 (by omega) m
  have en := Z.ofDg_dg 1000000000 (by omega) n
  have em := Z.ofDg_dg 1000000000 (by omega) m
  rcases Nat.lt_or_ge n m with h | h
  · have := divide_small v u _ _ w hS hT cn cm (by omega) (by omega) (by rw [en, em]; exact h)
    rwa [en, em] at this
  · rcases Nat.lt_or_ge (Z.dg 1000000000 m).length 2 with h2 | h2
    · have h1 : (Z.dg 1000000000 m).length ≠ 0 := fun e => by
        have := (Z.dg_eq_nil 1000000000 (by omega) m).1 (List.eq_nil_of_length_eq_zero e); omega
      obtain ⟨d, hd⟩ := List.length_eq_one_iff.1 (show (Z.dg 1000000000 m).length = 1 by omega)
      rw [hd] at hT cm em
      have hdm : d = m := by simpa [Z.ofDg] using em
      subst hdm
      have := divide_one v u _ d w hS hT cn hm (cm.1 d (by simp)) (by omega) (by rw [en]; exact h)
      rwa [en] at this
    · have := divide_long v u _ _ w hS hT cn cm (by omega) (by omega) h2 (by rw [en, em]; exact h)
      rwa [en, em] at this
theorem SN.set_other {q : IntKind} {W : World} {B : Nat} {t : TypeId} {cs : Array Value} {v : Value} {ms : List Nat} (h : SN q W v ms) (hb : Blk W B t cs) (hn : ∀ (j : Nat) (d : Int), cs[j]? ≠ some (.int q d)) (j : Nat) (u : Value) : SN q (W.setCell ⟨B, j, none⟩ u) v ms := by
  obtain ⟨A, c, hv, h1, h2, h3⟩ := h
  refine ⟨A, c, hv, h1, h2, fun hp => ?_⟩
  obtain ⟨b, o, hA, hlt, hc⟩ := h3 hp
  have hne : b ≠ B := by
    rintro rfl
    obtain ⟨d, hd⟩ : ∃ d, ms[0]? = some d := ⟨_, List.getElem?_eq_getElem hp⟩
    have := hc 0 d hd
    rw [hb.cell] at this
    exact hn _ _ this
  exact ⟨b, o, hA, by simpa [World.setCell] using hlt, fun i d hd => cell_other hne (hc i d hd) u⟩
theorem num_cells (p : Bool) (A : Option Addr) (n c : Nat) (j : Nat) (d : Int) : (#[Value.bool p, Value.slice A n c])[j]? ≠ some (.int .u32 d) := by
  match j with
  | 0 => simp
  | 1 => simp
  | j + 2 => simp

namespace Z
theorem ediv_of {x y q r : Int} (hy : y ≠ 0) (h : x = y * q + r) (h0 : 0 ≤ r) (h1 : r < y.natAbs) : x / y = q ∧ x % y = r := by
  rcases Int.lt_or_lt_of_ne hy with hn | hp
  · obtain ⟨c, rfl⟩ : ∃ c, y = -c := ⟨-y, by omega⟩
    have hc : 0 < c := by omega
    have := (Int.ediv_emod_unique (a := x) (b := c) (r := r) (q := -q) hc).2 ⟨by rw [h, Int.mul_neg, Int.neg_mul]; omega, h0, by omega⟩
    rw [Int.ediv_neg, Int.emod_neg]
    exact ⟨by omega, this.2⟩
  · exact (Int.ediv_emod_unique hp).2 ⟨by omega, h0, by omega⟩
/-- The quotient and the rest, out of those of the absolute values. -/
theorem div_same {x y : Int} (hy : y ≠ 0) (h : 0 ≤ x ∨ x.natAbs % y.natAbs = 0) : x / y = sgn (decide (x < 0) != decide (y < 0)) (x.natAbs / y.natAbs) ∧ x % y = (x.natAbs % y.natAbs : Nat) := by
  have hY : 0 < y.natAbs := by omega
  have hlt := Nat.mod_lt x.natAbs hY
  have he := Nat.div_add_mod x.natAbs y.natAbs
  generalize x.natAbs / y.natAbs = m at *
  generalize x.natAbs % y.natAbs = r at *
  refine ediv_of hy ?_ (by omega) (by omega)
  have hms := mul_sgn y (sgn (decide (x < 0) != decide (y < 0)) m)
  have e : ((y.natAbs * m : Nat) : Int) = (y.natAbs : Int) * m := Int.natCast_mul _ _
  unfold sgn
  rcases Int.lt_or_le x 0 with hx | hx <;> rcases Int.lt_or_le y 0 with hy | hy
  · rw [if_neg (by simp [hx, hy])]
    have : y * (m : Int) = -((y.natAbs : Int) * m) := by rw [show (y.natAbs : Int) = -y by omega, Int.neg_mul, Int.neg_neg]
    omega
  · rw [if_pos (by simp [hx]; omega)]
    have : y * -(m : Int) = -((y.natAbs : Int) * m) := by rw [show (y.natAbs : Int) = y by omega, Int.mul_neg]
    omega
  · rw [if_pos (by simp [hy]; omega)]
    have : y * -(m : Int) = ((y.natAbs : Int) * m) := by rw [show (y.natAbs : Int) = -y by omega, Int.mul_neg, Int.neg_mul]
    omega
  · rw [if_neg (by simp; omega)]
    have : y * (m : Int) = ((y.natAbs : Int) * m) := by rw [show (y.natAbs : Int) = y by omega]
    omega
theorem div_next {x y : Int} (hy : y ≠ 0) (hx : x < 0) (hr : 0 < x.natAbs % y.natAbs) : x / y = sgn (decide (x < 0) != decide (y < 0)) (x.natAbs / y.natAbs + 1) ∧ x % y = (y.natAbs - x.natAbs % y.natAbs : Nat) := by
  have hY : 0 < y.natAbs := by omega
  have hlt := Nat.mod_lt x.natAbs hY
  have he := Nat.div_add_mod x.natAbs y.natAbs
  generalize x.natAbs / y.natAbs = m at *
  generalize x.natAbs % y.natAbs = r at *
  refine ediv_of hy ?_ (by omega) (by omega)
  have e : ((y.natAbs * m : Nat) : Int) = (y.natAbs : Int) * m := Int.natCast_mul _ _
  unfold sgn
  rcases Int.lt_or_le y 0 with hy | hy
  · rw [if_neg (by simp [hx, hy])]
    have : y * ((m + 1 : Nat) : Int) = -((y.natAbs : Int) * m) + y := by rw [show (y.natAbs : Int) = -y by omega, Int.neg_mul, Int.neg_neg, Int.natCast_add, Int.mul_add]; omega
    omega
  · rw [if_pos (by simp [hx]; omega)]
    have : y * -((m + 1 : Nat) : Int) = -((y.natAbs : Int) * m) - y := by rw [show (y.natAbs : Int) = y by omega, Int.mul_neg, Int.natCast_add, Int.mul_add]; omega
    omega
theorem div_abs_le {x y : Int} (hy : y ≠ 0) : (x / y).natAbs ≤ x.natAbs := by
  have hY : 0 < y.natAbs := by omega
  have he := Nat.div_add_mod x.natAbs y.natAbs
  have hm : x.natAbs / y.natAbs ≤ y.natAbs * (x.natAbs / y.natAbs) := Nat.le_mul_of_pos_left _ hY
  by_cases h : 0 ≤ x ∨ x.natAbs % y.natAbs = 0
  · rw [(div_same hy h).1, sgn_abs]; omega
  · rw [(div_next hy (by omega) (by omega)).1, sgn_abs]; omega
theorem mod_abs_le {x y : Int} (hy : y ≠ 0) : (x % y).natAbs ≤ y.natAbs := by
  have hY : 0 < y.natAbs := by omega
  have hlt := Nat.mod_lt x.natAbs hY
  by_cases h : 0 ≤ x ∨ x.natAbs % y.natAbs = 0
  · rw [(div_same hy h).2]; omega
  · rw [(div_next hy (by omega) (by omega)).2]; omega
/-- Where two integers have no error, quotient and rest have at most 1,000 digits. -/
theorem div_size {a b : ByteArray} (h : bothE a b = 0) (hy : ival b.data.toList ≠ 0) :
    (decB (ival a.data.toList / ival b.data.toList).natAbs).length ≤ 1000 ∧ (decB (ival a.data.toList % ival b.data.toList).natAbs).length ≤ 1000 := by
  obtain ⟨ha, hb⟩ := bothE_zero h
  obtain ⟨ca, la⟩ := chk_zero_iff.1 ha
  obtain ⟨cb, lb⟩ := chk_zero_iff.1 hb
  rw [← decB_ival ca] at la
  rw [← decB_ival cb] at lb
  exact ⟨Nat.le_trans (decB_mono (div_abs_le hy)) la, Nat.le_trans (decB_mono (mod_abs_le hy)) lb⟩
theorem gcd_abs_le {x y : Nat} (h : 0 < x ∨ 0 < y) : Nat.gcd x y ≤ max x y := by
  rcases h with h | h
  · exact Nat.le_trans (Nat.le_of_dvd h (Nat.gcd_dvd_left x y)) (Nat.le_max_left _ _)
  · exact Nat.le_trans (Nat.le_of_dvd h (Nat.gcd_dvd_right x y)) (Nat.le_max_right _ _)
theorem gcd_size {a b : ByteArray} (h : bothE a b = 0) : (decB (gcdI (ival a.data.toList) (ival b.data.toList)).natAbs).length ≤ 1000 := by
  obtain ⟨ha, hb⟩ := bothE_zero h
  obtain ⟨ca, la⟩ := chk_zero_iff.1 ha
  obtain ⟨cb, lb⟩ := chk_zero_iff.1 hb
  rw [← decB_ival ca] at la
  rw [← decB_ival cb] at lb
  generalize ival a.data.toList = x at *
  generalize ival b.data.toList = y at *
  unfold gcdI
  rw [Int.natAbs_natCast]
  rcases Nat.eq_zero_or_pos x.natAbs with h1 | h1
  · rw [h1, Nat.gcd_zero_left]; exact lb
  · rcases Nat.le_total x.natAbs y.natAbs with h2 | h2
    · exact Nat.le_trans (decB_mono (by have := gcd_abs_le (y := y.natAbs) (.inl h1); omega)) lb
    · exact Nat.le_trans (decB_mono (by have := gcd_abs_le (y := y.natAbs) (.inl h1); omega)) la
end Z
end Go.Proofs.Ythafdckomhdlbaa
