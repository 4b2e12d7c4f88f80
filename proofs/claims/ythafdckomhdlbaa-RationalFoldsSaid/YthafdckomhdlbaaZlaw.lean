/- Plain lists and integers: the text of an integer as a string; sizes; what the operations answer for them. -/
import Derived.Test.YthafdckomhdlbaaZref
import Derived.Test.YthafdckomhdlbaaIdm
import Derived.Test.YthafdckomhdlbaaRsm
namespace Go.Proofs.Ythafdckomhdlbaa
namespace Z

/-- The text of an integer, as a string. -/
def S (z : Int) : ByteArray := ⟨(txt z).toArray⟩
/-- At most n digits. -/
def Lt (n : Nat) (z : Int) : Prop := z.natAbs < 10 ^ n
theorem S_data (z : Int) : (S z).data.toList = txt z := by simp [S]
theorem S_size (z : Int) : (S z).size = (txt z).length := by rw [Lib.size_eq, S_data]
theorem S_inj {x y : Int} (h : S x = S y) : x = y := by
  apply txt_inj
  rw [← S_data, ← S_data, h]
theorem S_of {s : ByteArray} (h : canon s.data.toList = true) : S (ival s.data.toList) = s := by
  have := txt_ival h
  unfold S
  rw [this]
theorem ival_S (z : Int) : ival (S z).data.toList = z := by rw [S_data, ival_txt]
theorem S_ne (z : Int) : (S z).toList.isEmpty = false := by
  rw [Lib.toList_data, S_data]
  unfold txt
  split
  · rfl
  · cases h : decB z.natAbs with
    | nil => exact absurd h (decB_ne _)
    | cons => rfl
theorem decB_le_of {n k : Nat} (h : n < 10 ^ k) (hk : 0 < k) : (decB n).length ≤ k := by
  rcases Nat.eq_zero_or_pos n with h0 | h0
  · subst h0; simp [decB_zero]; omega
  · rw [decB_len n h0]
    exact dg_len_of_lt 10 (by omega) n k h
theorem Lt.mono {n m : Nat} {z : Int} (h : Lt n z) (hm : n ≤ m) : Lt m z := Nat.lt_of_lt_of_le h (Nat.pow_le_pow_right (by omega) hm)
theorem Lt.neg {n : Nat} {z : Int} (h : Lt n z) : Lt n (-z) := by unfold Lt; rw [Int.natAbs_neg]; exact h
theorem Lt.add {n : Nat} {x y : Int} (hx : Lt n x) (hy : Lt n y) : Lt (n + 1) (x + y) := by
  unfold Lt at *
  rw [Nat.pow_succ]
  omega
theorem Lt.sub {n : Nat} {x y : Int} (hx : Lt n x) (hy : Lt n y) : Lt (n + 1) (x + -y) := hx.add hy.neg
theorem Lt.mul {n m : Nat} {x y : Int} (hx : Lt n x) (hy : Lt m y) : Lt (n + m) (x * y) := by
  unfold Lt at *
  rw [Int.natAbs_mul, Nat.pow_add]
  exact Nat.mul_lt_mul_of_lt_of_le hx (Nat.le_of_lt hy) (Nat.pow_pos (by omega))
theorem Lt.of_le {n : Nat} {x y : Int} (h : Lt n y) (hle : x.natAbs ≤ y.natAbs) : Lt n x := Nat.lt_of_le_of_lt hle h
theorem Lt.chk {n : Nat} {z : Int} (h : Lt n z) (hn : 0 < n) (hn' : n ≤ 1000) : chk (S z).data.toList = 0 := by
  rw [S_data]
  exact chk_txt (Nat.le_trans (decB_le_of h hn) hn')
theorem Lt.res {n : Nat} {z : Int} (h : Lt n z) (hn : 0 < n) (hn' : n ≤ 1000) : resE z = 0 ∧ resS z = S z := by
  have := decB_le_of h hn
  unfold resE resS
  rw [if_neg (by omega), if_neg (by omega)]
  exact ⟨rfl, rfl⟩
/-- The size of a string that is a canonical integer of at most n bytes. -/
theorem lt_of_size {s : ByteArray} {n : Nat} (h : canon s.data.toList = true) (hs : s.size ≤ n) : Lt n (ival s.data.toList) := by
  unfold Lt
  have hp := canon_parts h
  have h1 : natOf (mags s.data.toList) < 10 ^ (mags s.data.toList).length := natOf_lt (List.all_eq_true.1 hp.all)
  have h2 : (mags s.data.toList).length ≤ n := by
    rw [Lib.size_eq] at hs
    unfold mags
    split
    · rw [List.length_tail]; omega
    · exact hs
  rw [natAbs_ival]
  exact Nat.lt_of_lt_of_le h1 (Nat.pow_le_pow_right (by omega) h2)
theorem opS_S {f : Int → Int → Int} {n m k : Nat} {x y : Int} (hx : Lt n x) (hy : Lt m y) (hz : Lt k (f x y)) (hn : 0 < n) (hn' : n ≤ 1000) (hm : 0 < m) (hm' : m ≤ 1000) (hk : 0 < k) (hk' : k ≤ 1000) : opS f (S x) (S y) = S (f x y) ∧ opE f (S x) (S y) = 0 := by
  have hb := bothE_ok (hx.chk hn hn') (hy.chk hm hm')
  obtain ⟨h1, h2⟩ := hz.res hk hk'
  unfold opS opE
  rw [if_pos hb, if_pos hb, ival_S, ival_S]
  exact ⟨h2, h1⟩
theorem divS_S {n m : Nat} {x y : Int} (hx : Lt n x) (hy : Lt m y) (h0 : y ≠ 0) (hn : 0 < n) (hn' : n ≤ 1000) (hm : 0 < m) (hm' : m ≤ 1000) (f : Int → Int → Int) : divS f (S x) (S y) = S (f x y) ∧ divE (S x) (S y) = 0 := by
  have hb := bothE_ok (hx.chk hn hn') (hy.chk hm hm')
  have he : divE (S x) (S y) = 0 := by
    unfold divE
    rw [if_pos hb, if_neg (by rw [ival_S]; exact h0)]
  unfold divS
  rw [if_pos he, ival_S, ival_S]
  exact ⟨rfl, he⟩
theorem divE_zero {n : Nat} {x : Int} (hx : Lt n x) (hn : 0 < n) (hn' : n ≤ 1000) (f : Int → Int → Int) : divS f (S x) (S 0) = ⟨#[]⟩ ∧ divE (S x) (S 0) = 16 := by
  have h0 : Lt 1 0 := by unfold Lt; decide
  have hb := bothE_ok (hx.chk hn hn') (h0.chk (by omega) (by omega))
  have he : divE (S x) (S 0) = 16 := by
    unfold divE
    rw [if_pos hb, if_pos (by rw [ival_S])]
  unfold divS
  rw [he]
  exact ⟨rfl, rfl⟩
theorem cmpV_S {n m : Nat} {x y : Int} (hx : Lt n x) (hy : Lt m y) (hn : 0 < n) (hn' : n ≤ 1000) (hm : 0 < m) (hm' : m ≤ 1000) : cmpV (S x) (S y) = cmpI x y ∧ bothE (S x) (S y) = 0 := by
  have hb := bothE_ok (hx.chk hn hn') (hy.chk hm hm')
  unfold cmpV
  rw [if_pos hb, ival_S, ival_S]
  exact ⟨rfl, hb⟩
theorem gcdI_le {n : Nat} {x y : Int} (hx : Lt n x) (hy : Lt n y) : Lt n (gcdI x y) := by
  unfold Lt gcdI at *
  rw [Int.natAbs_natCast]
  rcases Nat.eq_zero_or_pos x.natAbs with h | h
  · rw [h, Nat.gcd_zero_left]; exact hy
  · have := gcd_abs_le (x := x.natAbs) (y := y.natAbs) (.inl h)
    omega
theorem S_zero : S 0 = ⟨#[48]⟩ := rfl
theorem S_one : S 1 = ⟨#[49]⟩ := by decide +kernel
theorem lt_zero : Lt 1 0 := by unfold Lt; decide
theorem lt_one : Lt 1 1 := by unfold Lt; decide
end Z
end Go.Proofs.Ythafdckomhdlbaa
