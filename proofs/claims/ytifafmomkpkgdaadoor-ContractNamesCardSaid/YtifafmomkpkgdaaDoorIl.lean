/- Il: Ilaw Ilawb -/
import Derived.Test.YtifafmomkpkgdaaDoorZr
import Derived.Test.YtifafmomkpkgdaaDoorRops
import Derived.Test.YtifafmomkpkgdaaDoorR2
/- Walks: the statements' helpers: op, fits, alive. -/

namespace Go.Proofs.YtifafmomkpkgdaaDoor
open Go.RowKit

def OpStr (r : ByteArray) (w : World) (e : Ending) (w' : World) : Prop := e = .returned (.string r) ∧ Below w.heap.size w w'
theorem opS_err {f : Int → Int → Int} {a b : ByteArray} (h : Z.opE f a b ≠ 0) : Z.opS f a b = ⟨#[]⟩ := by
  unfold Z.opE at h
  unfold Z.opS
  by_cases hb : Z.bothE a b = 0
  · rw [if_pos hb] at h ⊢
    exact Z.resS_bad h
  · rw [if_neg hb]
/-- What fits answers. -/
def fitsB (n : Nat) (ss : List ByteArray) : Bool := ss.all fun s => decide (s.size ≤ n) && decide (Z.chk s.data.toList = 0)
def FitsRet (n : Nat) (ss : List ByteArray) (w : World) (e : Ending) (w' : World) : Prop := e = .returned (.bool (fitsB n ss)) ∧ Below w.heap.size w w'
theorem fits_no {n : Nat} {ss : List ByteArray} {s : ByteArray} (hs : s ∈ ss) (h : n < s.size ∨ Z.chk s.data.toList ≠ 0) : fitsB n ss = false := by
  unfold fitsB
  rw [List.all_eq_false]
  exact ⟨s, hs, by simp; omega⟩
theorem fits_yes {n : Nat} {ss : List ByteArray} (h : ∀ s ∈ ss, s.size ≤ n ∧ Z.chk s.data.toList = 0) : fitsB n ss = true := by
  unfold fitsB
  rw [List.all_eq_true]
  intro s hs
  simp [(h s hs).1, (h s hs).2]
/-- A string that fits is an integer's text. -/
theorem fits_get {n : Nat} {ss : List ByteArray} {s : ByteArray} (h : fitsB n ss = true) (hs : s ∈ ss) : ∃ x, s = Z.S x ∧ Z.Lt n x := by
  unfold fitsB at h
  rw [List.all_eq_true] at h
  have := h s hs
  simp only [Bool.and_eq_true, decide_eq_true_eq] at this
  have hc := (Z.chk_zero_iff.1 this.2).1
  exact ⟨_, (Z.S_of hc).symm, Z.lt_of_size hc this.1⟩
theorem Z.Lt.len {n : Nat} {x : Int} (h : Z.Lt n x) (hn : 0 < n) (hn' : n ≤ 1000) : (Z.S x).size ≤ maxLen := by
  have h1 := Z.chk_size (h.chk hn hn')
  rw [← Lib.size_eq] at h1
  unfold maxLen
  omega
end Go.Proofs.YtifafmomkpkgdaaDoor
/- Walks: the statements' helpers: Compare, DivMod, Gcd on integers' texts; plain facts. -/

namespace Go.Proofs.YtifafmomkpkgdaaDoor
open Go.RowKit

namespace Z
theorem cmpI_swap (x y : Int) : cmpI y x = - cmpI x y := by
  unfold cmpI
  by_cases h1 : x < y
  · rw [if_pos h1, if_neg (by omega), if_neg (by omega)]; rfl
  · by_cases h2 : x = y
    · rw [if_neg h1, if_pos h2, if_neg (by omega), if_pos h2.symm]; rfl
    · rw [if_neg h1, if_neg h2, if_pos (by omega)]
theorem cmpI_add (x y z : Int) : cmpI (x + z) (y + z) = cmpI x y := by
  unfold cmpI
  by_cases h1 : x < y
  · rw [if_pos h1, if_pos (by omega)]
  · by_cases h2 : x = y
    · rw [if_neg h1, if_pos h2, if_neg (by omega), if_pos (by omega)]
    · rw [if_neg h1, if_neg h2, if_neg (by omega), if_neg (by omega)]
theorem cmpI_lt {x y : Int} (h : x < y) : cmpI x y = -1 := by unfold cmpI; rw [if_pos h]
theorem cmpI_eq {x y : Int} (h : x = y) : cmpI x y = 0 := by unfold cmpI; rw [if_neg (by omega), if_pos h]
theorem cmpI_gt {x y : Int} (h : y < x) : cmpI x y = 1 := by unfold cmpI; rw [if_neg (by omega), if_neg (by omega)]
theorem cmpI_mul (x y z : Int) : cmpI (x * z) (y * z) = cmpI x y * cmpI z 0 := by
  rcases Int.lt_trichotomy z 0 with hz | hz | hz
  · rw [cmpI_lt hz]
    rcases Int.lt_trichotomy x y with h | h | h
    · rw [cmpI_lt h, cmpI_gt (Int.mul_lt_mul_of_neg_right h hz)]; rfl
    · subst h; rw [cmpI_eq rfl, cmpI_eq rfl]; rfl
    · rw [cmpI_gt h, cmpI_lt (Int.mul_lt_mul_of_neg_right h hz)]; rfl
  · subst hz
    rw [Int.mul_zero, Int.mul_zero, cmpI_eq rfl, Int.mul_zero]
  · rw [cmpI_gt hz, Int.mul_one]
    rcases Int.lt_trichotomy x y with h | h | h
    · rw [cmpI_lt h, cmpI_lt (Int.mul_lt_mul_of_pos_right h hz)]
    · subst h; rw [cmpI_eq rfl, cmpI_eq rfl]
    · rw [cmpI_gt h, cmpI_gt (Int.mul_lt_mul_of_pos_right h hz)]
theorem cmpI_bd (x y : Int) : -1 ≤ cmpI x y ∧ cmpI x y ≤ 1 := by unfold cmpI; split <;> (first | omega | (split <;> omega))
theorem cmpI_le {x y : Int} (h : cmpI x y ≤ 0) : x ≤ y := by
  rcases Int.lt_or_le y x with h1 | h1
  · rw [cmpI_gt h1] at h; omega
  · exact h1
theorem le_cmpI {x y : Int} (h : x ≤ y) : cmpI x y ≤ 0 := by
  rcases Int.lt_or_eq_of_le h with h1 | h1
  · rw [cmpI_lt h1]; omega
  · rw [cmpI_eq h1]; omega
theorem S_pos (z : Int) : 0 < (S z).size := by
  rw [S_size]
  unfold txt
  split
  · simp
  · exact List.length_pos_iff.2 (decB_ne _)
theorem S_headF (z : Int) : ∀ h : 0 < (S z).size, ((((S z)[0]'h).toNat : Int) == 45) = decide (z < 0) := by
  intro h
  have h1 := neg_of (S z) h
  rw [S_data, isNeg_txt] at h1
  exact h1.symm
theorem ba_ext {a b : ByteArray} (h : a.data.toList = b.data.toList) : a = b := by
  cases a; cases b
  congr
  exact Array.ext' h
theorem S_tail {z : Int} (h : z < 0) : (S z).extract 1 (S z).size = S (-z) := by
  have h1 : isNeg (S z).data.toList = true := by rw [S_data, isNeg_txt]; simpa using h
  apply ba_ext
  rw [← mags_neg h1, S_data, mags_txt, S_data]
  unfold txt
  rw [if_neg (by omega), Int.natAbs_neg]
theorem S_beq {x y : Int} (h : x ≠ y) : ((S x).toList == (S y).toList) = false := by
  rw [beq_eq_false_iff_ne, Lib.toList_data, Lib.toList_data, S_data, S_data]
  exact fun e => h (txt_inj e)
theorem S_ne_zero {x : Int} (h : x ≠ 0) : ((S x).toList == [48]) = false := by
  have := S_beq h
  rw [S_zero, Lib.toList_data ⟨#[48]⟩] at this
  exact this
end Z
theorem gcdC {n m : Nat} {x y g : Int} (hx : Z.Lt n x) (hy : Z.Lt m y) (e : Z.gcdI x y = g) (hn : 0 < n) (hn' : n ≤ 1000) (hm : 0 < m) (hm' : m ≤ 1000) :
    Hid (∀ W : World, Calls Tryd.prog 89 #[.string (Z.S x), .string (Z.S y)] W fun e w' => e = .returned (.tuple #[.string (Z.S g), .int .i64 0]) ∧ Below W.heap.size W w') := by
  subst e
  intro W
  have := gcd_any (Z.S x) (Z.S y) W (hx.len hn hn') (hy.len hm hm')
  have hg := Z.gcdI_le (hx.mono (Nat.le_max_left n m)) (hy.mono (Nat.le_max_right n m))
  have h1 := Z.opS_S (f := Z.gcdI) hx hy hg hn hn' hm hm' (by omega) (by omega)
  unfold GcdRet at this
  rwa [h1.1, (Z.cmpV_S hx hy hn hn' hm hm').2] at this
end Go.Proofs.YtifafmomkpkgdaaDoor
