/- Walks: the statements' helpers: op, fits, alive. -/
import Derived.Test.YthafdckomhdlbaaZlaw
import Derived.Test.YthafdckomhdlbaaRops
import Derived.Test.YthafdckomhdlbaaRgreat
namespace Go.Proofs.Ythafdckomhdlbaa
open Go.RowKit

def OpStr (r : ByteArray) (w : World) (e : Ending) (w' : World) : Prop := e = .returned (.string r) ∧ Below w.heap.size w w'
theorem opS_err {f : Int → Int → Int} {a b : ByteArray} (h : Z.opE f a b ≠ 0) : Z.opS f a b = ⟨#[]⟩ := by
  unfold Z.opE at h
  unfold Z.opS
  by_cases hb : Z.bothE a b = 0
  · rw [if_pos hb] at h ⊢
    exact Z.resS_bad h
  · rw [if_neg hb]
/-- What fits answers. -/
def fitsB (n : Nat) (ss : List ByteArray) : Bool := ss.all fun s => decide (s.size ≤ n) && decide (Z.chk s.data.toList = 0)
def FitsRet (n : Nat) (ss : List ByteArray) (w : World) (e : Ending) (w' : World) : Prop := e = .returned (.bool (fitsB n ss)) ∧ Below w.heap.size w w'
theorem fits_no {n : Nat} {ss : List ByteArray} {s : ByteArray} (hs : s ∈ ss) (h : n < s.size ∨ Z.chk s.data.toList ≠ 0) : fitsB n ss = false := by
  unfold fitsB
  rw [List.all_eq_false]
  exact ⟨s, hs, by simp; omega⟩
theorem fits_yes {n : Nat} {ss : List ByteArray} (h : ∀ s ∈ ss, s.size ≤ n ∧ Z.chk s.data.toList = 0) : fitsB n ss = true := by
  unfold fitsB
  rw [List.all_eq_true]
  intro s hs
  simp [(h s hs).1, (h s hs).2]
/-- A string that fits is an integer's text. -/
theorem fits_get {n : Nat} {ss : List ByteArray} {s : ByteArray} (h : fitsB n ss = true) (hs : s ∈ ss) : ∃ x, s = Z.S x ∧ Z.Lt n x := by
  unfold fitsB at h
  rw [List.all_eq_true] at h
  have := h s hs
  simp only [Bool.and_eq_true, decide_eq_true_eq] at this
  have hc := (Z.chk_zero_iff.1 this.2).1
  exact ⟨_, (Z.S_of hc).symm, Z.lt_of_size hc this.1⟩
theorem Z.Lt.len {n : Nat} {x : Int} (h : Z.Lt n x) (hn : 0 < n) (hn' : n ≤ 1000) : (Z.S x).size ≤ maxLen := by
  have h1 := Z.chk_size (h.chk hn hn')
  rw [← Lib.size_eq] at h1
  unfold maxLen
  omega
end Go.Proofs.Ythafdckomhdlbaa
