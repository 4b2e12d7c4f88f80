/- Plain: from groups of nine digits to decimal digits. -/
import Derived.Test.YthafdckomhdlbaaZdec
import Derived.Test.YthafdckomhdlbaaZcmp
import Derived.Test.YthafdckomhdlbaaZmul
namespace Go.Proofs.Ythafdckomhdlbaa
namespace Z
/-- So many digits so far; the rest of the group. -/
structure WIn (d j g : Nat) (ys : List Nat) : Prop where
  len : ys.length = j
  lt : ∀ y ∈ ys, y < 10
  val : ofDg 10 ys + 10 ^ j * g = d
theorem WIn.start (d : Nat) : WIn d 0 d [] := ⟨rfl, by simp, by simp [ofDg]⟩
theorem WIn.step {d j g : Nat} {ys : List Nat} (h : WIn d j g ys) : WIn d (j + 1) (g / 10) (ys ++ [g % 10]) := by
  refine ⟨by simp [h.len], fun y hy => ?_, ?_⟩
  · rcases List.mem_append.1 hy with hy | hy
    · exact h.lt y hy
    · simp at hy; omega
  · rw [ofDg_snoc, h.len, ← h.val, Nat.pow_succ, Nat.mul_assoc, Nat.add_assoc, ← Nat.mul_add]
    congr 2
    omega
structure WOut (ds : List Nat) (i : Nat) (xs : List Nat) : Prop where
  len : xs.length = 9 * i
  lt : ∀ x ∈ xs, x < 10
  val : ofDg 10 xs = ofDg 1000000000 (ds.take i)
theorem WOut.start (ds : List Nat) : WOut ds 0 [] := ⟨rfl, by simp, by simp [ofDg]⟩
theorem WOut.step {ds : List Nat} {i d g : Nat} {xs ys : List Nat} (h : WOut ds i xs) (hd : dAt ds i = d) (hd9 : d < 1000000000) (k : WIn d 9 g ys) : WOut ds (i + 1) (xs ++ ys) := by
  have hk := k.val
  have e9 : (10 : Nat) ^ 9 = 1000000000 := by decide
  have hg : g = 0 := by
    rw [e9] at hk; omega
  subst hg
  refine ⟨by rw [List.length_append, h.len, k.len]; omega, fun y hy => ?_, ?_⟩
  · rcases List.mem_append.1 hy with hy | hy
    · exact h.lt y hy
    · exact k.lt y hy
  · rw [ofDg_append, h.len, h.val, ofDg_take, hd]
    have : ofDg 10 ys = d := by omega
    rw [this]
    have e : (10 : Nat) ^ (9 * i) = 1000000000 ^ i := by rw [Nat.pow_mul, e9]
    rw [e]
theorem trim_step {xs : List Nat} {k n : Nat} (h : ofDg 10 (xs.take (k + 1)) = n) (h0 : dAt xs k = 0) : ofDg 10 (xs.take k) = n := by
  rw [ofDg_take, h0, Nat.mul_zero, Nat.add_zero] at h; exact h
theorem trim_fin {xs : List Nat} {k n : Nat} (hlt : ∀ x ∈ xs, x < 10) (hk : k + 1 ≤ xs.length) (h : ofDg 10 (xs.take (k + 1)) = n) (h0 : dAt xs k ≠ 0) : xs.take (k + 1) = dg 10 n := by
  rw [← h]
  refine (dg_ofDg 10 (by omega) _ ⟨fun d hd => hlt d (List.mem_of_mem_take hd), ?_⟩).symm
  rw [List.getLast?_eq_getElem?, List.length_take, Nat.min_eq_left hk, List.getElem?_take_of_lt (by omega)]
  intro e
  have : k + 1 - 1 = k := by omega
  rw [this] at e
  exact h0 (dAt_some e)
theorem decB_len (n : Nat) (h : 0 < n) : (decB n).length = (dg 10 n).length := by rw [decB_pos h]; simp
/-- What an operation answers: the canonical integer of a number, or the error of too many digits. -/
def resS (z : Int) : ByteArray := if 1000 < (decB z.natAbs).length then ⟨#[]⟩ else ⟨(txt z).toArray⟩
def resE (z : Int) : Int := if 1000 < (decB z.natAbs).length then 14 else 0
end Z
end Go.Proofs.Ythafdckomhdlbaa
