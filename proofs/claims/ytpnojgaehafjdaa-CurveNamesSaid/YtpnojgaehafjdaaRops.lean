/- Walks: the reference: Add, Sub, Mul, DivMod, Gcd, Compare. -/
import Derived.Test.YtpnojgaehafjdaaR3
import Derived.Test.YtpnojgaehafjdaaI5
namespace Go.Proofs.Ytpnojgaehafjdaa
open Go.RowKit

/-- What Digits answers for an integer without error. -/
def DgOk (w : World) (z : Int) (e : Ending) (w' : World) : Prop := ∃ A c ds, e = .returned (.tuple #[.slice A (List.length ds) c, .bool (decide (z < 0)), .bool true]) ∧ Ow .i64 3 w' w.heap.size (.slice A ds.length c) ds ∧
  (∀ d ∈ ds, d < 10) ∧ ds.length ≤ 1000 ∧ Z.ofDg 10 ds = z.natAbs ∧ Below w.heap.size w w'
theorem sum_sgn {x y : Int} : (decide (x < 0) = decide (y < 0) → sgn (decide (x < 0)) (x.natAbs + y.natAbs) = x + y) ∧
    (decide (x < 0) ≠ decide (y < 0) → y.natAbs ≤ x.natAbs → sgn (decide (x < 0)) (x.natAbs - y.natAbs) = x + y) ∧
    (decide (x < 0) ≠ decide (y < 0) → x.natAbs < y.natAbs → sgn (decide (y < 0)) (y.natAbs - x.natAbs) = x + y) := by
  unfold sgn
  by_cases hx : x < 0 <;> by_cases hy : y < 0 <;> simp [hx, hy] <;> omega

theorem neg_parts {b : ByteArray} (h : Z.chk b.data.toList = 0) : Z.chk (Z.txt (-Z.ival b.data.toList)) = 0 ∧ (Z.txt (-Z.ival b.data.toList)).length ≤ 1001 := by
  obtain ⟨hc, hl⟩ := Z.chk_zero_iff.1 h
  have h1 : Z.chk (Z.txt (-Z.ival b.data.toList)) = 0 := Z.chk_txt (by rw [Int.natAbs_neg, Z.decB_ival hc]; exact hl)
  exact ⟨h1, Z.chk_size h1⟩
/-- The loop's state: the digits of two numbers with the greatest common divisor G. -/
def RGSt (w : World) (G k : Nat) (xv yv : Value) (wr : World) : Prop := ∃ xs ys : List Nat, SN .i64 wr xv xs ∧ SN .i64 wr yv ys ∧ (∀ d ∈ xs, d < 10) ∧ (∀ d ∈ ys, d < 10) ∧ xs.length ≤ 1001 ∧ ys.length ≤ 1001 ∧
  (Z.dg 10 k).length ≤ 1000 ∧ Z.ofDg 10 ys = k ∧ Nat.gcd (Z.ofDg 10 xs) k = G ∧ Below w.heap.size w wr
end Go.Proofs.Ytpnojgaehafjdaa
