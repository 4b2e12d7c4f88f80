/- Two flows compared. -/
import Derived.Test.YtdjghmpaopfboaaClmem
import Derived.WalkKit
namespace Go.Proofs.Ytdjghmpaopfboaa
open Go.RowKit
/-- Two flows are the same. -/
def Z.same (x y : Z.Fl) : Bool := decide (x = y)
theorem equal_flow (d d' : Int) (f t c a f' t' c' a' : ByteArray) (w : World) :
    (Op.equalIn 10000 36 (.agg #[.int .i64 d, .string f, .string t, .string c, .string a]) (.agg #[.int .i64 d', .string f', .string t', .string c', .string a'])).run Try.prog w = .ok (decide (Z.Fl.mk d f t c a = Z.Fl.mk d' f' t' c' a')) w := by
  have e : decide (Z.Fl.mk d f t c a = Z.Fl.mk d' f' t' c' a') = (d == d' && (f.toList == f'.toList && (t.toList == t'.toList && (c.toList == c'.toList && a.toList == a'.toList)))) := by
    rw [Z.eqB, Z.eqB, Z.eqB, Z.eqB, Bool.eq_iff_iff]
    simp
  rw [e]
  simp [go_sem]
  by_cases h1 : d = d'
  · by_cases h2 : f.toList = f'.toList
    · by_cases h3 : t.toList = t'.toList
      · by_cases h4 : c.toList = c'.toList
        · by_cases h5 : a.toList = a'.toList
          · simp [h1, h2, h3, h4, h5]
          · simp [h1, h2, h3, h4, h5]
        · simp [h1, h2, h3, h4]
      · simp [h1, h2, h3]
    · simp [h1, h2]
  · simp [h1]
theorem neq_flow (d d' : Int) (f t c a f' t' c' a' : ByteArray) (w : World) :
    (binOp .neq 36 (.agg #[.int .i64 d, .string f, .string t, .string c, .string a]) (.agg #[.int .i64 d', .string f', .string t', .string c', .string a'])).run Try.prog w = .ok (.bool (!Z.same (Z.Fl.mk d f t c a) (Z.Fl.mk d' f' t' c' a'))) w := by
  rw [run_neq_struct, equal_flow]
  rfl
theorem eql_flow (d d' : Int) (f t c a f' t' c' a' : ByteArray) (w : World) :
    (binOp .eql 36 (.agg #[.int .i64 d, .string f, .string t, .string c, .string a]) (.agg #[.int .i64 d', .string f', .string t', .string c', .string a'])).run Try.prog w = .ok (.bool (Z.same (Z.Fl.mk d f t c a) (Z.Fl.mk d' f' t' c' a'))) w := by
  rw [run_eql_struct, equal_flow]
  rfl
end Go.Proofs.Ytdjghmpaopfboaa
