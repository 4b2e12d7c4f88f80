/- Walks: rational.Mul, Add, Sub. -/
import Derived.Test.YthafdckomhdlbaaQd
namespace Go.Proofs.Ythafdckomhdlbaa
open Go.RowKit

namespace Z
def fitL (l : List Int) : Bool := l.all fun z => decide (resE z = 0)
/-- The error of an operation on two rationals, which needs these integers. -/
def ropE (l : List Int) (a b : ByteArray) : Int := if rbothE a b = 0 then if fitL l then 0 else 14 else rbothE a b
def ropS (l : List Int) (v : Rat) (a b : ByteArray) : ByteArray := if ropE l a b = 0 then Q v else ⟨#[]⟩
theorem rbothE_ok {a b : ByteArray} (h : rbothE a b = 0) : ROk a ∧ ROk b := by
  unfold rbothE at h
  by_cases h1 : rchk a = 0
  · rw [if_pos h1] at h; exact ⟨rok h1, rok h⟩
  · rw [if_neg h1] at h; exact absurd h h1
theorem ROk.chks {s : ByteArray} (h : ROk s) : chk (S (rn s)).data.toList = 0 ∧ chk (S (rd s)).data.toList = 0 ∧ rN s = S (rn s) ∧ rD1 s = S (rd s) := by
  have h1 := h.n
  have h2 := h.d
  rw [h.num.1] at h1
  rw [h.num.2] at h2
  exact ⟨by rw [← h1]; exact h.kn, by rw [← h2]; exact h.kd, h1, h2⟩
theorem opS_ints {f : Int → Int → Int} {x y : Int} (hx : chk (S x).data.toList = 0) (hy : chk (S y).data.toList = 0) : opS f (S x) (S y) = resS (f x y) ∧ opE f (S x) (S y) = resE (f x y) := by
  have hb := bothE_ok hx hy
  unfold opS opE
  rw [if_pos hb, if_pos hb, ival_S, ival_S]
  exact ⟨rfl, rfl⟩
theorem res_fit {z : Int} (h : resE z = 0) : resS z = S z ∧ chk (S z).data.toList = 0 := by
  obtain ⟨h1, h2⟩ := resS_ok h
  exact ⟨h1, by rw [S_data]; exact chk_txt h2⟩
theorem res_14 {z : Int} (h : resE z ≠ 0) : resE z = 14 := (resE_cases z).resolve_left h
theorem chk_max {x : Int} (h : chk (S x).data.toList = 0) : (S x).size ≤ maxLen := by
  have := chk_size h
  rw [← Lib.size_eq] at this
  unfold maxLen; omega
theorem make_S {x y : Int} (hx : chk (S x).data.toList = 0) (hy : chk (S y).data.toList = 0) (h0 : y ≠ 0) : makeE (S x) (S y) = 0 ∧ makeS (S x) (S y) = Q (Rat.divInt x y) := by
  have he : makeE (S x) (S y) = 0 := by
    unfold makeE
    rw [if_pos (bothE_ok hx hy), if_neg (by rw [ival_S]; exact h0)]
  unfold makeS
  rw [if_pos he, ival_S, ival_S]
  exact ⟨he, rfl⟩
end Z
def RopRet (l : List Int) (v : Rat) (a b : ByteArray) (w : World) (e : Ending) (w' : World) : Prop := e = .returned (.tuple #[.string (Z.ropS l v a b), .int .i64 (Z.ropE l a b)]) ∧ Below w.heap.size w w'
theorem rop_bad {l : List Int} {v : Rat} {a b : ByteArray} {w w' : World} (h : Z.rbothE a b ≠ 0) (hb : Below w.heap.size w w') : RopRet l v a b w (.returned (.tuple #[.string ⟨#[]⟩, .int .i64 (Z.rbothE a b)])) w' := by
  unfold RopRet Z.ropS Z.ropE
  rw [if_neg h, if_neg h]; exact ⟨rfl, hb⟩
theorem rop_big {l : List Int} {v : Rat} {a b : ByteArray} {w w' : World} (h : Z.rbothE a b = 0) (hf : Z.fitL l = false) (hb : Below w.heap.size w w') : RopRet l v a b w (.returned (.tuple #[.string ⟨#[]⟩, .int .i64 14])) w' := by
  unfold RopRet Z.ropS Z.ropE
  rw [if_pos h, hf]; exact ⟨rfl, hb⟩
theorem rop_ok {l : List Int} {v : Rat} {a b : ByteArray} {w w' : World} (h : Z.rbothE a b = 0) (hf : Z.fitL l = true) (hb : Below w.heap.size w w') : RopRet l v a b w (.returned (.tuple #[.string (Z.Q v), .int .i64 0])) w' := by
  unfold RopRet Z.ropS Z.ropE
  rw [if_pos h, hf]; exact ⟨rfl, hb⟩
end Go.Proofs.Ythafdckomhdlbaa
