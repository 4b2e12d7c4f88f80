/- R2: Rsm Rgreat -/
import Derived.Test.YtifafmomkpkgdaaDoorR1
import Derived.Test.YtifafmomkpkgdaaDoorI1
/- Walks: the reference: Plus, small, Negative, Of. -/

namespace Go.Proofs.YtifafmomkpkgdaaDoor
open Go.RowKit

/-- Digits of a number in a new slice. -/
def NumRet (w : World) (n len : Nat) (e : Ending) (w' : World) : Prop := ∃ v os, e = .returned v ∧ Ow .i64 3 w' w.heap.size v os ∧ (∀ d ∈ os, d < 10) ∧ Z.ofDg 10 os = n ∧ os.length ≤ len ∧ Below w.heap.size w w'

theorem Z.neg_txt {l : List UInt8} (_h : Z.canon l = true) : Z.txtD (!Z.isNeg l) (Z.ofDg 10 (Z.rdg (Z.mags l))) = Z.txt (-Z.ival l) := by
  rw [Z.txtD_txt, ← Z.natOf_rdg]
  unfold Z.ival
  cases Z.isNeg l <;> simp

theorem data_mk (l : List UInt8) : (⟨l.toArray⟩ : ByteArray).data.toList = l := by simp
theorem size_mk (l : List UInt8) : (⟨l.toArray⟩ : ByteArray).size = l.length := by rw [Lib.size_eq, data_mk]
theorem Z.decB_length (n k : Nat) (h : n < 10 ^ k) : (Z.decB n).length ≤ k + 1 := by
  unfold Z.decB
  split
  · simp
  · rw [List.length_map, List.length_reverse]
    have := Z.dg_len_of_lt 10 (by omega) n k h
    omega
theorem Z.txt_length (z : Int) (k : Nat) (h : z.natAbs < 10 ^ k) : (Z.txt z).length ≤ k + 2 := by
  have := Z.decB_length z.natAbs k h
  unfold Z.txt
  split
  · simp; omega
  · omega
theorem sn_int_one (w : World) (d : Nat) (y : Int) (h : y = (d : Int)) (e : TypeId) : SN .i64 (w.alloc (.cells #[.int .i64 y] e)) (.slice (some ⟨w.heap.size, 0, none⟩) 1 1) [d] := by
  subst h
  refine ⟨_, 1, rfl, Nat.le_refl _, by simp [maxLen], fun _ => ⟨w.heap.size, 0, rfl, by simp, fun i x hi => ?_⟩⟩
  have hlt := (List.getElem?_eq_some_iff.1 hi).1
  simp at hlt
  subst hlt
  simp at hi
  subst hi
  simp

end Go.Proofs.YtifafmomkpkgdaaDoor
/- Walks: the reference: Great, over a slice of strings. -/

namespace Go.Proofs.YtifafmomkpkgdaaDoor
open Go.RowKit

/-- The slice value v reads as these strings. -/
def SS (w : World) (v : Value) (ss : List ByteArray) : Prop :=
  ∃ (A : Option Addr) (c : Nat), v = .slice A ss.length c ∧ ss.length ≤ c ∧ c ≤ maxLen ∧
    (0 < ss.length → ∃ b o, A = some ⟨b, o, none⟩ ∧ b < w.heap.size ∧ ∀ (i : Nat) (s : ByteArray), ss[i]? = some s → w.cell? ⟨b, o + i, none⟩ = some (.string s))
theorem SS.below {w w' : World} {v : Value} {ss : List ByteArray} (h : SS w v ss) (hb : Below w.heap.size w w') : SS w' v ss := by
  obtain ⟨A, c, hv, h1, h2, h3⟩ := h
  refine ⟨A, c, hv, h1, h2, fun hp => ?_⟩
  obtain ⟨b, o, hA, hlt, hc⟩ := h3 hp
  exact ⟨b, o, hA, Nat.lt_of_lt_of_le hlt hb.size, fun i d hd => (hb.cell (p := ⟨b, o + i, none⟩) hlt).trans (hc i d hd)⟩
theorem ss_new (w : World) (ss : List ByteArray) (e : TypeId) (hl : ss.length ≤ 1000) : SS (w.alloc (.cells (ss.map Value.string).toArray e)) (.slice (some ⟨w.heap.size, 0, none⟩) ss.length ss.length) ss :=
  ⟨_, _, rfl, Nat.le_refl _, by unfold maxLen; omega, fun _ => ⟨w.heap.size, 0, rfl, by simp, fun i s hi => by
    rw [Nat.zero_add]
    rw [cell_of_row _ w.heap.size i _ e (0, 0) (heap_alloc_new w _)]
    simp [hi]⟩⟩

end Go.Proofs.YtifafmomkpkgdaaDoor
