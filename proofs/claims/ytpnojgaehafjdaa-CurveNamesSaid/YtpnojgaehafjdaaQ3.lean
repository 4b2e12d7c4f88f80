/- Q3: Qr Qs Qt -/
import Derived.Test.YtpnojgaehafjdaaZr
import Derived.Test.YtpnojgaehafjdaaRops
import Derived.Test.YtpnojgaehafjdaaIl
import Derived.Test.YtpnojgaehafjdaaQ1
/- Walks: the reference of rationals: Slash, written. -/

namespace Go.Proofs.Ytpnojgaehafjdaa
open Go.RowKit

namespace Z
def sl (s : ByteArray) : Int := Lib.index s.data.toList [47]
theorem sl_hit {s : ByteArray} {k : Nat} (hk : k < s.size) (h : s[k] = 47) (hn : ∀ j, j < k → ∀ h : j < s.size, s[j] ≠ 47) : sl s = k := by
  unfold sl
  refine Lib.index_first (i := k) (by rw [← Lib.size_eq]; omega) ?_ (fun j hj => ?_)
  · unfold Lib.occAt
    rw [List.drop_eq_getElem_cons (by rw [← Lib.size_eq]; exact hk)]
    have e : s.data.toList[k]'(by rw [← Lib.size_eq]; exact hk) = 47 := h
    rw [e]
    simp [List.isPrefixOf]
  · unfold Lib.occAt
    rw [List.drop_eq_getElem_cons (by rw [← Lib.size_eq]; omega)]
    have e : s.data.toList[j]'(by rw [← Lib.size_eq]; omega) ≠ 47 := hn j hj (by omega)
    simp [List.isPrefixOf]
    exact fun h => e h.symm
theorem sl_none {s : ByteArray} (hn : ∀ j, ∀ h : j < s.size, s[j] ≠ 47) : sl s = -1 := by
  refine indexB_none fun c hc => ?_
  obtain ⟨j, hj, rfl⟩ := List.mem_iff_getElem.1 hc
  exact hn j (by rw [Lib.size_eq]; exact hj)
theorem sl_cases (s : ByteArray) : (sl s = -1 ∧ rF s = false ∧ rN s = s ∧ rD1 s = ⟨#[49]⟩) ∨ (∃ i : Nat, sl s = i ∧ i < s.size ∧ rF s = true ∧ rN s = s.extract 0 i ∧ rD s = s.extract (i + 1) s.size ∧ rD1 s = s.extract (i + 1) s.size) := by
  have hc : cutR s.data.toList = if 0 ≤ sl s then (s.data.toList.take (sl s).toNat, s.data.toList.drop ((sl s).toNat + 1), true) else (s.data.toList, [], false) := rfl
  rcases Lib.index_spec s.data.toList [47] with ⟨h1, _⟩ | ⟨i, h1, h2, h3, _⟩
  · have h1' : sl s = -1 := h1
    rw [h1', if_neg (by omega)] at hc
    have hf : rF s = false := by unfold rF; rw [hc]
    refine .inl ⟨h1', hf, ?_, ?_⟩
    · unfold rN; rw [hc]
    · unfold rD1; rw [hf]; rfl
  · have h1' : sl s = i := h1
    have hlt : i < s.size := by
      have := Lib.index_room s.data.toList [47] (by rw [h1]; omega)
      rw [h1, ← Lib.size_eq] at this
      simp at this
      omega
    rw [h1', if_pos (by omega)] at hc
    simp only [Int.toNat_natCast] at hc
    have hf : rF s = true := by unfold rF; rw [hc]
    have hd : rD s = s.extract (i + 1) s.size := by
      apply ba_of
      unfold rD
      rw [hc, data_ofL, Lib.extract_data]
      exact (List.take_of_length_le (by rw [List.length_drop, ← Lib.size_eq]; exact Nat.le_refl _)).symm
    refine .inr ⟨i, h1', hlt, hf, ?_, hd, ?_⟩
    · apply ba_of
      unfold rN
      rw [hc, data_ofL, Lib.extract_data]
      simp
    · unfold rD1; rw [hf]; exact hd
end Z
def WrRet (s : ByteArray) (w : World) (e : Ending) (w' : World) : Prop := e = .returned (.tuple #[.string (Z.rN s), .string (Z.rD1 s)]) ∧ ∃ n, w' = w.drewN n
end Go.Proofs.Ytpnojgaehafjdaa
/- Walks: the reference of rationals: Check. -/

namespace Go.Proofs.Ytpnojgaehafjdaa
open Go.RowKit

namespace Z
theorem rd_eq (s : ByteArray) : rd s = ival (rD1 s).data.toList := by
  unfold rd rD1
  cases rF s
  · exact (by decide +kernel : (1 : Int) = ival (⟨#[49]⟩ : ByteArray).data.toList)
  · rfl
theorem rbad_eq (s : ByteArray) : rbad s = (!canon (rN s).data.toList || !canon (rD1 s).data.toList || isNeg (rD1 s).data.toList || decide (rd s = 0) || (rF s && decide (rd s = 1))) := by
  unfold rbad
  cases hf : rF s
  · have h1 : rD1 s = ⟨#[49]⟩ := by unfold rD1; rw [hf]; rfl
    have h2 : rd s = 1 := by unfold rd; rw [hf]; rfl
    rw [h1, h2, (by decide +kernel : canon (⟨#[49]⟩ : ByteArray).data.toList = true), (by decide +kernel : isNeg (⟨#[49]⟩ : ByteArray).data.toList = false)]
    simp
  · have h1 : rD1 s = rD s := by unfold rD1; rw [hf]; rfl
    rw [h1]
    simp [Bool.or_assoc]
theorem rbig_eq (s : ByteArray) : rbig s = (!decide (chk (rN s).data.toList = 0) || !decide (chk (rD1 s).data.toList = 0)) := by
  unfold rbig
  cases hf : rF s
  · have h1 : rD1 s = ⟨#[49]⟩ := by unfold rD1; rw [hf]; rfl
    rw [h1, (by decide +kernel : chk (⟨#[49]⟩ : ByteArray).data.toList = 0)]
    simp
  · have h1 : rD1 s = rD s := by unfold rD1; rw [hf]; rfl
    rw [h1]; simp
theorem D1_size (s : ByteArray) (h : s.size ≤ 100000) : (rD1 s).size ≤ 100000 := by
  have := (cut_size s).2
  unfold rD1
  split
  · omega
  · decide
end Z
/-- What Digits answers for a canonical text, by its length. -/
def DgLen (l : List UInt8) (w : World) (e : Ending) (w' : World) : Prop := ∃ A n c, e = .returned (.tuple #[.slice A n c, .bool (Z.isNeg l), .bool true]) ∧ n = (Z.mags l).length ∧ Below w.heap.size w w'
def DgNo (w : World) (e : Ending) (w' : World) : Prop := ∃ v, e = .returned (.tuple #[v, .bool false, .bool false]) ∧ Below w.heap.size w w'
end Go.Proofs.Ytpnojgaehafjdaa
/- Walks: the reference of rationals: Make, Four, Cross, fraction. -/

namespace Go.Proofs.Ytpnojgaehafjdaa
open Go.RowKit
end Go.Proofs.Ytpnojgaehafjdaa
