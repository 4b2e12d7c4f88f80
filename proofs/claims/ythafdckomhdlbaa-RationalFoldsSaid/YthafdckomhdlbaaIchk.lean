/- Walks: integer.Check. -/
import Derived.Test.YthafdckomhdlbaaProg
import Derived.Test.YthafdckomhdlbaaZtxt
import Derived.Test.YthafdckomhdlbaaMem
import Derived.WalkKit
import Derived.WalkSpells
import Derived.WalkLawsBesides
import Derived.Deep.DeepCutAuto
import Derived.Deep.QuietTactic
import Derived.BigQuiet
import Derived.Lib.Strings
import Derived.Lib.Hide
namespace Go.Proofs.Ythafdckomhdlbaa
open Go.RowKit

namespace Z
theorem head_of (s : ByteArray) (h : 0 < s.size) : s.data.toList.head? = some s[0] := by
  rw [List.head?_eq_getElem?]
  simp only [Array.getElem?_toList]
  rw [Array.getElem?_eq_getElem (by simpa using h)]
  rfl
theorem at_of (s : ByteArray) (k : Nat) (h : k < s.size) : s.data.toList[k]? = some s[k] := by
  simp only [Array.getElem?_toList]
  rw [Array.getElem?_eq_getElem (by simpa using h)]
  rfl
theorem neg_of (s : ByteArray) (h : 0 < s.size) : isNeg s.data.toList = ((s[0].toNat : Int) == 45) := by
  unfold isNeg
  rw [head_of s h, Bool.eq_iff_iff]
  simp [← UInt8.toNat_inj]
  omega
theorem mags_neg {s : ByteArray} (h : isNeg s.data.toList = true) : mags s.data.toList = (s.extract 1 s.size).data.toList := by
  unfold mags
  rw [if_pos h, Lib.extract_data]
  rw [List.take_of_length_le (by rw [List.length_drop, ← Lib.size_eq]; omega), List.drop_one]
theorem mags_pos {s : ByteArray} (h : isNeg s.data.toList = false) : mags s.data.toList = s.data.toList := by
  unfold mags
  rw [if_neg (by simp [h])]
theorem empty_of {t : ByteArray} (h : ¬ 0 < t.size) : t.data.toList = [] := by
  apply List.eq_nil_of_length_eq_zero
  rw [← Lib.size_eq]; omega
theorem dig_of (c : UInt8) : isDig c = (!decide ((c.toNat : Int) < 48) && !decide ((57 : Int) < (c.toNat : Int))) := by
  unfold isDig
  rw [Bool.eq_iff_iff]; simp; omega
end Z

theorem nonempty_of {t : ByteArray} (h : 0 < t.size) : t.toList.isEmpty = false := by
  rw [Lib.toList_data]
  cases e : t.data.toList with
  | nil => rw [Lib.size_eq, e] at h; simp at h
  | cons => rfl
theorem isempty_of {t : ByteArray} (h : ¬ 0 < t.size) : t.toList.isEmpty = true := by
  rw [Lib.toList_data, Z.empty_of h]; rfl
def lead (t : ByteArray) (h : 0 < t.size) : Bool := ((t[0].toNat : Int) == 48) && decide (1 < (t.size : Int))
def ChkTail (s t : ByteArray) : Prop := Z.mags s.data.toList = t.data.toList ∧ (Z.isNeg s.data.toList = true → t.data.toList.head? = some 48 → 1 < t.size)

namespace Z
theorem minus_zero_of {s : ByteArray} (h0 : 0 < s.size) (hn : ((s[0].toNat : Int) == 45) = true) (h : ((s.extract 1 s.size).toList == [48]) = true) : chk s.data.toList = 12 := by
  have hn' : isNeg s.data.toList = true := by rw [neg_of s h0, hn]
  refine chk_minus_zero hn' ?_
  rw [mags_neg hn', ← Lib.toList_data, eq_of_beq h]
  rfl
theorem tail_neg {s : ByteArray} (h0 : 0 < s.size) (hn : ((s[0].toNat : Int) == 45) = true) (h : ((s.extract 1 s.size).toList == [48]) = false) : ChkTail s (s.extract 1 s.size) := by
  have hn' : isNeg s.data.toList = true := by rw [neg_of s h0, hn]
  refine ⟨mags_neg hn', fun _ hh => ?_⟩
  rcases Nat.lt_or_ge 1 (s.extract 1 s.size).size with h1 | h1
  · exact h1
  · exfalso
    rw [Lib.toList_data] at h
    have hl : (s.extract 1 s.size).data.toList.length ≤ 1 := by rw [← Lib.size_eq]; exact h1
    cases e : (s.extract 1 s.size).data.toList with
    | nil => rw [e] at hh; simp at hh
    | cons c r =>
      rw [e] at hh hl h
      have : r = [] := List.eq_nil_of_length_eq_zero (by simpa using hl)
      subst this
      simp at hh
      subst hh
      simp at h
theorem tail_pos {s : ByteArray} (h0 : 0 < s.size) (hn : ((s[0].toNat : Int) == 45) = false) : ChkTail s s := by
  have hn' : isNeg s.data.toList = false := by rw [neg_of s h0, hn]
  exact ⟨mags_pos hn', fun h => by rw [hn'] at h; cases h⟩
theorem lead_yes {s t : ByteArray} (hT : ChkTail s t) (ht : 0 < t.size) (h : lead t ht = true) : chk s.data.toList = 12 := by
  unfold lead at h
  simp at h
  refine chk_lead ?_ ?_
  · rw [hT.1, head_of t ht]
    congr 1
    apply UInt8.toNat_inj.1
    show t[0].toNat = 48
    omega
  · rw [hT.1, ← Lib.size_eq]; have := h.2; omega
theorem bad_of {s t : ByteArray} (hT : ChkTail s t) {k : Nat} (hk : k < t.size) (h : (t[k].toNat : Int) < 48 ∨ (57 : Int) < t[k].toNat) : chk s.data.toList = 12 := by
  refine chk_bad (k := k) (c := t[k]) (by rw [hT.1, at_of t k hk]) ?_
  unfold isDig
  rw [Bool.and_eq_false_iff]
  simp
  omega
theorem canon_of {s t : ByteArray} (hT : ChkTail s t) (ht : 0 < t.size) (hl : lead t ht = false) (hd : ∀ j, j < t.size → ∀ (h : j < t.size), isDig t[j] = true) : canon s.data.toList = true := by
  refine canon_mk ?_ ?_ ?_
  · rw [hT.1]
    intro e
    rw [Lib.size_eq, e] at ht; simp at ht
  · rw [hT.1]
    refine all_of fun k c hk => ?_
    have hlt : k < t.size := by
      rw [Lib.size_eq]; exact (List.getElem?_eq_some_iff.1 hk).1
    rw [at_of t k hlt] at hk
    injection hk with hk
    rw [← hk]; exact hd k hlt hlt
  · rw [hT.1]
    intro hh
    have h1 : ¬ 1 < t.size := by
      intro h1
      unfold lead at hl
      rw [head_of t ht] at hh
      injection hh with hh
      rw [hh] at hl
      simp at hl
      omega
    refine ⟨by rw [← Lib.size_eq]; omega, ?_⟩
    cases hn : isNeg s.data.toList
    · rfl
    · exact absurd (hT.2 hn hh) h1
end Z

set_option maxHeartbeats 400000 in
theorem check_any (s : ByteArray) (w : World) (hs : s.size ≤ maxLen) :
    Calls Try.prog 56 #[.string s] w fun e w' => e = .returned (.int .i64 (Z.chk s.data.toList)) ∧ w = w' := by
  unfold maxLen at hs
  by_cases h0 : 0 < s.size
  · go_enter Try.func56, Try.ntmps56
    go_upto_if 13 with fail
    go_cut [3] (fun v wx => ∃ t : ByteArray, v = .string t ∧ t.size ≤ s.size ∧ ChkTail s t ∧ w = wx)
    case first =>
      go_wp2_with fail
      · go_ret
        exact ⟨ret_int (Z.minus_zero_of h0 (by assumption) (by assumption)).symm, rfl⟩
      · go_meet
        exact ⟨_, rfl, by simp, Z.tail_neg h0 (by assumption) (by assumption), rfl⟩
      · go_meet
        exact ⟨_, rfl, by omega, Z.tail_pos h0 (by assumption), rfl⟩
    case rest =>
      obtain ⟨t, rfl, htl, hT, rfl⟩ := hcut
      by_cases ht : 0 < t.size
      · have hte := nonempty_of ht
        go_upto_region 6 with fail
        go_cut [29] (fun v wx => v = .bool (lead t ht) ∧ w = wx)
        case first =>
          go_wp2_with fail
          · go_meet
            exact ⟨by simp [lead, *], rfl⟩
          · go_meet
            exact ⟨by simp [lead, *], rfl⟩
        case rest =>
          obtain ⟨rfl, rfl⟩ := hcut
          cases hl : lead t ht
          · have HL := Lib.hid hl
            clear hl
            go_wp2_with fail
            go_loop [32] (fun i => ∃ k : Nat, k ≤ t.size ∧ i = .int .i64 k ∧ ∀ j, j < k → ∀ (h : j < t.size), Z.isDig t[j] = true) (fun i => t.size - (intOf i).toNat)
            case atStart => exact ⟨0, by omega, rfl, by omega⟩
            case round =>
              obtain ⟨k, hk, rfl, hd⟩ := hrel
              have HD := Lib.hid hd
              clear hd
              by_cases hlt : k < t.size
              · go_wp2_with fail
                · go_ret
                  exact ⟨ret_int (Z.bad_of hT hlt (by assumption)).symm, rfl⟩
                · go_round
                  case rel =>
                    have h1 : (48 : Int) ≤ t[k].toNat ∧ (t[k].toNat : Int) ≤ 57 := by assumption
                    refine ⟨k + 1, by omega, by go_num, fun j hj h => ?_⟩
                    by_cases e : j = k
                    · subst e
                      simp [Z.isDig]; omega
                    · exact HD.out j (by omega) h
                  case measure => simp [intOf]; omega
                · go_ret
                  exact ⟨ret_int (Z.bad_of hT hlt (.inl (by assumption))).symm, rfl⟩
              · obtain rfl : k = t.size := by omega
                go_wp2_with fail
                · go_ret
                  have h1 : (1000 : Int) < t.size := by assumption
                  exact ⟨ret_int (Z.chk_big (Z.canon_of hT ht HL.out HD.out) (by rw [hT.1, ← Lib.size_eq]; omega)).symm, rfl⟩
                · go_ret
                  have h1 : (t.size : Int) ≤ 1000 := by assumption
                  exact ⟨ret_int (Z.chk_ok (Z.canon_of hT ht HL.out HD.out) (by rw [hT.1, ← Lib.size_eq]; omega)).symm, rfl⟩
          · go_wp2_with fail
            go_ret
            exact ⟨ret_int (Z.lead_yes hT ht hl).symm, rfl⟩
      · have hte := isempty_of ht
        go_wp2_with fail
        go_ret
        exact ⟨ret_int (Z.chk_empty (by rw [hT.1, Z.empty_of ht])).symm, rfl⟩
  · have hte := isempty_of h0
    go_enter Try.func56, Try.ntmps56
    go_wp2_with fail
    go_ret
    exact ⟨ret_int (Z.chk_empty (by rw [Z.empty_of h0]; rfl)).symm, rfl⟩
end Go.Proofs.Ythafdckomhdlbaa
