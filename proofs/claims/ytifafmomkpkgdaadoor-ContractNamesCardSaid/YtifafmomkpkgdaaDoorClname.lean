/- Names: what a name is; the plain walks of observable.Name and of the reference's Name. -/
import Derived.Test.YtifafmomkpkgdaaDoorProg
import Derived.Test.YtifafmomkpkgdaaDoorMi
import Derived.WalkKit
import Derived.WalkSpells
import Derived.WalkLawsBesides
import Derived.Deep.DeepCutAuto
import Derived.Deep.QuietTactic
import Derived.BigQuiet
import Derived.Lib.Strings
import Derived.Lib.Hide
namespace Go.Proofs.YtifafmomkpkgdaaDoor
open Go.RowKit

namespace Z
theorem at_ofn (s : ByteArray) (k : Nat) (h : k < s.size) : s.data.toList[k]? = some s[k] := by
  simp only [Array.getElem?_toList]
  rw [Array.getElem?_eq_getElem (by simpa using h)]
  rfl
def letC (c : Int) : Bool := (decide (97 ≤ c) && decide (c ≤ 122)) || (decide (65 ≤ c) && decide (c ≤ 90))
def nmI (c : Int) : Bool := letC c || (decide (48 ≤ c) && decide (c ≤ 57)) || decide (c = 95) || decide (c = 45)
def letH (s : ByteArray) : Bool := match s.data.toList with | [] => false | c :: _ => letC c.toNat
/-- A name: a letter, then letters, digits, '_' and '-'; at most 40 bytes. -/
def nameB (s : ByteArray) : Bool := letH s && decide (s.size ≤ 40) && s.data.toList.all fun c => nmI c.toNat
theorem letH_at (s : ByteArray) (h : 0 < s.size) : letH s = letC s[0].toNat := by
  have := at_ofn s 0 h
  unfold letH
  cases e : s.data.toList with
  | nil => rw [e] at this; cases this
  | cons c r => rw [e] at this; injection this with this; rw [this]
theorem name_short {s : ByteArray} (h : ¬ 0 < s.size) : nameB s = false := by
  have : letH s = false := by
    unfold letH
    cases e : s.data.toList with
    | nil => rfl
    | cons c r => exact absurd (by rw [Lib.size_eq, e]; simp) h
  unfold nameB; rw [this]; rfl
theorem name_long {s : ByteArray} (h : ¬ s.size ≤ 40) : nameB s = false := by
  unfold nameB; rw [decide_eq_false h]; simp
theorem name_head {s : ByteArray} (h0 : 0 < s.size) (h : letC s[0].toNat = false) : nameB s = false := by
  unfold nameB; rw [letH_at s h0, h]; rfl
theorem name_bad {s : ByteArray} {k : Nat} (hk : k < s.size) (h : nmI s[k].toNat = false) : nameB s = false := by
  have : (s.data.toList.all fun c => nmI c.toNat) = false := by
    rw [List.all_eq_false]
    exact ⟨s[k], List.mem_of_getElem? (at_ofn s k hk), by rw [h]; decide⟩
  unfold nameB; rw [this]; simp
theorem name_yes {s : ByteArray} (h0 : 0 < s.size) (h : letC s[0].toNat = true) (h40 : s.size ≤ 40) (ha : ∀ j, j < s.size → ∀ (h : j < s.size), nmI s[j].toNat = true) : nameB s = true := by
  have : (s.data.toList.all fun c => nmI c.toNat) = true := by
    rw [List.all_eq_true]
    intro c hc
    obtain ⟨j, hj⟩ := List.getElem?_of_mem hc
    have hlt : j < s.size := by rw [Lib.size_eq]; exact (List.getElem?_eq_some_iff.1 hj).1
    rw [at_ofn s j hlt] at hj
    injection hj with hj
    rw [← hj]; exact ha j hlt hlt
  unfold nameB; rw [letH_at s h0, h, decide_eq_true h40, this]; rfl
end Z

theorem letter_any (n : Int) (w : World) :
    Calls Tryd.prog 45 #[.int .u8 n] w fun e w' => e = .returned (.bool (Z.letC n)) ∧ w = w' := by
  go_enter Tryd.func45, Tryd.ntmps45
  go_wp2_with fail
  all_goals (go_ret; refine ⟨ret_bool ?_, rfl⟩; rw [Bool.eq_iff_iff]; simp [Z.letC]; try omega)

theorem name_any (s : ByteArray) (w : World) (hs : s.size ≤ maxLen) :
    Calls Tryd.prog 15 #[.string s] w fun e w' => e = .returned (.bool (Z.nameB s)) ∧ w = w' := by
  unfold maxLen at hs
  by_cases h0 : 0 < s.size
  · by_cases h40 : s.size ≤ 40
    · go_enter Tryd.func15, Tryd.ntmps15
      go_wp2_with fail
      refine (letter_any _ _).mono ?_
      rintro e w2 ⟨rfl, rfl⟩
      cases hl : Z.letC s[0].toNat
      · go_wp2_with fail
        go_ret
        exact ⟨ret_bool (Z.name_head h0 hl).symm, rfl⟩
      · have HL := Lib.hid hl
        clear hl
        go_wp2_with fail
        go_loop [21] (fun i => ∃ k : Nat, k ≤ s.size ∧ i = .int .i64 k ∧ ∀ j, j < k → ∀ (h : j < s.size), Z.nmI s[j].toNat = true) (fun i => s.size - (intOf i).toNat)
        case atStart => exact ⟨0, by omega, rfl, by omega⟩
        case round =>
          obtain ⟨k, hk, rfl, hd⟩ := hrel
          have HD := Lib.hid hd
          clear hd
          by_cases hlt : k < s.size
          · have HB := Lib.hid (Z.name_bad hlt)
            go_wp2_with fail
            refine (letter_any _ _).mono ?_
            rintro e w3 ⟨rfl, rfl⟩
            cases hl : Z.letC s[k].toNat
            · go_wp2_with fail
              all_goals first
                | (go_ret
                   refine ⟨ret_bool (HB.out ?_).symm, rfl⟩
                   (try simp only [bne_iff_ne, ne_eq] at *); unfold Z.nmI; rw [hl]; simp only [Bool.false_or, Bool.or_eq_false_iff, Bool.and_eq_false_iff, decide_eq_false_iff_not]; omega)
                | (go_round
                   case rel =>
                     refine ⟨k + 1, by omega, by go_num, fun j hj h => ?_⟩
                     by_cases e : j = k
                     · subst e
                       (try simp only [bne_eq_false_iff_eq] at *); unfold Z.nmI; rw [hl]; simp only [Bool.false_or, Bool.or_eq_true, Bool.and_eq_true, decide_eq_true_eq]; omega
                     · exact HD.out j (by omega) h
                   case measure => simp [intOf]; omega)
            · go_wp2_with fail
              go_round
              case rel =>
                refine ⟨k + 1, by omega, by go_num, fun j hj h => ?_⟩
                by_cases e : j = k
                · subst e
                  unfold Z.nmI; rw [hl]; simp
                · exact HD.out j (by omega) h
              case measure => simp [intOf]; omega
          · obtain rfl : k = s.size := by omega
            go_wp2_with fail
            go_ret
            exact ⟨ret_bool (Z.name_yes h0 HL.out h40 HD.out).symm, rfl⟩
    · go_enter Tryd.func15, Tryd.ntmps15
      go_wp2_with fail
      go_ret
      exact ⟨ret_bool (Z.name_long h40).symm, rfl⟩
  · go_enter Tryd.func15, Tryd.ntmps15
    go_wp2_with fail
    go_ret
    exact ⟨ret_bool (Z.name_short h0).symm, rfl⟩
end Go.Proofs.YtifafmomkpkgdaaDoor
