/- Walks: lists of days; what the closures of node answer. -/
import Derived.Test.YtifafmomkpkgdaaDoorOsa
import Derived.Test.YtifafmomkpkgdaaDoorOsm
namespace Go.Proofs.YtifafmomkpkgdaaDoor
open Go.RowKit
namespace Z
theorem ascO_iff : ∀ l : List Int, ascO l = true ↔ ∀ (j : Nat) (c d : Int), l[j]? = some c → l[j + 1]? = some d → c < d
  | [] => by simp [ascO]
  | [a] => by simp [ascO, ascD]
  | a :: b :: r => by
    have e : ascO (a :: b :: r) = (decide (a < b) && ascO (b :: r)) := rfl
    rw [e, Bool.and_eq_true, decide_eq_true_iff, ascO_iff (b :: r)]
    constructor
    · rintro ⟨h1, h2⟩ j c d hc hd
      cases j with
      | zero =>
        obtain rfl : a = c := by simpa using hc
        obtain rfl : b = d := by simpa using hd
        exact h1
      | succ j => exact h2 j c d (by simpa using hc) (by simpa using hd)
    · intro h
      exact ⟨h 0 a b rfl rfl, fun j c d hc hd => h (j + 1) c d (by simpa using hc) (by simpa using hd)⟩
def dayK (l : List Int) (k : Nat) : Bool :=
  match l[k]? with
  | none => true
  | some d => dayC d && (match k with | 0 => true | j + 1 => match l[j]? with | none => true | some c => decide (c < d))
theorem days_ok {l : List Int} (h : ∀ j, j < l.length → dayK l j = true) : (l.all dayC && ascO l) = true := by
  rw [Bool.and_eq_true, List.all_eq_true, ascO_iff]
  constructor
  · intro d hd
    obtain ⟨j, hj, rfl⟩ := List.mem_iff_getElem.1 hd
    have := h j hj
    unfold dayK at this
    rw [List.getElem?_eq_getElem hj] at this
    exact (Bool.and_eq_true _ _ ▸ this).1
  · intro j c d hc hd
    have hj := (List.getElem?_eq_some_iff.1 hd).1
    have := h (j + 1) hj
    unfold dayK at this
    rw [hd] at this
    simp only [hc, Bool.and_eq_true, decide_eq_true_eq] at this
    exact this.2
theorem days_bad {l : List Int} {k : Nat} (h : dayK l k = false) : (l.all dayC && ascO l) = false := by
  cases hh : (l.all dayC && ascO l)
  · rfl
  · rw [Bool.and_eq_true, List.all_eq_true, ascO_iff] at hh
    exfalso
    unfold dayK at h
    cases hd : l[k]? with
    | none => rw [hd] at h; cases h
    | some d =>
      rw [hd] at h
      have h1 := hh.1 d (List.mem_of_getElem? hd)
      simp only [h1, Bool.true_and] at h
      cases k with
      | zero => cases h
      | succ j =>
        cases hc : l[j]? with
        | none => simp only [hc] at h; cases h
        | some c =>
          simp only [hc, decide_eq_false_iff_not] at h
          exact h (hh.2 j c d hc hd)
end Z
set_option maxRecDepth 100000 in
set_option maxHeartbeats 2000000 in
theorem days_any (v : Value) (l : List Int) (w : World) (h : SD w v l) : Calls Tryd.prog 72 #[v] w fun e w' => e = .returned (.bool (Z.daysB l)) ∧ w = w' := by
  obtain ⟨A, cp, rfl, hlc, hcm⟩ := h.shape
  unfold maxLen at hcm
  have hR : Z.daysB l = (decide (1 ≤ l.length) && (decide (l.length ≤ 100) && (l.all Z.dayC && Z.ascO l))) := rfl
  have HS := Lib.hid h
  have HW := Lib.hid (fun d => cwithin_any d w)
  clear h
  generalize Z.daysB l = R at *
  by_cases h1 : 1 ≤ l.length
  rotate_left
  · have g1 : (l.length : Int) < 1 := by omega
    rw [decide_eq_false h1, Bool.false_and] at hR
    subst hR
    clear h1
    go_enter Tryd.func72, Tryd.ntmps72
    go_wp2_with fail
    go_ret
    exact ⟨rfl, rfl⟩
  have g1 : ¬ (l.length : Int) < 1 := by omega
  by_cases h2 : l.length ≤ 100
  rotate_left
  · have g2 : (l.length : Int) > 100 := by omega
    rw [decide_eq_false h2, Bool.false_and, Bool.and_false] at hR
    subst hR
    clear h1 h2
    go_enter Tryd.func72, Tryd.ntmps72
    go_wp2_with fail
    go_ret
    exact ⟨rfl, rfl⟩
  have g2 : ¬ (l.length : Int) > 100 := by omega
  rw [decide_eq_true h1, decide_eq_true h2, Bool.true_and, Bool.true_and] at hR
  have HR := Lib.hid hR
  clear hR
  go_enter Tryd.func72, Tryd.ntmps72
  go_wp2_with fail
  go_loopw [15] (fun iv wr => ∃ (k : Nat), k ≤ l.length ∧ iv = .int .i64 k ∧ Hid (∀ j, j < k → Z.dayK l j = true) ∧ w = wr) (fun iv _ => l.length - (intOf iv).toNat)
  case atStart => exact ⟨0, by omega, rfl, Lib.hid (fun j h => absurd h (Nat.not_lt_zero j)), rfl⟩
  case round =>
    obtain ⟨k, hk, rfl, HI, rfl⟩ := hrel
    by_cases hlt : k < l.length
    · have hz : l[k]? = some l[k] := List.getElem?_eq_getElem hlt
      obtain ⟨b, o, rfl, hbl, q0⟩ := SL.cell1 HS.out hz rfl
      have hi0 : (0 : Int) ≤ (k : Int) := by omega
      have hi1 : (k : Int) < (l.length : Int) := by omega
      cases k with
      | zero =>
        rw [Nat.add_zero] at q0
        have HK : Hid (Z.dayK l 0 = (Z.dayC l[0] && true)) := Lib.hid (by unfold Z.dayK; rw [hz])
        clear hz
        generalize l[0] = d at *
        go_wp2_with fail
        refine (HW.out _).mono ?_
        rintro e w1 ⟨rfl, rfl⟩
        cases hd : Z.dayC d
        · rw [hd, Bool.false_and] at HK
          have hb := Z.days_bad HK.out
          go_wp2_with fail
          go_ret
          exact ⟨ret_bool (by rw [HR.out, hb]), rfl⟩
        · rw [hd, Bool.and_true] at HK
          have HI2 : Hid (∀ j, j < 0 + 1 → Z.dayK l j = true) := Lib.hid (fun j hj => by
            have hj0 : j = 0 := by omega
            subst hj0
            exact HK.out)
          clear HI
          go_wp2_with fail
          go_roundw
          case rel => exact ⟨0 + 1, by omega, by go_num, HI2, trivial⟩
          case measure => simp [intOf]; omega
      | succ k =>
        have hy : l[k]? = some l[k] := List.getElem?_eq_getElem (by omega : k < l.length)
        have HK : Hid (Z.dayK l (k + 1) = (Z.dayC l[k + 1] && decide (l[k] < l[k + 1]))) := Lib.hid (by unfold Z.dayK; rw [hz]; simp only [hy])
        obtain ⟨b', o', he, _, q1⟩ := SL.cell1 HS.out hy rfl
        obtain ⟨rfl, rfl⟩ : b = b' ∧ o = o' := by simpa using he
        have hi2 : (0 : Int) ≤ (k : Int) := by omega
        have hi3 : (k : Int) < (l.length : Int) := by omega
        have hi4 : (k : Int) + 1 > 0 := by omega
        have hi5 : ((k : Int) + 1) - 1 = k := by omega
        clear hz hy he
        generalize l[k + 1] = d at *
        generalize l[k] = c at *
        go_wp2_with fail
        refine (HW.out _).mono ?_
        rintro e w1 ⟨rfl, rfl⟩
        cases hd : Z.dayC d
        · rw [hd, Bool.false_and] at HK
          have hb := Z.days_bad HK.out
          go_wp2_with fail
          go_ret
          exact ⟨ret_bool (by rw [HR.out, hb]), rfl⟩
        · rw [hd, Bool.true_and] at HK
          by_cases hcd : c < d
          · have hcd' : ¬ c ≥ d := by omega
            rw [decide_eq_true hcd] at HK
            have HI2 : Hid (∀ j, j < (k + 1) + 1 → Z.dayK l j = true) := Lib.hid (fun j hj => by
              rcases Nat.lt_or_eq_of_le (Nat.lt_succ_iff.1 hj) with hj | rfl
              · exact HI.out j hj
              · exact HK.out)
            clear HI hcd
            go_wp2_with fail
            go_roundw
            case rel => exact ⟨(k + 1) + 1, by omega, by go_num, HI2, trivial⟩
            case measure => simp [intOf]; omega
          · have hcd' : c ≥ d := by omega
            rw [decide_eq_false hcd] at HK
            have hb := Z.days_bad HK.out
            clear hcd
            go_wp2_with fail
            go_ret
            exact ⟨ret_bool (by rw [HR.out, hb]), rfl⟩
    · obtain rfl : k = l.length := by omega
      have hb := Z.days_ok HI.out
      go_wp2_with fail
      go_ret
      exact ⟨ret_bool (by rw [HR.out, hb]), rfl⟩
namespace Z
def hasI (p part : Int) : Bool := bits BinOp.and IntKind.i64 p part != 0
def hasP (p : Int) (P : Pa) : Prop := hasI p 1 = P.fr ∧ hasI p 2 = P.tu ∧ hasI p 4 = P.nm ∧ hasI p 8 = P.num ∧ hasI p 16 = P.tru ∧ hasI p 32 = P.date ∧ hasI p 64 = P.dates ∧ hasI p 128 = decide (P.subs = 1) ∧ hasI p 256 = decide (P.subs = 2)
instance (p : Int) (P : Pa) : Decidable (hasP p P) := by unfold hasP; infer_instance
theorem pas_some {k : Int} {P : Pa} (h : pas k = some P) : (ptI k).2 = true ∧ hasP (ptI k).1 P ∧ P.subs ≤ 2 := by
  unfold pas at h
  by_cases h1 : k = 1
  · subst h1; rw [if_pos rfl] at h; cases h; decide +kernel
  rw [if_neg h1] at h
  by_cases h2 : k = 2
  · subst h2; rw [if_pos rfl] at h; cases h; decide +kernel
  rw [if_neg h2] at h
  by_cases h3 : k = 3
  · subst h3; rw [if_pos rfl] at h; cases h; decide +kernel
  rw [if_neg h3] at h
  by_cases h4 : k = 4
  · subst h4; rw [if_pos rfl] at h; cases h; decide +kernel
  rw [if_neg h4] at h
  by_cases h5 : k = 5
  · subst h5; rw [if_pos rfl] at h; cases h; decide +kernel
  rw [if_neg h5] at h
  by_cases h6 : k = 6
  · subst h6; rw [if_pos rfl] at h; cases h; decide +kernel
  rw [if_neg h6] at h
  by_cases h7 : k = 7
  · subst h7; rw [if_pos rfl] at h; cases h; decide +kernel
  rw [if_neg h7] at h
  by_cases h8 : k = 8
  · subst h8; rw [if_pos rfl] at h; cases h; decide +kernel
  rw [if_neg h8] at h
  by_cases h9 : k = 9
  · subst h9; rw [if_pos rfl] at h; cases h; decide +kernel
  rw [if_neg h9] at h
  by_cases h10 : k = 10
  · subst h10; rw [if_pos rfl] at h; cases h; decide +kernel
  rw [if_neg h10] at h
  cases h
theorem pas_none {k : Int} (h : pas k = none) : (ptI k).2 = false := by
  unfold pas at h
  by_cases h1 : k = 1
  · rw [if_pos h1] at h; cases h
  rw [if_neg h1] at h
  by_cases h2 : k = 2
  · rw [if_pos h2] at h; cases h
  rw [if_neg h2] at h
  by_cases h3 : k = 3
  · rw [if_pos h3] at h; cases h
  rw [if_neg h3] at h
  by_cases h4 : k = 4
  · rw [if_pos h4] at h; cases h
  rw [if_neg h4] at h
  by_cases h5 : k = 5
  · rw [if_pos h5] at h; cases h
  rw [if_neg h5] at h
  by_cases h6 : k = 6
  · rw [if_pos h6] at h; cases h
  rw [if_neg h6] at h
  by_cases h7 : k = 7
  · rw [if_pos h7] at h; cases h
  rw [if_neg h7] at h
  by_cases h8 : k = 8
  · rw [if_pos h8] at h; cases h
  rw [if_neg h8] at h
  by_cases h9 : k = 9
  · rw [if_pos h9] at h; cases h
  rw [if_neg h9] at h
  by_cases h10 : k = 10
  · rw [if_pos h10] at h; cases h
  unfold ptI; simp only [h1, h2, h3, h4, h5, h6, h7, h8, h9, h10, if_false]
end Z
theorem has_any (p part : Int) (b : Nat) (w : World) (h : w.cell? ⟨b, 0, none⟩ = some (.int .i64 p)) : Calls Tryd.prog 69 #[.int .i64 part, .pointer (some ⟨b, 0, none⟩)] w fun e w' => e = .returned (.bool (Z.hasI p part)) ∧ w = w' := by
  go_enter Tryd.func69, Tryd.ntmps69
  go_wp2_with fail
  go_ret
  exact ⟨rfl, rfl⟩
abbrev hasV (b : Nat) : Value := .func (.func 69) #[] #[.pointer (some ⟨b, 0, none⟩)]
abbrev wordV (b : Nat) : Value := .func (.func 70) #[] #[.pointer (some ⟨b, 0, none⟩)]
theorem word_any (p part : Int) (s : ByteArray) (b h : Nat) (w : World) (hp : w.cell? ⟨b, 0, none⟩ = some (.int .i64 p)) (hh : w.cell? ⟨h, 0, none⟩ = some (hasV b)) (hs : s.size ≤ 100000) :
    Calls Tryd.prog 70 #[.int .i64 part, .string s, .pointer (some ⟨h, 0, none⟩)] w fun e w' => e = .returned (.bool (Z.wordB (Z.hasI p part) s)) ∧ w = w' := by
  have HH := Lib.hid (has_any p part b w hp)
  have HN := Lib.hid (name_any s w (by unfold maxLen; omega))
  have h1 := Z.isE s
  have hR : Z.wordB (Z.hasI p part) s = if Z.hasI p part = true then Z.nameB s else decide (s = Z.e0) := rfl
  generalize Z.wordB (Z.hasI p part) s = R at *
  generalize Z.hasI p part = c at *
  generalize Z.nameB s = n at *
  generalize decide (s = Z.e0) = d at *
  have HR := Lib.hid hR
  clear hR
  go_enter Tryd.func70, Tryd.ntmps70
  go_wp2_with fail
  refine HH.out.mono ?_
  rintro e w1 ⟨rfl, rfl⟩
  cases c
  · go_wp2_with fail
    refine HH.out.mono ?_
    rintro e w1 ⟨rfl, rfl⟩
    go_wp2_with fail
    go_ret
    exact ⟨ret_bool HR.out.symm, rfl⟩
  · go_wp2_with fail
    refine HN.out.mono ?_
    rintro e w1 ⟨rfl, rfl⟩
    cases n
    · go_wp2_with fail
      refine HH.out.mono ?_
      rintro e w1 ⟨rfl, rfl⟩
      go_wp2_with fail
      go_ret
      exact ⟨ret_bool HR.out.symm, rfl⟩
    · go_wp2_with fail
      go_ret
      exact ⟨ret_bool HR.out.symm, rfl⟩
end Go.Proofs.YtifafmomkpkgdaaDoor
