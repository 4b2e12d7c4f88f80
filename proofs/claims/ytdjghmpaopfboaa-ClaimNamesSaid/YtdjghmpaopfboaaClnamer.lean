/- Names: the plain walk of the reference's Name. -/
import Derived.Test.YtdjghmpaopfboaaClname
namespace Go.Proofs.Ytdjghmpaopfboaa
open Go.RowKit

namespace Z
def okc (k : Nat) (c : Int) : Bool := letC c || (!decide (k = 0) && nmI c)
def othC (c : Int) : Bool := (decide (48 ≤ c) && decide (c ≤ 57)) || decide (c = 95) || decide (c = 45)
theorem okc_is (k : Nat) (c : Int) : okc k c = (letC c || (!decide (k = 0) && othC c)) := by
  unfold okc nmI othC
  cases letC c
  · simp only [Bool.false_or]
  · simp only [Bool.true_or]
theorem okc_nm {k : Nat} {c : Int} (h : okc k c = true) : nmI c = true := by
  unfold okc at h
  cases hl : letC c
  · rw [hl] at h; simp at h; exact h.2
  · unfold nmI; rw [hl]; rfl
theorem name_no {s : ByteArray} {k : Nat} (hk : k < s.size) (h : okc k s[k].toNat = false) : nameB s = false := by
  unfold okc at h
  rw [Bool.or_eq_false_iff] at h
  by_cases e : k = 0
  · subst e; exact name_head hk h.1
  · refine name_bad hk ?_
    have := h.2
    rw [decide_eq_false e] at this
    exact this
theorem name_all {s : ByteArray} (h0 : 0 < s.size) (h40 : s.size ≤ 40) (ha : ∀ j, j < s.size → ∀ (h : j < s.size), okc j s[j].toNat = true) : nameB s = true := by
  refine name_yes h0 ?_ h40 fun j hj h => okc_nm (ha j hj h)
  have := ha 0 h0 h0
  unfold okc at this
  simpa using this
end Z
theorem rname_any (s : ByteArray) (w : World) (hs : s.size ≤ maxLen) :
    Calls Try.prog 41 #[.string s] w fun e w' => e = .returned (.bool (Z.nameB s)) ∧ w = w' := by
  unfold maxLen at hs
  by_cases h0 : 0 < s.size
  · have e0 : ((s.size : Int) == 0) = false := by rw [beq_eq_false_iff_ne]; omega
    by_cases h40 : s.size ≤ 40
    · go_enter Try.func41, Try.ntmps41
      go_wp2_with fail
      go_loop [3] (fun i => ∃ k : Nat, k ≤ s.size ∧ i = .int .i64 k ∧ ∀ j, j < k → ∀ (h : j < s.size), Z.okc j s[j].toNat = true) (fun i => s.size - (intOf i).toNat)
      case atStart => exact ⟨0, by omega, rfl, by omega⟩
      case round =>
        obtain ⟨k, hk, rfl, hd⟩ := hrel
        have HD := Lib.hid hd
        clear hd
        by_cases hlt : k < s.size
        · have HB := Lib.hid (Z.name_no hlt)
          have HR : Hid (Z.okc k s[k].toNat = true → ∀ j, j < k + 1 → ∀ (h : j < s.size), Z.okc j s[j].toNat = true) := Lib.hid (by
            intro ho j hj h
            by_cases e : j = k
            · subst e; exact ho
            · exact HD.out j (by omega) h)
          clear HD
          go_upto_region 7 with fail
          have K0 : ((k : Int) == 0) = decide (k = 0) := by rw [Bool.eq_iff_iff]; simp
          generalize (s[k].toNat : Int) = c at *
          have HC := Lib.hid (Z.okc_is k c)
          by_cases h95 : c = 95
          · subst h95
            rw [show Z.letC 95 = false by decide, show Z.othC 95 = true by decide] at HC
            generalize Z.okc k 95 = o at *
            generalize hk0 : decide (k = 0) = z at *
            cases z
            all_goals (
                go_wp2_with fail
                first
                | (go_ret
                   exact ⟨ret_bool (HB.out HC.out).symm, rfl⟩)
                | (go_round
                   case rel => exact ⟨k + 1, by omega, by go_num, HR.out HC.out⟩
                   case measure => simp [intOf]; omega))
          by_cases h45 : c = 45
          · subst h45
            rw [show Z.letC 45 = false by decide, show Z.othC 45 = true by decide] at HC
            generalize Z.okc k 45 = o at *
            generalize hk0 : decide (k = 0) = z at *
            cases z
            all_goals (
                go_wp2_with fail
                first
                | (go_ret
                   exact ⟨ret_bool (HB.out HC.out).symm, rfl⟩)
                | (go_round
                   case rel => exact ⟨k + 1, by omega, by go_num, HR.out HC.out⟩
                   case measure => simp [intOf]; omega))
          have e95 : (c == 95) = false := by rw [beq_eq_false_iff_ne]; exact h95
          have e45 : (c == 45) = false := by rw [beq_eq_false_iff_ne]; exact h45
          clear h95 h45
          go_cut [5] (fun v wx => v = .bool (Z.letC c) ∧ w = wx)
          case first =>
            go_wp2_with fail
            all_goals (go_meet; refine ⟨?_, rfl⟩; congr 1; rw [Bool.eq_iff_iff]; simp [Z.letC]; try omega)
          case rest =>
            obtain ⟨rfl, rfl⟩ := hcut
            go_upto_region 8 with fail
            go_cut [6] (fun v wx => v = .bool (Z.othC c) ∧ w = wx)
            case first =>
              generalize Z.letC c = l at *
              go_wp2_with fail
              all_goals (go_meet; refine ⟨?_, rfl⟩; congr 1; rw [Bool.eq_iff_iff]; (try simp only [beq_eq_false_iff_ne] at *); simp [Z.othC]; try omega)
            case rest =>
              obtain ⟨rfl, rfl⟩ := hcut
              generalize Z.letC c = l at *
              generalize Z.othC c = t at *
              generalize Z.okc k c = o at *
              generalize hk0 : decide (k = 0) = z at *
              cases l <;> cases t <;> cases z
              all_goals (
                go_wp2_with fail
                first
                | (go_ret
                   exact ⟨ret_bool (HB.out HC.out).symm, rfl⟩)
                | (go_round
                   case rel => exact ⟨k + 1, by omega, by go_num, HR.out HC.out⟩
                   case measure => simp [intOf]; omega))
        · obtain rfl : k = s.size := by omega
          go_wp2_with fail
          go_ret
          exact ⟨ret_bool (Z.name_all h0 h40 HD.out).symm, rfl⟩
    · go_enter Try.func41, Try.ntmps41
      go_wp2_with fail
      go_ret
      exact ⟨ret_bool (Z.name_long h40).symm, rfl⟩
  · have e0 : ((s.size : Int) == 0) = true := by rw [beq_iff_eq]; omega
    go_enter Try.func41, Try.ntmps41
    go_wp2_with fail
    go_ret
    exact ⟨ret_bool (Z.name_short h0).symm, rfl⟩
end Go.Proofs.Ytdjghmpaopfboaa
