/- Walks: the reference for dates: In, Day, Leap, long, Parts. -/
import Derived.Test.YtmbbpimihnojeaaDprg
namespace Go.Proofs.Ytmbbpimihnojeaa
open Go.RowKit

theorem in_any (n a b : Int) (w : World) :
    Calls Try.prog 31 #[.int .i64 n, .int .i64 a, .int .i64 b] w fun e w' => e = .returned (.bool (decide (a ≤ n) && decide (n ≤ b))) ∧ w = w' := by
  go_enter Try.func31, Try.ntmps31
  go_wp2_with fail
  all_goals (go_ret; refine ⟨ret_bool ?_, rfl⟩; rw [Bool.eq_iff_iff]; simp; try omega)
theorem rday_any (n : Int) (w : World) :
    Calls Try.prog 30 #[.int .i64 n] w fun e w' => e = .returned (.bool (Z.inR n)) ∧ w = w' := by
  go_enter Try.func30, Try.ntmps30
  go_wp2_with fail
  refine (in_any _ _ _ _).mono ?_
  rintro e w1 ⟨rfl, rfl⟩
  go_wp2_with fail
  go_ret
  exact ⟨rfl, rfl⟩
theorem rleap_any (y : Int) (w : World) (h0 : 0 ≤ y) (h1 : y ≤ 100000) :
    Calls Try.prog 68 #[.int .i64 y] w fun e w' => e = .returned (.bool (Z.leap y)) ∧ w = w' := by
  go_enter Try.func68, Try.ntmps68
  go_wp2_with fail
  all_goals (go_ret; refine ⟨ret_bool ?_, rfl⟩; rw [Bool.eq_iff_iff, Z.leap_iff]; simp only [beq_iff_eq, beq_eq_false_iff_ne, ne_eq] at *; simp; try omega)
theorem long_any (y m : Int) (w : World) (h0 : 0 ≤ y) (h1 : y ≤ 100000) :
    Calls Try.prog 55 #[.int .i64 y, .int .i64 m] w fun e w' => e = .returned (.int .i64 (Z.len y m)) ∧ w = w' := by
  by_cases h : m = 2
  · subst h
    go_enter Try.func55, Try.ntmps55
    go_wp2_with fail
    refine (rleap_any _ _ h0 h1).mono ?_
    rintro e w1 ⟨rfl, rfl⟩
    cases hl : Z.leap y
    · go_wp2_with fail
      go_ret
      exact ⟨ret_int (by simp [Z.len, hl]), rfl⟩
    · go_wp2_with fail
      go_ret
      exact ⟨ret_int (by simp [Z.len, hl]), rfl⟩
  · go_enter Try.func55, Try.ntmps55
    go_wp2_with fail
    all_goals (go_ret; refine ⟨ret_int ?_, rfl⟩; simp only [beq_iff_eq, beq_eq_false_iff_ne, ne_eq] at *; unfold Z.len; rw [if_neg h]; split <;> omega)

theorem rparts_out (day : Int) (w : World) (h : Z.inR day = false) :
    Calls Try.prog 46 #[.int .i64 day] w fun e w' => e = .returned (.tuple #[.int .i64 0, .int .i64 0, .int .i64 0, .int .i64 2]) ∧ w = w' := by
  go_enter Try.func46, Try.ntmps46
  go_wp2_with fail
  refine (rday_any _ _).mono ?_
  rintro e w1 ⟨rfl, rfl⟩
  go_wp2_with fail
  (try simp only [Exit.inBlock, Exit.then])
  refine bodyPost_ret (results_tmp4 rfl _ _ _) rfl ?_
  exact ⟨rfl, rfl⟩
def RPartsRet (day : Int) (w : World) (e : Ending) (w' : World) : Prop := ∃ y m d, Z.Dt day y m d ∧ e = .returned (.tuple #[.int .i64 y, .int .i64 m, .int .i64 d, .int .i64 0]) ∧ w = w'
set_option maxHeartbeats 400000 in
theorem rparts_any (day : Int) (w : World) (h : Z.inR day = true) :
    Calls Try.prog 46 #[.int .i64 day] w (RPartsRet day w) := by
  have h01 : 0 ≤ day ∧ day ≤ 99999 := by unfold Z.inR at h; simpa using h
  obtain ⟨h0, h1⟩ := h01
  go_enter Try.func46, Try.ntmps46
  go_wp2_with fail
  refine (rday_any _ _).mono ?_
  rintro e w1 ⟨rfl, rfl⟩
  go_wp2_with fail
  go_loop [0, 6, 7] (fun tv yv mv => ∃ t y m : Int, tv = .int .i64 t ∧ yv = .int .i64 y ∧ mv = .int .i64 m ∧ 0 ≤ t ∧ 1900 ≤ y ∧ y ≤ 2173 ∧ 1 ≤ m ∧ m ≤ 12 ∧ Hid (day = Z.fst y + Z.cum y m + t)) (fun tv _ _ => (intOf tv).toNat)
  case atStart =>
    refine ⟨day, 1900, 1, rfl, rfl, rfl, h0, by omega, by omega, by omega, by omega, ?_⟩
    have e1 := Z.cum_one 1900
    have e2 : Z.fst 1900 = 0 := by decide
    show day = Z.fst 1900 + Z.cum 1900 1 + day
    omega
  case round =>
    obtain ⟨t, y, m, rfl, rfl, rfl, ht, hy0, hy1, hm0, hm1, HD⟩ := hrel
    have hlb := Z.len_ge y m
    have htb : t ≤ 99999 := by
      have := HD.out; have := Z.cum_ge y m; have := Z.fst_bounds y hy0; omega
    by_cases hd : Z.len y m ≤ t
    · by_cases hm : m < 12
      · have HN : Hid (day = Z.fst y + Z.cum y (m + 1) + (t - Z.len y m)) := by
          have h2 := Z.cum_succ (y := y) (m := m) (by omega) (by omega)
          have h3 := HD.out
          show day = _
          rw [h2]; omega
        go_wp2_with fail
        refine (long_any _ _ _ (by omega) (by omega)).mono ?_
        rintro e w1 ⟨rfl, rfl⟩
        go_wp2_with fail
        refine (long_any _ _ _ (by omega) (by omega)).mono ?_
        rintro e w1 ⟨rfl, rfl⟩
        go_wp2_with fail
        go_round
        case rel => exact ⟨t - Z.len y m, y, m + 1, rfl, rfl, rfl, by omega, by omega, by omega, by omega, by omega, HN⟩
        case measure => simp [intOf]; omega
      · obtain rfl : m = 12 := by omega
        have hN : day = Z.fst (y + 1) + (t - Z.len y 12) := by
          have h2 := Z.cum_succ (y := y) (m := 12) (by omega) (by omega)
          have h3 := HD.out
          have h4 := Z.cum_last y
          simp at h2
          omega
        have hy2 : y + 1 ≤ 2173 := Z.fst_le (by omega)
        have HN : Hid (day = Z.fst (y + 1) + Z.cum (y + 1) 1 + (t - Z.len y 12)) := by
          show day = _
          rw [Z.cum_one]; omega
        clear hN
        go_wp2_with fail
        refine (long_any _ _ _ (by omega) (by omega)).mono ?_
        rintro e w1 ⟨rfl, rfl⟩
        go_wp2_with fail
        refine (long_any _ _ _ (by omega) (by omega)).mono ?_
        rintro e w1 ⟨rfl, rfl⟩
        go_wp2_with fail
        go_round
        case rel => exact ⟨t - Z.len y 12, y + 1, 1, rfl, rfl, rfl, by omega, by omega, by omega, by omega, by omega, HN⟩
        case measure => simp [intOf]; omega
    · go_wp2_with fail
      refine (long_any _ _ _ (by omega) (by omega)).mono ?_
      rintro e w1 ⟨rfl, rfl⟩
      go_wp2_with fail
      (try simp only [Exit.inBlock, Exit.then])
      refine bodyPost_ret (results_tmp4 rfl _ _ _) rfl ?_
      exact ⟨y, m, t + 1, ⟨hy0, hy1, by omega, by omega, by omega, by omega, by have := HD.out; omega⟩, rfl, rfl⟩
end Go.Proofs.Ytmbbpimihnojeaa
