/- Walks: date: Leap, leaps, first, lengths, Parts. -/
import Derived.Test.YtmbbpimihnojeaaProg
import Derived.Test.YtmbbpimihnojeaaZdat
import Derived.Test.YtmbbpimihnojeaaMi
import Derived.WalkKit
import Derived.WalkSpells
import Derived.WalkLawsBesides
import Derived.Deep.DeepCutAuto
import Derived.Deep.QuietTactic
import Derived.BigQuiet
import Derived.Lib.Hide
namespace Go.Proofs.Ytmbbpimihnojeaa
open Go.RowKit

theorem results_tmp4 {fn : Func} {t u v x : Tmp} (h : fn.results = #[.tmp t, .tmp u, .tmp v, .tmp x]) (tmps : Array Value) (P : Program) (w : World) :
    (results fn tmps).run P w = .ok (.tuple #[tmps.getD t undef, tmps.getD u undef, tmps.getD v undef, tmps.getD x undef]) w := by
  simp [results, h]

theorem leap_any (y : Int) (w : World) (h0 : 0 ≤ y) (h1 : y ≤ 100000) :
    Calls Try.prog 51 #[.int .i64 y] w fun e w' => e = .returned (.bool (Z.leap y)) ∧ w = w' := by
  go_enter Try.func51, Try.ntmps51
  go_wp2_with fail
  all_goals (go_ret; refine ⟨ret_bool ?_, rfl⟩; simp [Z.leap, *])

theorem leaps_any (y : Int) (w : World) (h0 : 0 ≤ y) (h1 : y ≤ 100000) :
    Calls Try.prog 50 #[.int .i64 y] w fun e w' => e = .returned (.int .i64 (Z.lp y)) ∧ w = w' := by
  go_enter Try.func50, Try.ntmps50
  go_wp2_with fail
  go_ret
  refine ⟨ret_int ?_, rfl⟩
  rfl
theorem first_any (y : Int) (w : World) (h0 : 1 ≤ y) (h1 : y ≤ 100000) :
    Calls Try.prog 39 #[.int .i64 y] w fun e w' => e = .returned (.int .i64 (Z.fst y)) ∧ w = w' := by
  go_enter Try.func39, Try.ntmps39
  go_wp2_with fail
  refine (leaps_any _ _ (by omega) (by omega)).mono ?_
  rintro e w1 ⟨rfl, rfl⟩
  have hb : -30000 ≤ Z.lp (y - 1) ∧ Z.lp (y - 1) ≤ 30000 := by unfold Z.lp; omega
  go_wp2_with fail
  refine (leaps_any _ _ (by omega) (by omega)).mono ?_
  rintro e w1 ⟨rfl, rfl⟩
  have e1 : Z.lp 1899 = 460 := by decide
  rw [e1]
  go_wp2_with fail
  go_ret
  exact ⟨ret_int (by unfold Z.fst; omega), rfl⟩

/-- The lengths of a year's months, as the program's array holds them. -/
def lensA (f : Int) : Array Value := #[.int .i64 0, .int .i64 31, .int .i64 f, .int .i64 31, .int .i64 30, .int .i64 31, .int .i64 30, .int .i64 31, .int .i64 31, .int .i64 30, .int .i64 31, .int .i64 30, .int .i64 31]
theorem lensA_at (y : Int) (k : Nat) (h0 : 1 ≤ k) (h1 : k ≤ 12) : (lensA (Z.len y 2))[k]? = some (.int .i64 (Z.len y k)) := by
  have : k = 1 ∨ k = 2 ∨ k = 3 ∨ k = 4 ∨ k = 5 ∨ k = 6 ∨ k = 7 ∨ k = 8 ∨ k = 9 ∨ k = 10 ∨ k = 11 ∨ k = 12 := by omega
  rcases this with rfl | rfl | rfl | rfl | rfl | rfl | rfl | rfl | rfl | rfl | rfl | rfl <;> rfl
set_option maxHeartbeats 400000 in
theorem lengths_any (y : Int) (w : World) (h0 : 0 ≤ y) (h1 : y ≤ 100000) :
    Calls Try.prog 40 #[.int .i64 y] w fun e w' => e = .returned (.agg (lensA (Z.len y 2))) ∧ Below w.heap.size w w' := by
  go_enter Try.func40, Try.ntmps40
  go_wp2_with fail
  refine (leap_any _ _ (by omega) (by omega)).mono ?_
  rintro e w1 ⟨rfl, rfl⟩
  cases hl : Z.leap y
  · go_wp2_with fail
    exact bodyPost_ret (v := .agg (lensA (Z.len y 2))) (by simp [lensA, Z.len, hl, results, Try.results40, go_sem]) rfl ⟨rfl, ((Below.refl _ _).alloc (Nat.le_refl _) _).alloc (by simp) _⟩
  · go_wp2_with fail
    exact bodyPost_ret (v := .agg (lensA (Z.len y 2))) (by simp [lensA, Z.len, hl, results, Try.results40, go_sem]) rfl ⟨rfl, ((Below.refl _ _).alloc (Nat.le_refl _) _).alloc (by simp) _⟩

theorem Z.fst_le {z : Int} (h : Z.fst z ≤ 99999) : z ≤ 2173 := by unfold Z.fst Z.lp at h; omega
def PartsRet (day : Int) (w : World) (e : Ending) (w' : World) : Prop := ∃ y m d, Z.Dt day y m d ∧ e = .returned (.tuple #[.int .i64 y, .int .i64 m, .int .i64 d, .int .i64 0]) ∧ Below w.heap.size w w'
theorem parts_out (day : Int) (w : World) (h : day < 0 ∨ 99999 < day) :
    Calls Try.prog 20 #[.int .i64 day] w fun e w' => e = .returned (.tuple #[.int .i64 0, .int .i64 0, .int .i64 0, .int .i64 2]) ∧ w = w' := by
  go_enter Try.func20, Try.ntmps20
  go_wp2_with fail
  all_goals ((try simp only [Exit.inBlock, Exit.then]); refine bodyPost_ret (results_tmp4 rfl _ _ _) rfl ?_; exact ⟨rfl, rfl⟩)
theorem lens_cell (w : World) (y : Int) (k : Nat) (h0 : 1 ≤ k) (h1 : k ≤ 12) : (w.alloc (.cells (lensA (Z.len y 2)) 64)).cell? ⟨w.heap.size, k, none⟩ = some (.int .i64 (Z.len y k)) := by
  rw [cell_of_row _ w.heap.size k _ 64 (0, 0) (heap_alloc_new w _)]
  exact lensA_at y k h0 h1
set_option maxHeartbeats 400000 in
theorem parts_any (day : Int) (w : World) (h0 : 0 ≤ day) (h1 : day ≤ 99999) :
    Calls Try.prog 20 #[.int .i64 day] w (PartsRet day w) := by
  go_enter Try.func20, Try.ntmps20
  go_wp2_with fail
  go_loop [2] (fun yv => ∃ y : Int, yv = .int .i64 y ∧ 1900 ≤ y ∧ y ≤ 2173 ∧ Z.fst y ≤ day) (fun yv => (2174 - intOf yv).toNat)
  case atStart =>
    have := Z.fst_bounds (1900 + day / 366) (by omega)
    exact ⟨1900 + day / 366, by go_num, by omega, by omega, by omega⟩
  case round =>
    obtain ⟨y, rfl, hy0, hy1, hy⟩ := hrel
    by_cases hlt : Z.fst (y + 1) ≤ day
    · have hy2 := Z.fst_le (Int.le_trans hlt h1)
      go_wp2_with fail
      refine (first_any _ _ (by omega) (by omega)).mono ?_
      rintro e w1 ⟨rfl, rfl⟩
      go_wp2_with fail
      go_round
      case rel => exact ⟨y + 1, rfl, by omega, by omega, hlt⟩
      case measure => simp [intOf]; omega
    · have hfb := Z.fst_bounds y hy0
      go_wp2_with fail
      refine (first_any _ _ (by omega) (by omega)).mono ?_
      rintro e w1 ⟨rfl, rfl⟩
      go_wp2_with fail
      refine (first_any _ _ (by omega) (by omega)).mono ?_
      rintro e w1 ⟨rfl, rfl⟩
      go_wp2_with fail
      refine (lengths_any _ _ (by omega) (by omega)).mono ?_
      rintro e w1 ⟨rfl, hb1⟩
      have hcell := lens_cell w1 y
      have hbW := hb1.trans ((Below.refl _ w1).alloc hb1.size (.cells (lensA (Z.len y 2)) 64))
      generalize hf : Z.len y 2 = f at hcell hbW ⊢
      unfold lensA at hcell hbW ⊢
      go_wp2_with fail
      generalize (w1.alloc (.cells #[.int .i64 0, .int .i64 31, .int .i64 f, .int .i64 31, .int .i64 30, .int .i64 31, .int .i64 30, .int .i64 31, .int .i64 31, .int .i64 30, .int .i64 31, .int .i64 30, .int .i64 31] 64)) = W at hcell hbW ⊢
      generalize w1.heap.size = B at hcell ⊢
      clear hf hb1
      have hlt := Lib.hid hlt
      go_loop [3, 4] (fun mv dv => ∃ (k : Nat) (d : Int), mv = .int .i64 k ∧ dv = .int .i64 d ∧ 1 ≤ k ∧ k ≤ 12 ∧ 1 ≤ d ∧ Hid (day = Z.fst y + Z.cum y k + d - 1)) (fun mv _ => 13 - (intOf mv).toNat)
      case atStart =>
        refine ⟨1, day - Z.fst y + 1, rfl, rfl, by omega, by omega, by omega, ?_⟩
        have := Z.cum_one y
        show day = Z.fst y + Z.cum y 1 + _ - 1
        omega
      case round =>
        obtain ⟨k, d, rfl, rfl, hk0, hk1, hd0, HD⟩ := hrel
        have hr := hcell k hk0 hk1
        have hlb := Z.len_ge y k
        clear hcell
        have hdb : d ≤ 100000 := by
          have := HD.out; have := Z.cum_ge y k; omega
        by_cases hd : Z.len y k < d
        · have hk2 : k < 12 := by
            rcases Nat.lt_or_ge k 12 with h | h
            · exact h
            · exfalso
              obtain rfl : k = 12 := by omega
              have h1 := Z.cum_last y
              have h2 := Z.cum_succ (y := y) (m := 12) (by omega) (by omega)
              have h3 := HD.out
              have h4 := hlt.out
              simp at h2 h3 hd
              omega
          have HN : Hid (day = Z.fst y + Z.cum y ((k + 1 : Nat) : Int) + (d - Z.len y k) - 1) := by
            have h2 := Z.cum_succ (y := y) (m := k) (by omega) (by omega)
            have h3 := HD.out
            show day = _
            have e : ((k + 1 : Nat) : Int) = (k : Int) + 1 := by omega
            rw [e, h2]; omega
          go_wp2_with fail
          go_round
          case rel => exact ⟨k + 1, d - Z.len y k, by go_num, rfl, by omega, by omega, by omega, HN⟩
          case measure => simp [intOf]; omega
        · go_wp2_with fail
          (try simp only [Exit.inBlock, Exit.then])
          refine bodyPost_ret (results_tmp4 rfl _ _ _) rfl ?_
          exact ⟨y, k, d, ⟨hy0, hy1, by omega, by omega, hd0, by omega, HD.out⟩, rfl, hbW⟩
end Go.Proofs.Ytmbbpimihnojeaa
