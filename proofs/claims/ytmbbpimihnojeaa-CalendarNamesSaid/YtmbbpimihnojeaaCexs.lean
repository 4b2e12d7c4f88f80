/- Plain: the further examples of the calendar chapter; a slice that the law lays. -/
import Derived.Test.YtmbbpimihnojeaaCalive
import Derived.Test.YtmbbpimihnojeaaCappr
import Derived.Test.YtmbbpimihnojeaaZjoinb
namespace Go.Proofs.Ytmbbpimihnojeaa
open Go.RowKit
namespace Z
theorem xb1 : business 96 [46413] 46412 = (true, 0) := by decide +kernel
theorem xb2 : business 96 [46413] 46413 = (false, 0) := by decide +kernel
theorem xb3 : business 96 [46413] 46415 = (false, 0) := by decide +kernel
theorem xb4 : business 96 [46413] 100000 = (false, 2) := by decide +kernel
theorem cal_0 : calB 0 [0] = true := by decide
theorem cal_9 : calB 0 [99999] = true := by decide
theorem xr1 : roll 96 [46413] 0 5 = (0, 2) := roll_arg ex_ok (.inr (by decide))
theorem xr2 : roll 0 [0] 0 4 = (1, 0) := by
  rw [roll_ok cal_0 (by decide) (by decide), rollS_4c (nth_out (by decide) (by decide +kernel))]
  exact nth_at (k := 1) (by decide +kernel) (by decide +kernel) (by decide) (by decide +kernel)
theorem xr3 : roll 0 [0] 0 2 = (0, 40) := by
  rw [roll_ok cal_0 (by decide) (by decide), rollS_2]
  exact nth_out (by decide) (by decide +kernel)
theorem xr4 : roll 0 [99999] 99999 1 = (0, 40) := by
  rw [roll_ok cal_9 (by decide) (by decide), rollS_1]
  exact nth_out (by decide) (by decide +kernel)
theorem xr5 : roll 0 [99999] 99999 3 = (99998, 0) := by
  rw [roll_ok cal_9 (by decide) (by decide), rollS_3c (nth_out (by decide) (by decide +kernel))]
  exact nth_at (k := 1) (by decide +kernel) (by decide +kernel) (by decide) (by decide +kernel)
theorem xr6 : roll 96 [46413] 46413 0 = (46413, 0) := by rw [roll_ok ex_ok (by decide) (by decide), rollS_0]
theorem xa1 : add 96 [46413] 5 100000 = (0, 2) := add_arg ex_ok (.inr (.inr (by decide)))
theorem xa2 : add 96 [46413] 99999 1 = (0, 40) := by
  rw [add_ok ex_ok (by decide) (by decide) (by decide)]
  unfold addS
  rw [if_pos (by decide)]
  exact nth_out (by decide) (by decide +kernel)
theorem xa3 : add 96 [46413] 0 (-1) = (0, 40) := by
  rw [add_ok ex_ok (by decide) (by decide) (by decide)]
  unfold addS
  rw [if_neg (by decide), if_pos (by decide)]
  exact nth_out (by decide) (by decide +kernel)
theorem xa4 : add 96 [46413] 46415 0 = (46417, 0) := by
  rw [add_ok ex_ok (by decide) (by decide) (by decide)]
  unfold addS
  rw [if_neg (by decide), if_neg (by decide)]
  exact nth_at (k := 2) (by decide +kernel) (by decide +kernel) (by decide) (by decide +kernel)
theorem xc1 : count 96 [46413] 46418 46411 = (-4, 0) := by
  unfold count
  rw [if_neg (by rw [ex_ok]; decide), if_neg (by decide)]
  have := ex_count
  unfold exP at this
  rw [show F (opn 96 [46413]) 46411 - F (opn 96 [46413]) 46418 = -4 by omega]
theorem xc2 : count 96 [46413] 0 100000 = (0, 2) := by
  unfold count
  rw [if_neg (by rw [ex_ok]; decide), if_pos (by decide)]
theorem xJ : J [46413] [5, 46413] = [5, 46413] := by
  refine asc_uniq _ _ (J_asc _ _) (by decide) fun x => ?_
  rw [J_mem]
  simp
  omega
theorem xj1E : joinE 7 120 [] [] = 6 := by
  unfold joinE
  rw [if_pos (by decide), if_pos (by decide +kernel)]
theorem xj1W : joinW 7 120 [] [] = 0 := by unfold joinW; rw [xj1E]; rfl
theorem xj1H : joinH 7 120 [] [] = [] := by unfold joinH; rw [xj1E]; rfl
theorem xj2E : joinE 96 16 [46413] [5, 46413] = 0 := by
  unfold joinE
  rw [if_pos (by decide), if_neg (by decide +kernel), xJ, if_neg (by decide)]
theorem xj2W : joinW 96 16 [46413] [5, 46413] = 112 := by unfold joinW; rw [xj2E]; decide +kernel
theorem xj2H : joinH 96 16 [46413] [5, 46413] = [5, 46413] := by unfold joinH; rw [xj2E, if_pos rfl, xJ]
end Z
theorem xk1 : cerr 127 [] = 8 := by decide
theorem xk2 : cerr 0 [5, 5] = 8 := by decide
theorem xk3 : cerr 0 [-1] = 8 := by decide
theorem xk4 : cerr 126 [] = 0 := by decide
/-- A slice of one int, or of two, that was just laid. -/
theorem si_laid1 (w : World) (x : Int) : SI (w.alloc (.cells #[.int .i64 x] 3)) (.slice (some ⟨w.heap.size, 0, none⟩) 1 1) [x] ∧ Below w.heap.size w (w.alloc (.cells #[.int .i64 x] 3)) := by
  refine ⟨⟨_, 1, rfl, Nat.le_refl _, by decide, fun _ => ⟨_, 0, rfl, by simp, fun i d hd => ?_⟩⟩, (Below.refl _ _).alloc (Nat.le_refl _) _⟩
  match i, hd with
  | 0, hd => injection hd with hd; subst hd; simp [go_sem]
  | i + 1, hd => simp at hd
theorem si_laid2 (w : World) (x y : Int) : SI (w.alloc (.cells #[.int .i64 x, .int .i64 y] 3)) (.slice (some ⟨w.heap.size, 0, none⟩) 2 2) [x, y] ∧ Below w.heap.size w (w.alloc (.cells #[.int .i64 x, .int .i64 y] 3)) := by
  refine ⟨⟨_, 2, rfl, Nat.le_refl _, by decide, fun _ => ⟨_, 0, rfl, by simp, fun i d hd => ?_⟩⟩, (Below.refl _ _).alloc (Nat.le_refl _) _⟩
  match i, hd with
  | 0, hd => injection hd with hd; subst hd; simp [go_sem]
  | 1, hd => injection hd with hd; subst hd; simp [go_sem]
  | i + 2, hd => simp at hd
theorem nil0_some (a : Addr) (n c : Nat) : Nil0 (.slice (some a) n c) := by intro _ _ h; cases h
theorem nil0_nil : Nil0 (.slice none 0 0) := by intro _ _ h; cases h; rfl
theorem kbus {wk D : Int} {v : Value} {hs : List Int} {b : Bool} {k : Int} (W : World) (h : SI W v hs) (h0 : 0 ≤ wk) (hx : Z.business wk hs D = (b, k)) :
    Calls Try.prog 19 #[.agg #[.int .u8 wk, v], .int .i64 D] W fun e w' => e = .returned (.tuple #[.bool b, .int .i64 k]) ∧ Below W.heap.size W w' := by
  have := cbusiness_any wk v hs D W h h0
  unfold RetB at this
  rw [hx] at this
  exact this
theorem krol {wk D r : Int} {v : Value} {hs : List Int} {d k : Int} (W : World) (h : SI W v hs) (h0 : 0 ≤ wk) (hr : 0 ≤ r) (hx : Z.roll wk hs D r = (d, k)) :
    Calls Try.prog 16 #[.agg #[.int .u8 wk, v], .int .i64 D, .int .u8 r] W fun e w' => e = .returned (.tuple #[.int .i64 d, .int .i64 k]) ∧ Below W.heap.size W w' := by
  have := croll_any wk v hs D r W h h0 hr
  unfold Ret2 at this
  rw [hx] at this
  exact this
theorem kadd {wk D n : Int} {v : Value} {hs : List Int} {d k : Int} (W : World) (h : SI W v hs) (h0 : 0 ≤ wk) (hx : Z.add wk hs D n = (d, k)) :
    Calls Try.prog 12 #[.agg #[.int .u8 wk, v], .int .i64 D, .int .i64 n] W fun e w' => e = .returned (.tuple #[.int .i64 d, .int .i64 k]) ∧ Below W.heap.size W w' := by
  have := cadd_any wk v hs D n W h h0
  unfold Ret2 at this
  rw [hx] at this
  exact this
theorem kcnt {wk a b : Int} {v : Value} {hs : List Int} {d k : Int} (W : World) (h : SI W v hs) (h0 : 0 ≤ wk) (hx : Z.count wk hs a b = (d, k)) :
    Calls Try.prog 14 #[.agg #[.int .u8 wk, v], .int .i64 a, .int .i64 b] W fun e w' => e = .returned (.tuple #[.int .i64 d, .int .i64 k]) ∧ Below W.heap.size W w' := by
  have := ccount_any wk v hs a b W h h0
  unfold CountRet at this
  rw [hx] at this
  exact this
theorem kchk {wk k : Int} {v : Value} {hs : List Int} (W : World) (h : SI W v hs) (hx : cerr wk hs = k) :
    Calls Try.prog 25 #[.agg #[.int .u8 wk, v]] W fun e w' => e = .returned (.int .i64 k) ∧ Below W.heap.size W w' := by
  have := ccheck_any wk v hs W h
  rw [hx] at this
  exact this
theorem kjoin {wa wb : Int} {va vb : Value} {ha hb H : List Int} {WK E : Int} (W : World) (sa : SI W va ha) (sb : SI W vb hb) (na : Nil0 va) (nb : Nil0 vb) (e1 : Z.joinE wa wb ha hb = E) (e2 : Z.joinW wa wb ha hb = WK) (e3 : Z.joinH wa wb ha hb = H) :
    Calls Try.prog 22 #[.agg #[.int .u8 wa, va], .agg #[.int .u8 wb, vb]] W fun e w' => ∃ A c, e = .returned (.tuple #[.agg #[.int .u8 WK, .slice A H.length c], .int .i64 E]) ∧ SI w' (.slice A H.length c) H ∧ Below W.heap.size W w' := by
  refine (join_any wa wb va vb ha hb W sa sb na nb).mono ?_
  rintro e w' ⟨v, rfl, hO, hb⟩
  rw [e1, e2]
  rw [e3] at hO
  obtain ⟨A, c, rfl⟩ := hO.shape
  exact ⟨A, c, rfl, hO.si, hb⟩
end Go.Proofs.Ytmbbpimihnojeaa
