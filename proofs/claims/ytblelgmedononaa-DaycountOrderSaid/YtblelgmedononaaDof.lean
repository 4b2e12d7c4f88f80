/- Walks: date: known, Length, Of, AddMonths. -/
import Derived.Test.YtblelgmedononaaDprg
namespace Go.Proofs.Ytblelgmedononaa
open Go.RowKit
namespace Z
def okY (y m : Int) : Prop := 1900 ≤ y ∧ y ≤ 2173 ∧ 1 ≤ m ∧ m ≤ 12
instance (y m : Int) : Decidable (okY y m) := by unfold okY; infer_instance
/-- When date.Of answers a day. -/
def okD (y m d : Int) : Prop := okY y m ∧ 1 ≤ d ∧ d ≤ len y m ∧ fst y + cum y m + d - 1 ≤ 99999
instance (y m d : Int) : Decidable (okD y m d) := by unfold okD; infer_instance
def ofV (y m d : Int) : Int := if okD y m d then fst y + cum y m + d - 1 else 0
def ofE (y m d : Int) : Int := if okD y m d then 0 else 2
theorem of_ok {y m d : Int} (h : okD y m d) : ofV y m d = fst y + cum y m + d - 1 ∧ ofE y m d = 0 := by unfold ofV ofE; rw [if_pos h, if_pos h]; exact ⟨rfl, rfl⟩
theorem of_no {y m d : Int} (h : ¬ okD y m d) : ofV y m d = 0 ∧ ofE y m d = 2 := by unfold ofV ofE; rw [if_neg h, if_neg h]; exact ⟨rfl, rfl⟩
theorem okD.dt {y m d : Int} (h : okD y m d) : Dt (ofV y m d) y m d := by
  obtain ⟨⟨a, b, c, e⟩, f, g, i⟩ := h
  exact ⟨a, b, c, e, f, g, (of_ok ⟨⟨a, b, c, e⟩, f, g, i⟩).1⟩
theorem fst_in {y : Int} (h0 : 1900 ≤ y) (h1 : y ≤ 2173) : 0 ≤ fst y ∧ fst y ≤ 100000 := by unfold fst lp; omega
end Z
theorem known_any (y : Int) (w : World) :
    Calls Try.prog 54 #[.int .i64 y] w fun e w' => e = .returned (.bool (decide (1900 ≤ y) && decide (y ≤ 2173))) ∧ w = w' := by
  go_enter Try.func54, Try.ntmps54
  go_wp2_with fail
  all_goals (go_ret; refine ⟨ret_bool ?_, rfl⟩; rw [Bool.eq_iff_iff]; simp; try omega)
theorem lens_ix (y m : Int) (h0 : 1 ≤ m) (h1 : m ≤ 12) (w : World) : (Instr.index 52 (.agg (lensA (Z.len y 2))) (.int .i64 m)).run Try.prog w = .ok (.int .i64 (Z.len y m)) w := by
  rcases Z.months h0 h1 with rfl | rfl | rfl | rfl | rfl | rfl | rfl | rfl | rfl | rfl | rfl | rfl <;> kernel_rfl
set_option maxHeartbeats 400000 in
theorem length_any (y m : Int) (w : World) :
    Calls Try.prog 32 #[.int .i64 y, .int .i64 m] w fun e w' => e = .returned (.tuple #[.int .i64 (if Z.okY y m then Z.len y m else 0), .int .i64 (if Z.okY y m then 0 else 2)]) ∧ Below w.heap.size w w' := by
  by_cases hk : Z.okY y m
  · rw [if_pos hk, if_pos hk]
    obtain ⟨k0, k1, k2, k3⟩ := hk
    have hb : (decide (1900 ≤ y) && decide (y ≤ 2173)) = true := by simp [k0, k1]
    have hix := lens_ix y m k2 k3
    go_enter Try.func32, Try.ntmps32
    go_wp2_with fail
    refine (known_any _ _).mono ?_
    rintro e w1 ⟨rfl, rfl⟩
    rw [hb]
    go_wp2_with fail
    refine (lengths_any _ _ (by omega) (by omega)).mono ?_
    rintro e w1 ⟨rfl, hb1⟩
    go_wp2_with fail
    go_ret2
    exact ⟨rfl, hb1⟩
  · rw [if_neg hk, if_neg hk]
    unfold Z.okY at hk
    cases hb : (decide (1900 ≤ y) && decide (y ≤ 2173))
    · go_enter Try.func32, Try.ntmps32
      go_wp2_with fail
      refine (known_any _ _).mono ?_
      rintro e w1 ⟨rfl, rfl⟩
      rw [hb]
      go_wp2_with fail
      go_ret2
      exact ⟨rfl, Below.refl _ _⟩
    · have hy : 1900 ≤ y ∧ y ≤ 2173 := by simpa using hb
      by_cases hm : m < 1
      · go_enter Try.func32, Try.ntmps32
        go_wp2_with fail
        refine (known_any _ _).mono ?_
        rintro e w1 ⟨rfl, rfl⟩
        rw [hb]
        go_wp2_with fail
        go_ret2
        exact ⟨rfl, Below.refl _ _⟩
      · have hm2 : 12 < m := by omega
        go_enter Try.func32, Try.ntmps32
        go_wp2_with fail
        refine (known_any _ _).mono ?_
        rintro e w1 ⟨rfl, rfl⟩
        rw [hb]
        go_wp2_with fail
        go_ret2
        exact ⟨rfl, Below.refl _ _⟩
theorem Z.cum_0 (y : Int) : Z.cum y 0 = 0 := by simp [Z.cum, Z.cumB]
theorem lens_at0 (y : Int) (k : Nat) (h1 : k ≤ 12) : (lensA (Z.len y 2))[k]? = some (.int .i64 (Z.cum y (k + 1 : Nat) - Z.cum y k)) := by
  rcases Nat.eq_zero_or_pos k with rfl | h0
  · have e : Z.cum y ((0 + 1 : Nat) : Int) - Z.cum y ((0 : Nat) : Int) = 0 := by
      show Z.cum y 1 - Z.cum y 0 = 0
      rw [Z.cum_one, Z.cum_0]; rfl
    rw [e]; rfl
  · rw [lensA_at y k h0 h1]
    have := Z.cum_succ (y := y) (m := k) (by omega) (by omega)
    have e : ((k + 1 : Nat) : Int) = (k : Int) + 1 := by omega
    rw [e, this]
    congr 2; omega
theorem lens_slice (B : Nat) (m : Int) (h0 : 0 ≤ m) (h1 : m ≤ 13) (W : World) : (Instr.sliceAt 52 (.pointer (some ⟨B, 0, none⟩)) none (some (.int .i64 m)) none).run Try.prog W = .ok (.slice (some ⟨B, 0, none⟩) m.toNat 13) W := by
  have e : Try.prog.arrayLen 52 = 13 := by kernel_rfl
  rw [run_sliceAt_array_h W 52 _ (by kernel_rfl) .i64 m h0 (by rw [e]; exact h1)]
  have e2 : (sizeOf (Try.prog.elem 52)).run Try.prog W = .ok 1 W := by kernel_rfl
  rw [e2]
  simp [slicedAt, e, Addr.add]
set_option maxRecDepth 100000 in
set_option maxHeartbeats 1000000 in
theorem dof_any (y m d : Int) (w : World) (_hy0 : -9223372036854775808 ≤ y) (_hy1 : y ≤ 9223372036854775807) (_hm0 : -9223372036854775808 ≤ m) (_hm1 : m ≤ 9223372036854775807) (_hd0 : -9223372036854775808 ≤ d) (_hd1 : d ≤ 9223372036854775807) :
    Calls Try.prog 17 #[.int .i64 y, .int .i64 m, .int .i64 d] w fun e w' => e = .returned (.tuple #[.int .i64 (Z.ofV y m d), .int .i64 (Z.ofE y m d)]) ∧ Below w.heap.size w w' := by
  have LN := Lib.hid (length_any y m w)
  by_cases hk : Z.okY y m
  · rw [if_pos hk, if_pos hk] at LN
    by_cases hd : 1 ≤ d ∧ d ≤ Z.len y m
    · obtain ⟨k0, k1, k2, k3⟩ := id hk
      obtain ⟨d0, d1⟩ := id hd
      have hlb := Z.len_ge y m
      have hf := Z.fst_in k0 k1
      have HR : Hid (∀ v : Int, v = Z.fst y + Z.cum y m + d - 1 → (v ≤ 99999 → Z.ofV y m d = v ∧ Z.ofE y m d = 0) ∧ (99999 < v → Z.ofV y m d = 0 ∧ Z.ofE y m d = 2)) := fun v hv => by
        subst hv
        exact ⟨fun h => Z.of_ok ⟨hk, hd.1, hd.2, h⟩, fun h => Z.of_no (fun hh => by have := hh.2.2.2; omega)⟩
      have hsl := fun (B : Nat) (W : World) => lens_slice B m (by omega) (by omega) W
      generalize Z.ofV y m d = rv at *
      generalize Z.ofE y m d = re at *
      clear hk hd
      go_enter Try.func17, Try.ntmps17
      go_wp2_with fail
      refine LN.out.mono ?_
      rintro e w1 ⟨rfl, hb1⟩
      clear LN
      go_wp2_with fail
      refine (first_any _ _ (by omega) (by omega)).mono ?_
      rintro e w2 ⟨rfl, rfl⟩
      go_wp2_with fail
      refine (lengths_any _ _ (by omega) (by omega)).mono ?_
      rintro e w2 ⟨rfl, hb2⟩
      have hcell : ∀ k : Nat, k ≤ 12 → (w2.alloc (.cells (lensA (Z.len y 2)) 52)).cell? ⟨w2.heap.size, k, none⟩ = some (.int .i64 (Z.cum y (k + 1 : Nat) - Z.cum y k)) := fun k hk => by
        rw [cell_of_row _ w2.heap.size k _ 52 (0, 0) (heap_alloc_new w2 _)]
        exact lens_at0 y k hk
      have c2 := hb1.trans (hb2.mono hb1.size)
      have hbW := c2.trans ((Below.refl _ w2).alloc c2.size (.cells (lensA (Z.len y 2)) 52))
      generalize hfe : Z.len y 2 = f at hcell hbW ⊢
      unfold lensA at hcell hbW ⊢
      clear hb1 hb2 c2
      go_wp2_with fail
      generalize (w2.alloc (.cells #[.int .i64 0, .int .i64 31, .int .i64 f, .int .i64 31, .int .i64 30, .int .i64 31, .int .i64 30, .int .i64 31, .int .i64 31, .int .i64 30, .int .i64 31, .int .i64 30, .int .i64 31] 52)) = W at hcell hbW ⊢
      generalize w2.heap.size = B at hcell ⊢
      clear hfe
      have HCL := Lib.hid hcell
      clear hcell
      go_loop [10, 41] (fun dv kv => ∃ (k : Nat) (v : Int), dv = .int .i64 v ∧ kv = .int .i64 k ∧ (k : Int) ≤ m ∧ v = Z.fst y + d - 1 + Z.cum y k) (fun _ kv => 13 - (intOf kv).toNat)
      case atStart => exact ⟨0, Z.fst y + d - 1, rfl, rfl, by omega, by have := Z.cum_0 y; show _ = _ + Z.cum y 0; omega⟩
      case round =>
        obtain ⟨k, v, rfl, rfl, hkm, hv⟩ := hrel
        have cb := Z.cum_ge y k
        have cb2 := Z.cum_ge y ((k : Int) + 1)
        by_cases hlt : (k : Int) < m
        · have hr := HCL.out k (by omega)
          go_wp2_with fail
          go_round
          case rel => exact ⟨k + 1, Z.fst y + d - 1 + Z.cum y (k + 1 : Nat), by rw [show ((k + 1 : Nat) : Int) = (k : Int) + 1 from by omega]; exact congrArg (Value.int .i64) (by omega), by go_num, by omega, rfl⟩
          case measure => simp [intOf]; omega
        · have hm : (k : Int) = m := by omega
          rw [hm] at hv
          obtain ⟨R1, R2⟩ := HR.out v (by omega)
          have R1 := Lib.hid R1
          have R2 := Lib.hid R2
          by_cases hbig : 99999 < v
          · go_wp2_with fail
            go_ret2
            obtain ⟨e1, e2⟩ := R2.out hbig
            subst e1 e2
            exact ⟨rfl, hbW⟩
          · go_wp2_with fail
            go_ret2
            obtain ⟨e1, e2⟩ := R1.out (by omega)
            subst e1 e2
            exact ⟨rfl, hbW⟩
    · have e := Z.of_no (y := y) (m := m) (d := d) (fun h => hd ⟨h.2.1, h.2.2.1⟩)
      rw [e.1, e.2]
      clear e hk
      by_cases h1 : d < 1
      · go_enter Try.func17, Try.ntmps17
        go_wp2_with fail
        refine LN.out.mono ?_
        rintro e w1 ⟨rfl, hb1⟩
        go_wp2_with fail
        go_ret2
        exact ⟨rfl, hb1⟩
      · have h2 : Z.len y m < d := by omega
        clear hd
        go_enter Try.func17, Try.ntmps17
        go_wp2_with fail
        refine LN.out.mono ?_
        rintro e w1 ⟨rfl, hb1⟩
        go_wp2_with fail
        go_ret2
        exact ⟨rfl, hb1⟩
  · rw [if_neg hk, if_neg hk] at LN
    have e := Z.of_no (y := y) (m := m) (d := d) (fun h => hk h.1)
    rw [e.1, e.2]
    clear e hk
    go_enter Try.func17, Try.ntmps17
    go_wp2_with fail
    refine LN.out.mono ?_
    rintro e w1 ⟨rfl, hb1⟩
    go_wp2_with fail
    go_ret2
    exact ⟨rfl, hb1⟩
/-- AddMonths, not kept at the end of a month. -/
def AddmRet (day n : Int) (w : World) (e : Ending) (w' : World) : Prop := ∃ v k, e = .returned (.tuple #[.int .i64 v, .int .i64 k]) ∧ Below w.heap.size w w' ∧
  (k = 0 → Z.inR v = true ∧ ∃ y m d p q, Z.Dt day y m d ∧ Z.Dt v p q (min d (Z.len p q)) ∧ 12 * p + q = 12 * y + m + n ∧ -4000 ≤ n ∧ n ≤ 4000)
set_option maxRecDepth 100000 in
set_option maxHeartbeats 1000000 in
theorem addm_any (day n : Int) (w : World) (_hd0 : -9223372036854775808 ≤ day) (_hd1 : day ≤ 9223372036854775807) (_hn0 : -9223372036854775808 ≤ n) (_hn1 : n ≤ 9223372036854775807) :
    Calls Try.prog 19 #[.int .i64 day, .int .i64 n, .bool false] w (AddmRet day n w) := by
  by_cases hin : 0 ≤ day ∧ day ≤ 99999
  · by_cases n0 : n < -4000
    · go_enter Try.func19, Try.ntmps19
      go_wp2_with fail
      refine (parts_any _ _ hin.1 hin.2).mono ?_
      rintro e w1 ⟨y, m, d, hA, rfl, hb1⟩
      clear hA
      go_wp2_with fail
      go_ret2
      exact ⟨_, _, rfl, hb1, fun h => absurd h (by decide)⟩
    by_cases n1 : 4000 < n
    · go_enter Try.func19, Try.ntmps19
      go_wp2_with fail
      refine (parts_any _ _ hin.1 hin.2).mono ?_
      rintro e w1 ⟨y, m, d, hA, rfl, hb1⟩
      clear hA
      go_wp2_with fail
      go_ret2
      exact ⟨_, _, rfl, hb1, fun h => absurd h (by decide)⟩
    go_enter Try.func19, Try.ntmps19
    go_wp2_with fail
    refine (parts_any _ _ hin.1 hin.2).mono ?_
    rintro e w1 ⟨y, m, d, hA, rfl, hb1⟩
    have y0 := hA.y0; have y1 := hA.y1; have m0 := hA.m0; have m1 := hA.m1; have d0 := hA.d0; have d1 := hA.d1
    have hl := (Z.len_ge y m).2
    have HA := Lib.hid hA
    have hix := lens_ix y m m0 m1
    clear hA
    have hd31 : d ≤ 31 := by omega
    clear d1 hl
    go_wp2_with fail
    refine (lengths_any _ _ (by omega) (by omega)).mono ?_
    rintro e w2 ⟨rfl, hb2⟩
    have c2 := hb1.trans (hb2.mono hb1.size)
    clear hb1 hb2
    obtain ⟨q, hq⟩ : ∃ q, 12 * (y - 1900) + m - 1 + n = q := ⟨_, rfl⟩
    by_cases q0 : q < 0
    · go_wp2_with fail
      go_ret2
      exact ⟨_, _, rfl, c2, fun h => absurd h (by decide)⟩
    by_cases q1 : 273 < q / 12
    · go_wp2_with fail
      go_ret2
      exact ⟨_, _, rfl, c2, fun h => absurd h (by decide)⟩
    have hix2 := lens_ix (1900 + q / 12) (q % 12 + 1) (by omega) (by omega)
    go_wp2_with fail
    refine (lengths_any _ _ (by omega) (by omega)).mono ?_
    rintro e w3 ⟨rfl, hb3⟩
    have c3 := c2.trans (hb3.mono c2.size)
    have hl2 := Z.len_ge (1900 + q / 12) (q % 12 + 1)
    clear c2 hb3 hix
    by_cases hlt : Z.len (1900 + q / 12) (q % 12 + 1) < d
    · skip
      have O := Lib.hid (dof_any (1900 + q / 12) (q % 12 + 1) (Z.len (1900 + q / 12) (q % 12 + 1)) w3 (by omega) (by omega) (by omega) (by omega) (by omega) (by omega))
      have hmin : min d (Z.len (1900 + q / 12) (q % 12 + 1)) = (Z.len (1900 + q / 12) (q % 12 + 1)) := by omega
      by_cases hok : Z.okD (1900 + q / 12) (q % 12 + 1) (Z.len (1900 + q / 12) (q % 12 + 1))
      · have hdt := Lib.hid hok.dt
        have hv : Z.inR (Z.ofV (1900 + q / 12) (q % 12 + 1) (Z.len (1900 + q / 12) (q % 12 + 1))) = true := by
          have e := (Z.of_ok hok).1
          have f := Z.fst_in hok.1.1 hok.1.2.1
          have g := Z.cum_ge (1900 + q / 12) (q % 12 + 1)
          have h1 := hok.2.1
          have h2 := hok.2.2.2
          unfold Z.inR
          simp
          omega
        rw [(Z.of_ok hok).2] at O
        have hv := Lib.hid hv
        have hmin := Lib.hid hmin
        clear hok
        generalize Z.ofV (1900 + q / 12) (q % 12 + 1) (Z.len (1900 + q / 12) (q % 12 + 1)) = v at *
        go_wp2_with fail
        refine O.out.mono ?_
        rintro e w4 ⟨rfl, hb4⟩
        have c4 := c3.trans (hb4.mono c3.size)
        go_wp2_with fail
        go_ret2
        exact ⟨v, 0, rfl, c4, fun _ => ⟨hv.out, y, m, d, _, _, HA.out, by rw [hmin.out]; exact hdt.out, by omega, by omega, by omega⟩⟩
      · rw [(Z.of_no hok).1, (Z.of_no hok).2] at O
        clear hok hmin
        go_wp2_with fail
        refine O.out.mono ?_
        rintro e w4 ⟨rfl, hb4⟩
        have c4 := c3.trans (hb4.mono c3.size)
        go_wp2_with fail
        go_ret2
        exact ⟨_, _, rfl, c4, fun h => absurd h (by decide)⟩
    · skip
      have O := Lib.hid (dof_any (1900 + q / 12) (q % 12 + 1) d w3 (by omega) (by omega) (by omega) (by omega) (by omega) (by omega))
      have hmin : min d (Z.len (1900 + q / 12) (q % 12 + 1)) = d := by omega
      by_cases hok : Z.okD (1900 + q / 12) (q % 12 + 1) d
      · have hdt := Lib.hid hok.dt
        have hv : Z.inR (Z.ofV (1900 + q / 12) (q % 12 + 1) d) = true := by
          have e := (Z.of_ok hok).1
          have f := Z.fst_in hok.1.1 hok.1.2.1
          have g := Z.cum_ge (1900 + q / 12) (q % 12 + 1)
          have h1 := hok.2.1
          have h2 := hok.2.2.2
          unfold Z.inR
          simp
          omega
        rw [(Z.of_ok hok).2] at O
        have hv := Lib.hid hv
        have hmin := Lib.hid hmin
        clear hok
        generalize Z.ofV (1900 + q / 12) (q % 12 + 1) d = v at *
        go_wp2_with fail
        refine O.out.mono ?_
        rintro e w4 ⟨rfl, hb4⟩
        have c4 := c3.trans (hb4.mono c3.size)
        go_wp2_with fail
        go_ret2
        exact ⟨v, 0, rfl, c4, fun _ => ⟨hv.out, y, m, d, _, _, HA.out, by rw [hmin.out]; exact hdt.out, by omega, by omega, by omega⟩⟩
      · rw [(Z.of_no hok).1, (Z.of_no hok).2] at O
        clear hok hmin
        go_wp2_with fail
        refine O.out.mono ?_
        rintro e w4 ⟨rfl, hb4⟩
        have c4 := c3.trans (hb4.mono c3.size)
        go_wp2_with fail
        go_ret2
        exact ⟨_, _, rfl, c4, fun h => absurd h (by decide)⟩
  · go_enter Try.func19, Try.ntmps19
    go_wp2_with fail
    refine (parts_out _ _ (by omega)).mono ?_
    rintro e w1 ⟨rfl, rfl⟩
    go_wp2_with fail
    go_ret2
    exact ⟨_, _, rfl, Below.refl _ _, fun h => absurd h (by decide)⟩
end Go.Proofs.Ytblelgmedononaa
