/- Walks: rational.Parts, Make, Of, Ratio. -/
import Derived.Test.YthafdckomhdlbaaQa
import Derived.Test.YthafdckomhdlbaaIrev
namespace Go.Proofs.Ythafdckomhdlbaa
open Go.RowKit

theorem parts_bad (s : ByteArray) (w : World) (hv : HasV w) (hs : s.size ≤ 100000) (h : Z.rchk s ≠ 0) :
    Calls Try.prog 12 #[.string s] w fun e w' => e = .returned (.tuple #[.string ⟨#[]⟩, .string ⟨#[]⟩, .int .i64 (Z.rchk s)]) ∧ Below w.heap.size w w' := by
  have C := Lib.hid (qcheck_any s w hv hs)
  unfold QchkRet at C
  generalize Z.rchk s = k at *
  have hk : (k != 0) = true := by simpa using h
  clear h hv
  go_enter Try.func12, Try.ntmps12
  go_wp2_with fail
  refine C.out.mono ?_
  rintro e w1 ⟨rfl, hb1⟩
  go_wp2_with fail
  go_ret3
  exact ⟨rfl, hb1⟩
theorem parts_ok (s : ByteArray) (w : World) (hv : HasV w) (hs : s.size ≤ 100000) (h : Z.rchk s = 0) :
    Calls Try.prog 12 #[.string s] w fun e w' => e = .returned (.tuple #[.string (Z.rN s), .string (Z.rD1 s), .int .i64 0]) ∧ Below w.heap.size w w' := by
  have C := Lib.hid (qcheck_any s w hv hs)
  have SP := Lib.hid (fun (W : World) (h : HasV W) => split_any s W h hs)
  have HV := Lib.hid hv
  unfold QchkRet at C
  unfold SplitRet at SP
  unfold Z.rD1
  rw [h] at C
  clear h hv
  generalize Z.rN s = N at *
  generalize Z.rD s = D at *
  cases hf : Z.rF s
  all_goals
    rw [hf] at SP
    clear hf
    go_enter Try.func12, Try.ntmps12
    go_wp2_with fail
    refine C.out.mono ?_
    rintro e w1 ⟨rfl, hb1⟩
    have hv1 := HV.out.below hb1
    have HV1 := Lib.hid hv1
    clear hv1
    go_wp2_with fail
    refine (SP.out _ HV1.out).mono ?_
    rintro e w' ⟨rfl, n, rfl⟩
    go_wp2_with fail
    go_ret3
    exact ⟨rfl, hb1.trans (below_of_drewN _ _ _)⟩
def MakeRet (a b : ByteArray) (w : World) (e : Ending) (w' : World) : Prop := e = .returned (.tuple #[.string (Z.makeS a b), .int .i64 (Z.makeE a b)]) ∧ Below w.heap.size w w'
theorem make_bad {a b : ByteArray} {w w' : World} (h : Z.bothE a b ≠ 0) (hb : Below w.heap.size w w') : MakeRet a b w (.returned (.tuple #[.string ⟨#[]⟩, .int .i64 (Z.bothE a b)])) w' := by
  unfold MakeRet Z.makeS Z.makeE
  rw [if_neg h, if_neg h]; exact ⟨rfl, hb⟩
theorem make_zero {a b : ByteArray} {w w' : World} (h : Z.bothE a b = 0) (hy : Z.ival b.data.toList = 0) (hb : Below w.heap.size w w') : MakeRet a b w (.returned (.tuple #[.string ⟨#[]⟩, .int .i64 16])) w' := by
  unfold MakeRet Z.makeS Z.makeE
  rw [if_pos h, if_pos hy]; exact ⟨rfl, hb⟩
theorem make_ok {a b : ByteArray} {w w' : World} {q : Rat} (h : Z.bothE a b = 0) (hy : Z.ival b.data.toList ≠ 0) (hq : Rat.divInt (Z.ival a.data.toList) (Z.ival b.data.toList) = q) (hb : Below w.heap.size w w') :
    MakeRet a b w (.returned (.tuple #[.string (Z.Q q), .int .i64 0])) w' := by
  subst hq
  unfold MakeRet Z.makeS Z.makeE
  rw [if_pos h, if_neg hy, if_pos rfl]; exact ⟨rfl, hb⟩
namespace Z
theorem lt_of_mags {a : ByteArray} {n : Nat} (hc : canon a.data.toList = true) (hl : (mags a.data.toList).length ≤ n) : Lt n (ival a.data.toList) := by
  unfold Lt
  have hp := canon_parts hc
  have h1 : natOf (mags a.data.toList) < 10 ^ (mags a.data.toList).length := natOf_lt (List.all_eq_true.1 hp.all)
  rw [natAbs_ival]
  exact Nat.lt_of_lt_of_le h1 (Nat.pow_le_pow_right (by omega) hl)
/-- A string without error is an integer's text, of at most 1,000 digits. -/
theorem int_of {a : ByteArray} (h : chk a.data.toList = 0) : ∃ x, a = S x ∧ Lt 1000 x :=
  ⟨_, (S_of (chk_zero_iff.1 h).1).symm, lt_of_mags (chk_zero_iff.1 h).1 (chk_zero_iff.1 h).2⟩
theorem S_minus {z : Int} (h : 0 ≤ z) (h0 : z ≠ 0) : (⟨#[45]⟩ : ByteArray) ++ S z = S (-z) := by
  apply ba_of
  rw [ByteArray.data_append, Array.toList_append, S_data, S_data]
  unfold txt
  rw [if_neg (by omega), if_pos (by omega), Int.natAbs_neg]
  rfl
theorem S_size_le {n : Nat} {x : Int} (h : Lt n x) (hn : 0 < n) (hn' : n ≤ 1000) : (S x).size ≤ 1001 := by
  have h1 := chk_size (h.chk hn hn')
  rwa [← Lib.size_eq] at h1
theorem e49 (v : Int) : ((S v).toList == [49]) = decide (v = 1) := by
  by_cases h : v = 1
  · rw [h, S_one, Lib.toList_data]; rfl
  · have := S_beq h
    rw [S_one, Lib.toList_data ⟨#[49]⟩] at this
    rw [show ((S v).toList == [49]) = false from this]; simp [h]
theorem e48 (v : Int) : ((S v).toList == [48]) = decide (v = 0) := by
  by_cases h : v = 0
  · rw [h, S_zero, Lib.toList_data]; rfl
  · rw [S_ne_zero h]; simp [h]
end Z
set_option maxRecDepth 100000 in
set_option maxHeartbeats 4000000 in
theorem make_any (a b : ByteArray) (w : World) (ha : a.size ≤ maxLen) (hb : b.size ≤ maxLen) :
    Calls Try.prog 8 #[.string a, .string b] w (MakeRet a b w) := by
  by_cases h : Z.bothE a b = 0
  · obtain ⟨ca, cb⟩ := Z.bothE_zero h
    obtain ⟨x, rfl, hx⟩ := Z.int_of ca
    obtain ⟨y, rfl, hy⟩ := Z.int_of cb
    have C := gcdC hx hy rfl (by omega) (by omega) (by omega) (by omega)
    have hps := Z.S_pos y
    have hhd := Z.S_headF y
    have h48 := Z.e48 y
    have lg := Z.gcdI_le hx hy
    by_cases h0 : y = 0
    · have HF := Lib.hid (fun (w' : World) (hw : Below w.heap.size w w') => make_zero h (by rw [Z.ival_S]; exact h0) hw)
      rw [decide_eq_true h0] at h48
      clear ca cb h hx hy lg hhd hps h0
      generalize Z.S x = X at *
      generalize Z.S (Z.gcdI x y) = G at *
      generalize Z.S y = Y at *
      go_enter Try.func8, Try.ntmps8
      go_wp2_with fail
      refine (C.out _).mono ?_
      rintro e w1 ⟨rfl, hb1⟩
      go_wp2_with fail
      go_ret2
      exact HF.out _ hb1
    · have HF := Lib.hid (fun (q : Rat) (hq : _ = q) (w' : World) (hw : Below w.heap.size w w') => make_ok h (by rw [Z.ival_S]; exact h0) hq hw)
      rw [Z.ival_S, Z.ival_S] at HF
      obtain ⟨q, hq⟩ : ∃ q, Rat.divInt x y = q := ⟨_, rfl⟩
      have HFF := Lib.hid (HF.out q hq)
      have hg0 := Z.gcdI_ne (x := x) h0
      have hgn := Z.gcdI_nonneg x y
      rw [decide_eq_false h0] at h48
      have h49 := Z.e49 (q.den : Int)
      have hQ1 := Lib.hid (@Z.Q_one q)
      have hQ2 := Lib.hid (@Z.Q_frac q)
      have hdn : ((q.den : Int) = 1) ↔ q.den = 1 := by omega
      by_cases hneg : y < 0
      · have hp := Z.div_num_neg (x := x) hneg
        rw [hq] at hp
        have D1 := dmC hx lg.neg (by omega) hp.1.symm rfl (by omega) (by omega) (by omega) (by omega)
        have D2 := dmC hy lg.neg (by omega) hp.2.symm rfl (by omega) (by omega) (by omega) (by omega)
        have ln : (Z.S q.num).size ≤ 1001 := Z.S_size_le (n := 1000) (by rw [hp.1]; exact hx.of_le (Z.div_abs_le (by omega))) (by omega) (by omega)
        have ld : (Z.S (q.den : Int)).size ≤ 1001 := Z.S_size_le (n := 1000) (by rw [hp.2]; exact hy.of_le (Z.div_abs_le (by omega))) (by omega) (by omega)
        have hmn := Lib.hid (Z.S_minus hgn hg0)
        have lgs := Z.S_size_le lg (by omega) (by omega)
        simp only [decide_eq_true hneg] at hhd
        clear ca cb h hx hy lg hp HF hq hg0 hgn hneg h0
        generalize Z.S x = X at *
        generalize Z.S (Z.gcdI x y) = G at *
        generalize Z.S (-Z.gcdI x y) = G' at *
        generalize Z.S (x % -Z.gcdI x y) = R1 at *
        generalize Z.S (y % -Z.gcdI x y) = R2 at *
        generalize Z.S y = Y at *
        generalize Z.S q.num = N at *
        generalize Z.S (q.den : Int) = D at *
        have hh := hhd hps
        clear hhd
        by_cases hd : q.den = 1
        · rw [decide_eq_true (hdn.2 hd)] at h49
          have hQ := hQ1.out hd
          rw [hQ] at HFF
          clear hQ hd hdn hQ1 hQ2
          go_enter Try.func8, Try.ntmps8
          go_wp2_with fail
          refine (C.out _).mono ?_
          rintro e w1 ⟨rfl, hb1⟩
          go_wp2_with fail
          rw [hmn.out]
          refine (D1.out _).mono ?_
          rintro e w2 ⟨rfl, hb2⟩
          have c2 := hb1.trans (hb2.mono hb1.size)
          clear hb1 hb2
          go_wp2_with fail
          refine (D2.out _).mono ?_
          rintro e w3 ⟨rfl, hb3⟩
          have c3 := c2.trans (hb3.mono c2.size)
          clear c2 hb3
          go_wp2_with fail
          go_ret2
          exact HFF.out _ c3
        · rw [decide_eq_false (fun e => hd (hdn.1 e))] at h49
          have hQ := hQ2.out hd
          rw [hQ] at HFF
          clear hQ hd hdn hQ1 hQ2
          go_enter Try.func8, Try.ntmps8
          go_wp2_with fail
          refine (C.out _).mono ?_
          rintro e w1 ⟨rfl, hb1⟩
          go_wp2_with fail
          rw [hmn.out]
          refine (D1.out _).mono ?_
          rintro e w2 ⟨rfl, hb2⟩
          have c2 := hb1.trans (hb2.mono hb1.size)
          clear hb1 hb2
          go_wp2_with fail
          refine (D2.out _).mono ?_
          rintro e w3 ⟨rfl, hb3⟩
          have c3 := c2.trans (hb3.mono c2.size)
          clear c2 hb3
          go_wp2_with fail
          go_ret2
          exact HFF.out _ c3
      · have hp := Z.div_num_pos (x := x) (y := y) (by omega)
        rw [hq] at hp
        have D1 := dmC hx lg hg0 hp.1.symm rfl (by omega) (by omega) (by omega) (by omega)
        have D2 := dmC hy lg hg0 hp.2.symm rfl (by omega) (by omega) (by omega) (by omega)
        have ln : (Z.S q.num).size ≤ 1001 := Z.S_size_le (n := 1000) (by rw [hp.1]; exact hx.of_le (Z.div_abs_le hg0)) (by omega) (by omega)
        have ld : (Z.S (q.den : Int)).size ≤ 1001 := Z.S_size_le (n := 1000) (by rw [hp.2]; exact hy.of_le (Z.div_abs_le hg0)) (by omega) (by omega)
        simp only [decide_eq_false hneg] at hhd
        clear ca cb h hx hy lg hp HF hq hg0 hgn hneg h0
        generalize Z.S x = X at *
        generalize Z.S (Z.gcdI x y) = G at *
        generalize Z.S (x % Z.gcdI x y) = R1 at *
        generalize Z.S (y % Z.gcdI x y) = R2 at *
        generalize Z.S y = Y at *
        generalize Z.S q.num = N at *
        generalize Z.S (q.den : Int) = D at *
        have hh := hhd hps
        clear hhd
        by_cases hd : q.den = 1
        · rw [decide_eq_true (hdn.2 hd)] at h49
          have hQ := hQ1.out hd
          rw [hQ] at HFF
          clear hQ hd hdn hQ1 hQ2
          go_enter Try.func8, Try.ntmps8
          go_wp2_with fail
          refine (C.out _).mono ?_
          rintro e w1 ⟨rfl, hb1⟩
          go_wp2_with fail
          refine (D1.out _).mono ?_
          rintro e w2 ⟨rfl, hb2⟩
          have c2 := hb1.trans (hb2.mono hb1.size)
          clear hb1 hb2
          go_wp2_with fail
          refine (D2.out _).mono ?_
          rintro e w3 ⟨rfl, hb3⟩
          have c3 := c2.trans (hb3.mono c2.size)
          clear c2 hb3
          go_wp2_with fail
          go_ret2
          exact HFF.out _ c3
        · rw [decide_eq_false (fun e => hd (hdn.1 e))] at h49
          have hQ := hQ2.out hd
          rw [hQ] at HFF
          clear hQ hd hdn hQ1 hQ2
          go_enter Try.func8, Try.ntmps8
          go_wp2_with fail
          refine (C.out _).mono ?_
          rintro e w1 ⟨rfl, hb1⟩
          go_wp2_with fail
          refine (D1.out _).mono ?_
          rintro e w2 ⟨rfl, hb2⟩
          have c2 := hb1.trans (hb2.mono hb1.size)
          clear hb1 hb2
          go_wp2_with fail
          refine (D2.out _).mono ?_
          rintro e w3 ⟨rfl, hb3⟩
          have c3 := c2.trans (hb3.mono c2.size)
          clear c2 hb3
          go_wp2_with fail
          go_ret2
          exact HFF.out _ c3
  · have C := Lib.hid (fun W : World => gcd_any a b W ha hb)
    have HF := Lib.hid (fun (w' : World) (hw : Below w.heap.size w w') => make_bad h hw)
    unfold GcdRet at C
    generalize Z.opS Z.gcdI a b = r at *
    generalize Z.bothE a b = k at *
    have hk : (k != 0) = true := by simpa using h
    clear h
    go_enter Try.func8, Try.ntmps8
    go_wp2_with fail
    refine (C.out _).mono ?_
    rintro e w1 ⟨rfl, hb1⟩
    go_wp2_with fail
    go_ret2
    exact HF.out _ hb1
theorem qof_any (n : Int) (w : World) (h0 : -9223372036854775808 ≤ n) (h1 : n ≤ 9223372036854775807) : Calls Try.prog 14 #[.int .i64 n] w (StrRet w (Z.txt n)) := by
  have C := Lib.hid (fun W : World => of_any n W h0 h1)
  unfold StrRet at *
  generalize (⟨(Z.txt n).toArray⟩ : ByteArray) = r at *
  go_enter Try.func14, Try.ntmps14
  go_wp2_with fail
  refine (C.out _).mono ?_
  rintro e w1 ⟨rfl, hb1⟩
  go_wp2_with fail
  go_ret
  exact ⟨rfl, hb1⟩
theorem ratio_any (n m : Int) (w : World) (h0 : -9223372036854775808 ≤ n) (h1 : n ≤ 9223372036854775807) (g0 : -9223372036854775808 ≤ m) (g1 : m ≤ 9223372036854775807) :
    Calls Try.prog 10 #[.int .i64 n, .int .i64 m] w (MakeRet (Z.S n) (Z.S m) w) := by
  have C := Lib.hid (fun W : World => of_any n W h0 h1)
  have D := Lib.hid (fun W : World => of_any m W g0 g1)
  have ln := Z.txt_length n 19 (by omega)
  have lm := Z.txt_length m 19 (by omega)
  have M := Lib.hid (fun W : World => make_any (Z.S n) (Z.S m) W (by rw [Z.S_size]; unfold maxLen; omega) (by rw [Z.S_size]; unfold maxLen; omega))
  unfold StrRet at *
  have C' : Hid (∀ W : World, Calls Try.prog 37 #[.int .i64 n] W fun e w' => e = .returned (.string (Z.S n)) ∧ Below W.heap.size W w') := C
  have D' : Hid (∀ W : World, Calls Try.prog 37 #[.int .i64 m] W fun e w' => e = .returned (.string (Z.S m)) ∧ Below W.heap.size W w') := D
  unfold MakeRet at *
  clear C D ln lm
  generalize Z.S n = N at *
  generalize Z.S m = D at *
  generalize Z.makeS N D = r at *
  generalize Z.makeE N D = k at *
  go_enter Try.func10, Try.ntmps10
  go_wp2_with fail
  refine (C'.out _).mono ?_
  rintro e w1 ⟨rfl, hb1⟩
  go_wp2_with fail
  refine (D'.out _).mono ?_
  rintro e w2 ⟨rfl, hb2⟩
  have c2 := hb1.trans (hb2.mono hb1.size)
  go_wp2_with fail
  refine (M.out _).mono ?_
  rintro e w3 ⟨rfl, hb3⟩
  go_wp2_with fail
  go_ret2
  exact ⟨rfl, c2.trans (hb3.mono c2.size)⟩
end Go.Proofs.Ythafdckomhdlbaa
