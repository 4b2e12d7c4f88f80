/- Walks: the reference of rationals: Make, Four, Cross, fraction. -/
import Derived.Test.YthafdckomhdlbaaQs
import Derived.Test.YthafdckomhdlbaaQe
namespace Go.Proofs.Ythafdckomhdlbaa
open Go.RowKit

theorem rdmC {n m : Nat} {x y q r : Int} (hx : Z.Lt n x) (hy : Z.Lt m y) (h0 : y ≠ 0) (eq : x / y = q) (er : x % y = r) (hn : 0 < n) (hn' : n ≤ 1000) (hm : 0 < m) (hm' : m ≤ 1000) :
    Hid (∀ W : World, Calls Try.prog 36 #[.string (Z.S x), .string (Z.S y)] W fun e w' => e = .returned (.tuple #[.string (Z.S q), .string (Z.S r), .int .i64 0]) ∧ Below W.heap.size W w') := by
  subst eq er
  intro W
  have s1 := Z.S_size_le hx hn hn'
  have s2 := Z.S_size_le hy hm hm'
  have := rdivmod_any (Z.S x) (Z.S y) W (by omega) (by omega)
  unfold DmRet at this
  rwa [(Z.divS_S hx hy h0 hn hn' hm hm' (fun x y => x / y)).1, (Z.divS_S hx hy h0 hn hn' hm hm' (fun x y => x % y)).1, (Z.divS_S hx hy h0 hn hn' hm hm' (fun x y => x % y)).2] at this
theorem rgcdC {n m : Nat} {x y g : Int} (hx : Z.Lt n x) (hy : Z.Lt m y) (e : Z.gcdI x y = g) (hn : 0 < n) (hn' : n ≤ 1000) (hm : 0 < m) (hm' : m ≤ 1000) :
    Hid (∀ W : World, Calls Try.prog 35 #[.string (Z.S x), .string (Z.S y)] W fun e w' => e = .returned (.tuple #[.string (Z.S g), .int .i64 0]) ∧ Below W.heap.size W w') := by
  subst e
  intro W
  have s1 := Z.S_size_le hx hn hn'
  have s2 := Z.S_size_le hy hm hm'
  have := rgcd_any (Z.S x) (Z.S y) W (by omega) (by omega)
  have hg := Z.gcdI_le (hx.mono (Nat.le_max_left n m)) (hy.mono (Nat.le_max_right n m))
  have h1 := Z.opS_S (f := Z.gcdI) hx hy hg hn hn' hm hm' (by omega) (by omega)
  unfold GcdRet at this
  rwa [h1.1, (Z.cmpV_S hx hy hn hn' hm hm').2] at this
theorem negC {n : Nat} {x : Int} (hx : Z.Lt n x) (hn : 0 < n) (hn' : n ≤ 1000) :
    Hid (∀ W : World, Calls Try.prog 34 #[.string (Z.S x)] W fun e w' => e = .returned (.string (Z.S (-x))) ∧ Below W.heap.size W w') := by
  intro W
  have s1 := Z.S_size_le hx hn hn'
  have := negative_any (Z.S x) W (by omega) (by rw [Z.S_data]; exact Z.canon_txt x)
  unfold StrRet at this
  rw [Z.ival_S] at this
  exact this
set_option maxRecDepth 100000 in
set_option maxHeartbeats 8000000 in
theorem rmake_any (a b : ByteArray) (w : World) (ha : a.size ≤ 1000000) (hb : b.size ≤ 1000000) :
    Calls Try.prog 9 #[.string a, .string b] w (MakeRet a b w) := by
  have BO := Lib.hid (fun W : World => both_any a b W ha hb)
  unfold BothRet at BO
  by_cases h : Z.bothE a b = 0
  · obtain ⟨ca, cb⟩ := Z.bothE_zero h
    rw [h] at BO
    obtain ⟨x, rfl, hx⟩ := Z.int_of ca
    obtain ⟨y, rfl, hy⟩ := Z.int_of cb
    have hps := Z.S_pos y
    have hhd := Z.S_headF y
    have h48 := Z.e48 y
    have lg := Z.gcdI_le hx hy
    by_cases h0 : y = 0
    · have HF := Lib.hid (fun (w' : World) (hw : Below w.heap.size w w') => make_zero h (by rw [Z.ival_S]; exact h0) hw)
      rw [decide_eq_true h0] at h48
      clear ca cb h hx hy lg hhd hps h0
      generalize Z.S x = X at *
      generalize Z.S y = Y at *
      go_enter Try.func9, Try.ntmps9
      go_wp2_with fail
      have c0 : Below w.heap.size w w := Below.refl _ w
      refine (BO.out _).mono ?_
      rintro e w1 ⟨rfl, hb1⟩
      have c1 := c0.trans (hb1.mono c0.size)
      clear c0 hb1
      go_wp2_with fail
      go_ret2
      exact HF.out _ c1
    · have HF := Lib.hid (fun (q : Rat) (hq : _ = q) (w' : World) (hw : Below w.heap.size w w') => make_ok h (by rw [Z.ival_S]; exact h0) hq hw)
      rw [Z.ival_S, Z.ival_S] at HF
      obtain ⟨q, hq⟩ : ∃ q, Rat.divInt x y = q := ⟨_, rfl⟩
      have HFF := Lib.hid (HF.out q hq)
      have hg0 := Z.gcdI_ne (x := x) h0
      have hgn := Z.gcdI_nonneg x y
      rw [decide_eq_false h0] at h48
      have h49 := Z.e49 (q.den : Int)
      have hQ1 := Lib.hid (@Z.Q_one q)
      have hQ2 := Lib.hid (@Z.Q_frac q)
      have hdn : ((q.den : Int) = 1) ↔ q.den = 1 := by omega
      by_cases hneg : y < 0
      · have hp := Z.div_num_neg (x := x) (y := y) (by omega)
        rw [hq] at hp
        have hpn : -x / Z.gcdI x y = q.num := by rw [hp.1, Int.ediv_neg]; exact Int.neg_ediv_of_dvd (Z.gcdI_dvd_left x y)
        have hpd : -y / Z.gcdI x y = (q.den : Int) := by rw [hp.2, Int.ediv_neg]; exact Int.neg_ediv_of_dvd (Z.gcdI_dvd_right x y)
        have N1 := negC hx (by omega) (by omega)
        have N2 := negC hy (by omega) (by omega)
        have C := rgcdC hx.neg hy.neg (g := Z.gcdI x y) (by unfold Z.gcdI; rw [Int.natAbs_neg, Int.natAbs_neg]) (by omega) (by omega) (by omega) (by omega)
        have D1 := rdmC hx.neg lg hg0 hpn rfl (by omega) (by omega) (by omega) (by omega)
        have D2 := rdmC hy.neg lg hg0 hpd rfl (by omega) (by omega) (by omega) (by omega)
        have ln : (Z.S q.num).size ≤ 1001 := Z.S_size_le (n := 1000) (by rw [← hpn]; exact hx.neg.of_le (Z.div_abs_le hg0)) (by omega) (by omega)
        have ld : (Z.S (q.den : Int)).size ≤ 1001 := Z.S_size_le (n := 1000) (by rw [← hpd]; exact hy.neg.of_le (Z.div_abs_le hg0)) (by omega) (by omega)
        simp only [decide_eq_true hneg] at hhd
        clear hpn hpd
        clear ca cb h hx hy lg hp HF hq hg0 hgn hneg h0
        generalize Z.S (-x) = X' at *
        generalize Z.S (-y) = Y' at *
        generalize Z.S (-x % Z.gcdI x y) = R1 at *
        generalize Z.S (-y % Z.gcdI x y) = R2 at *
        generalize Z.S x = X at *
        generalize Z.S (Z.gcdI x y) = G at *
        generalize Z.S y = Y at *
        generalize Z.S q.num = N at *
        generalize Z.S (q.den : Int) = D at *
        have hh := hhd hps
        clear hhd
        by_cases hd : q.den = 1
        · rw [decide_eq_true (hdn.2 hd)] at h49
          have hQ := hQ1.out hd
          rw [hQ] at HFF
          clear hQ hd hdn hQ1 hQ2
          go_enter Try.func9, Try.ntmps9
          go_wp2_with fail
          have c0 : Below w.heap.size w w := Below.refl _ w
          refine (BO.out _).mono ?_
          rintro e w1 ⟨rfl, hb1⟩
          have c1 := c0.trans (hb1.mono c0.size)
          clear c0 hb1
          go_wp2_with fail
          refine (N1.out _).mono ?_
          rintro e w2 ⟨rfl, hb2⟩
          have c2 := c1.trans (hb2.mono c1.size)
          clear c1 hb2
          go_wp2_with fail
          refine (N2.out _).mono ?_
          rintro e w3 ⟨rfl, hb3⟩
          have c3 := c2.trans (hb3.mono c2.size)
          clear c2 hb3
          go_wp2_with fail
          refine (C.out _).mono ?_
          rintro e w4 ⟨rfl, hb4⟩
          have c4 := c3.trans (hb4.mono c3.size)
          clear c3 hb4
          go_wp2_with fail
          refine (D1.out _).mono ?_
          rintro e w5 ⟨rfl, hb5⟩
          have c5 := c4.trans (hb5.mono c4.size)
          clear c4 hb5
          go_wp2_with fail
          refine (D2.out _).mono ?_
          rintro e w6 ⟨rfl, hb6⟩
          have c6 := c5.trans (hb6.mono c5.size)
          clear c5 hb6
          go_wp2_with fail
          go_ret2
          exact HFF.out _ c6
        · rw [decide_eq_false (fun e => hd (hdn.1 e))] at h49
          have hQ := hQ2.out hd
          rw [hQ] at HFF
          clear hQ hd hdn hQ1 hQ2
          go_enter Try.func9, Try.ntmps9
          go_wp2_with fail
          have c0 : Below w.heap.size w w := Below.refl _ w
          refine (BO.out _).mono ?_
          rintro e w1 ⟨rfl, hb1⟩
          have c1 := c0.trans (hb1.mono c0.size)
          clear c0 hb1
          go_wp2_with fail
          refine (N1.out _).mono ?_
          rintro e w2 ⟨rfl, hb2⟩
          have c2 := c1.trans (hb2.mono c1.size)
          clear c1 hb2
          go_wp2_with fail
          refine (N2.out _).mono ?_
          rintro e w3 ⟨rfl, hb3⟩
          have c3 := c2.trans (hb3.mono c2.size)
          clear c2 hb3
          go_wp2_with fail
          refine (C.out _).mono ?_
          rintro e w4 ⟨rfl, hb4⟩
          have c4 := c3.trans (hb4.mono c3.size)
          clear c3 hb4
          go_wp2_with fail
          refine (D1.out _).mono ?_
          rintro e w5 ⟨rfl, hb5⟩
          have c5 := c4.trans (hb5.mono c4.size)
          clear c4 hb5
          go_wp2_with fail
          refine (D2.out _).mono ?_
          rintro e w6 ⟨rfl, hb6⟩
          have c6 := c5.trans (hb6.mono c5.size)
          clear c5 hb6
          go_wp2_with fail
          go_ret2
          exact HFF.out _ c6
      · have hp := Z.div_num_pos (x := x) (y := y) (by omega)
        rw [hq] at hp
        have C := rgcdC hx hy (g := Z.gcdI x y) rfl (by omega) (by omega) (by omega) (by omega)
        have D1 := rdmC hx lg hg0 hp.1.symm rfl (by omega) (by omega) (by omega) (by omega)
        have D2 := rdmC hy lg hg0 hp.2.symm rfl (by omega) (by omega) (by omega) (by omega)
        have ln : (Z.S q.num).size ≤ 1001 := Z.S_size_le (n := 1000) (by rw [hp.1]; exact hx.of_le (Z.div_abs_le hg0)) (by omega) (by omega)
        have ld : (Z.S (q.den : Int)).size ≤ 1001 := Z.S_size_le (n := 1000) (by rw [hp.2]; exact hy.of_le (Z.div_abs_le hg0)) (by omega) (by omega)
        simp only [decide_eq_false hneg] at hhd
        clear ca cb h hx hy lg hp HF hq hg0 hgn hneg h0
        generalize Z.S (x % Z.gcdI x y) = R1 at *
        generalize Z.S (y % Z.gcdI x y) = R2 at *
        generalize Z.S x = X at *
        generalize Z.S (Z.gcdI x y) = G at *
        generalize Z.S y = Y at *
        generalize Z.S q.num = N at *
        generalize Z.S (q.den : Int) = D at *
        have hh := hhd hps
        clear hhd
        by_cases hd : q.den = 1
        · rw [decide_eq_true (hdn.2 hd)] at h49
          have hQ := hQ1.out hd
          rw [hQ] at HFF
          clear hQ hd hdn hQ1 hQ2
          go_enter Try.func9, Try.ntmps9
          go_wp2_with fail
          have c0 : Below w.heap.size w w := Below.refl _ w
          refine (BO.out _).mono ?_
          rintro e w1 ⟨rfl, hb1⟩
          have c1 := c0.trans (hb1.mono c0.size)
          clear c0 hb1
          go_wp2_with fail
          refine (C.out _).mono ?_
          rintro e w2 ⟨rfl, hb2⟩
          have c2 := c1.trans (hb2.mono c1.size)
          clear c1 hb2
          go_wp2_with fail
          refine (D1.out _).mono ?_
          rintro e w3 ⟨rfl, hb3⟩
          have c3 := c2.trans (hb3.mono c2.size)
          clear c2 hb3
          go_wp2_with fail
          refine (D2.out _).mono ?_
          rintro e w4 ⟨rfl, hb4⟩
          have c4 := c3.trans (hb4.mono c3.size)
          clear c3 hb4
          go_wp2_with fail
          go_ret2
          exact HFF.out _ c4
        · rw [decide_eq_false (fun e => hd (hdn.1 e))] at h49
          have hQ := hQ2.out hd
          rw [hQ] at HFF
          clear hQ hd hdn hQ1 hQ2
          go_enter Try.func9, Try.ntmps9
          go_wp2_with fail
          have c0 : Below w.heap.size w w := Below.refl _ w
          refine (BO.out _).mono ?_
          rintro e w1 ⟨rfl, hb1⟩
          have c1 := c0.trans (hb1.mono c0.size)
          clear c0 hb1
          go_wp2_with fail
          refine (C.out _).mono ?_
          rintro e w2 ⟨rfl, hb2⟩
          have c2 := c1.trans (hb2.mono c1.size)
          clear c1 hb2
          go_wp2_with fail
          refine (D1.out _).mono ?_
          rintro e w3 ⟨rfl, hb3⟩
          have c3 := c2.trans (hb3.mono c2.size)
          clear c2 hb3
          go_wp2_with fail
          refine (D2.out _).mono ?_
          rintro e w4 ⟨rfl, hb4⟩
          have c4 := c3.trans (hb4.mono c3.size)
          clear c3 hb4
          go_wp2_with fail
          go_ret2
          exact HFF.out _ c4
  · have HF := Lib.hid (fun (w' : World) (hw : Below w.heap.size w w') => make_bad h hw)
    generalize Z.bothE a b = k at *
    have hk : (k != 0) = true := by simpa using h
    clear h
    go_enter Try.func9, Try.ntmps9
    go_wp2_with fail
    have c0 : Below w.heap.size w w := Below.refl _ w
    refine (BO.out _).mono ?_
    rintro e w1 ⟨rfl, hb1⟩
    have c1 := c0.trans (hb1.mono c0.size)
    clear c0 hb1
    go_wp2_with fail
    go_ret2
    exact HF.out _ c1
theorem four_ok (a b : ByteArray) (w : World) (ha : a.size ≤ 100000) (hb : b.size ≤ 100000) (h : Z.rbothE a b = 0) :
    Calls Try.prog 13 #[.string a, .string b] w fun e w' => e = .returned (.tuple #[.string (Z.rN a), .string (Z.rD1 a), .string (Z.rN b), .string (Z.rD1 b), .int .i64 0]) ∧ Below w.heap.size w w' := by
  have C1 := Lib.hid (fun W : World => rqcheck_any a W ha)
  have C2 := Lib.hid (fun W : World => rqcheck_any b W hb)
  have W1 := Lib.hid (fun W : World => written_any a W ha)
  have W2 := Lib.hid (fun W : World => written_any b W hb)
  unfold QchkRet at C1 C2
  unfold WrRet at W1 W2
  have h1 : Z.rchk a = 0 := by
    unfold Z.rbothE at h
    by_cases h1 : Z.rchk a = 0
    · exact h1
    · rw [if_neg h1] at h; exact absurd h h1
  have h2 : Z.rchk b = 0 := by unfold Z.rbothE at h; rw [if_pos h1] at h; exact h
  rw [h1] at C1
  rw [h2] at C2
  clear h h1 h2
  generalize Z.rN a = N at *
  generalize Z.rD1 a = D at *
  generalize Z.rN b = M at *
  generalize Z.rD1 b = E at *
  go_enter Try.func13, Try.ntmps13
  go_wp2_with fail
  have c0 : Below w.heap.size w w := Below.refl _ w
  refine (C1.out _).mono ?_
  rintro e w1 ⟨rfl, hb1⟩
  have c1 := c0.trans (hb1.mono c0.size)
  clear c0 hb1
  go_wp2_with fail
  refine (C2.out _).mono ?_
  rintro e w2 ⟨rfl, hb2⟩
  have c2 := c1.trans (hb2.mono c1.size)
  clear c1 hb2
  go_wp2_with fail
  refine (W1.out _).mono ?_
  rintro e w8 ⟨rfl, n1, rfl⟩
  go_wp2_with fail
  refine (W2.out _).mono ?_
  rintro e w9 ⟨rfl, n2, rfl⟩
  go_wp2_with fail
  refine bodyPost_ret (v := .tuple #[.string N, .string D, .string M, .string E, .int .i64 0]) (by simp [results, Try.results13, go_sem]) rfl ⟨rfl, ?_⟩
  exact c2.trans (below_of_drewN _ (n1 + n2) _)
theorem four_bad (a b : ByteArray) (w : World) (ha : a.size ≤ 100000) (hb : b.size ≤ 100000) (h : Z.rbothE a b ≠ 0) :
    Calls Try.prog 13 #[.string a, .string b] w fun e w' => e = .returned (.tuple #[.string ⟨#[]⟩, .string ⟨#[]⟩, .string ⟨#[]⟩, .string ⟨#[]⟩, .int .i64 (Z.rbothE a b)]) ∧ Below w.heap.size w w' := by
  have C1 := Lib.hid (fun W : World => rqcheck_any a W ha)
  have C2 := Lib.hid (fun W : World => rqcheck_any b W hb)
  unfold QchkRet at C1 C2
  unfold Z.rbothE at *
  by_cases h1 : Z.rchk a = 0
  · rw [if_pos h1] at h ⊢
    rw [h1] at C1
    generalize Z.rchk b = k at *
    have hk : (k != 0) = true := by simpa using h
    clear h h1
    go_enter Try.func13, Try.ntmps13
    go_wp2_with fail
    have c0 : Below w.heap.size w w := Below.refl _ w
    refine (C1.out _).mono ?_
    rintro e w1 ⟨rfl, hb1⟩
    have c1 := c0.trans (hb1.mono c0.size)
    clear c0 hb1
    go_wp2_with fail
    refine (C2.out _).mono ?_
    rintro e w2 ⟨rfl, hb2⟩
    have c2 := c1.trans (hb2.mono c1.size)
    clear c1 hb2
    go_wp2_with fail
    refine (C2.out _).mono ?_
    rintro e w3 ⟨rfl, hb3⟩
    have c3 := c2.trans (hb3.mono c2.size)
    clear c2 hb3
    go_wp2_with fail
    exact bodyPost_ret (v := .tuple #[.string ⟨#[]⟩, .string ⟨#[]⟩, .string ⟨#[]⟩, .string ⟨#[]⟩, .int .i64 k]) (by simp [results, Try.results13, go_sem]) rfl ⟨rfl, c3⟩
  · rw [if_neg h1] at h ⊢
    generalize Z.rchk a = k at *
    have hk : (k != 0) = true := by simpa using h
    clear h h1
    go_enter Try.func13, Try.ntmps13
    go_wp2_with fail
    have c0 : Below w.heap.size w w := Below.refl _ w
    refine (C1.out _).mono ?_
    rintro e w1 ⟨rfl, hb1⟩
    have c1 := c0.trans (hb1.mono c0.size)
    clear c0 hb1
    go_wp2_with fail
    refine (C1.out _).mono ?_
    rintro e w2 ⟨rfl, hb2⟩
    have c2 := c1.trans (hb2.mono c1.size)
    clear c1 hb2
    go_wp2_with fail
    exact bodyPost_ret (v := .tuple #[.string ⟨#[]⟩, .string ⟨#[]⟩, .string ⟨#[]⟩, .string ⟨#[]⟩, .int .i64 k]) (by simp [results, Try.results13, go_sem]) rfl ⟨rfl, c2⟩
end Go.Proofs.Ythafdckomhdlbaa
