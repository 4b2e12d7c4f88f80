/- Rd3: Rhalf3 Rrefb -/
import Derived.Test.YthafdckomhdlbaaDoorRhalf
/- Walks: the reference's Round, mode 3 where the half is 0. -/

namespace Go.Proofs.YthafdckomhdlbaaDoor
open Go.RowKit

set_option maxRecDepth 100000 in
set_option maxHeartbeats 1000000 in
theorem rround_3_Tzo (a n d q r tw q1 : ByteArray) (k h k1 : Int) (w : World) (CK : Hid (CkP a 0)) (WR : Hid (WrP a n d)) (DM : Hid (DmP 34 n d q r 0)) (hr : (r.toList == [48]) = false)
    (MU : Hid (OpP 35 ⟨#[50]⟩ r tw k)) (D1 : Hid (∀ W, Calls Tryd.prog 37 #[.string tw] W (DigsRet tw W))) (D2 : Hid (∀ W, Calls Tryd.prog 37 #[.string d] W (DigsRet d W)))
    (HF : Hid (HalfOf tw d h)) (htw : (tw.toList == []) = false) (hh : h = 0) (D3 : Hid (∀ W, Calls Tryd.prog 37 #[.string q] W (DigsRet q W))) (c0 : Nat) (cs : List Nat) (hcs : (if Z.canon q.data.toList then Z.rdg (Z.mags q.data.toList) else []) = c0 :: cs) (hc0 : ((c0 : Int) % 2 == 1) = true) (AD : Hid (OpP 38 q ⟨#[49]⟩ q1 k1)) :
    Calls Tryd.prog 11 #[.string a, .int .u8 3] w fun e w' => e = .returned (.tuple #[.string q1, .int .i64 k1]) ∧ Below w.heap.size w w' := by
  have hdd : decide (0 < h) = false := by simp; omega
  go_enter Tryd.func11, Tryd.ntmps11
  go_wp2_with fail
  refine (CK.out _).mono ?_
  rintro e w1 ⟨rfl, h1⟩
  go_wp2_with fail
  refine (WR.out _).mono ?_
  rintro e w2 ⟨rfl, h2⟩
  have c2 := h1.trans (h2.mono h1.size)
  clear h1 h2
  go_wp2_with fail
  refine (DM.out _).mono ?_
  rintro e w3 ⟨rfl, h3⟩
  have c3 := c2.trans (h3.mono c2.size)
  clear c2 h3
  go_wp2_with fail
  refine (MU.out _).mono ?_
  rintro e w4 ⟨rfl, h4⟩
  have c4 := c3.trans (h4.mono c3.size)
  clear c3 h4
  go_wp2_with fail
  refine (D1.out _).mono ?_
  rintro e w5 ⟨v1, rfl, o1, h5⟩
  have c5 := c4.trans (h5.mono c4.size)
  clear c4 h5
  go_wp2_with fail
  refine (D2.out _).mono ?_
  rintro e w6 ⟨v2, rfl, o2, h6⟩
  have c6 := c5.trans (h6.mono c5.size)
  have o1' := o1.below (h6.mono (Nat.le_refl _))
  clear c5 h6
  go_wp2_with fail
  refine (HF.out _ _ _ _ _ o1' o2).mono ?_
  rintro e w7 ⟨rfl, rfl⟩
  clear o1 o1' o2
  subst hh
  go_wp2_with fail
  refine (D3.out _).mono ?_
  rintro e w9 ⟨v3, rfl, o3, h9⟩
  rw [hcs] at o3
  have c6 := c6.trans (h9.mono c6.size)
  obtain ⟨g, cap, rfl, _, _, hl1, hl2⟩ := o3.form (by simp)
  have r3 := o3.cell (j := 0) (d := c0) rfl
  have hl3 : (0 : Int) < ((c0 :: cs).length : Int) := by simp
  generalize (c0 :: cs).length = ln at *
  clear o3
  go_wp2_with fail
  refine (AD.out _).mono ?_
  rintro e w8 ⟨rfl, h8⟩
  have c8 := c6.trans (h8.mono c6.size)
  clear c6 h8
  go_wp2_with fail
  go_ret2
  exact ⟨rfl, c8⟩
set_option maxRecDepth 100000 in
set_option maxHeartbeats 1000000 in
theorem rround_3_Tze (a n d q r tw : ByteArray) (k h : Int) (w : World) (CK : Hid (CkP a 0)) (WR : Hid (WrP a n d)) (DM : Hid (DmP 34 n d q r 0)) (hr : (r.toList == [48]) = false)
    (MU : Hid (OpP 35 ⟨#[50]⟩ r tw k)) (D1 : Hid (∀ W, Calls Tryd.prog 37 #[.string tw] W (DigsRet tw W))) (D2 : Hid (∀ W, Calls Tryd.prog 37 #[.string d] W (DigsRet d W)))
    (HF : Hid (HalfOf tw d h)) (htw : (tw.toList == []) = false) (hh : h = 0) (D3 : Hid (∀ W, Calls Tryd.prog 37 #[.string q] W (DigsRet q W))) (c0 : Nat) (cs : List Nat) (hcs : (if Z.canon q.data.toList then Z.rdg (Z.mags q.data.toList) else []) = c0 :: cs) (hc0 : ((c0 : Int) % 2 == 1) = false) :
    Calls Tryd.prog 11 #[.string a, .int .u8 3] w fun e w' => e = .returned (.tuple #[.string q, .int .i64 0]) ∧ Below w.heap.size w w' := by
  have hdd : decide (0 < h) = false := by simp; omega
  go_enter Tryd.func11, Tryd.ntmps11
  go_wp2_with fail
  refine (CK.out _).mono ?_
  rintro e w1 ⟨rfl, h1⟩
  go_wp2_with fail
  refine (WR.out _).mono ?_
  rintro e w2 ⟨rfl, h2⟩
  have c2 := h1.trans (h2.mono h1.size)
  clear h1 h2
  go_wp2_with fail
  refine (DM.out _).mono ?_
  rintro e w3 ⟨rfl, h3⟩
  have c3 := c2.trans (h3.mono c2.size)
  clear c2 h3
  go_wp2_with fail
  refine (MU.out _).mono ?_
  rintro e w4 ⟨rfl, h4⟩
  have c4 := c3.trans (h4.mono c3.size)
  clear c3 h4
  go_wp2_with fail
  refine (D1.out _).mono ?_
  rintro e w5 ⟨v1, rfl, o1, h5⟩
  have c5 := c4.trans (h5.mono c4.size)
  clear c4 h5
  go_wp2_with fail
  refine (D2.out _).mono ?_
  rintro e w6 ⟨v2, rfl, o2, h6⟩
  have c6 := c5.trans (h6.mono c5.size)
  have o1' := o1.below (h6.mono (Nat.le_refl _))
  clear c5 h6
  go_wp2_with fail
  refine (HF.out _ _ _ _ _ o1' o2).mono ?_
  rintro e w7 ⟨rfl, rfl⟩
  clear o1 o1' o2
  subst hh
  go_wp2_with fail
  refine (D3.out _).mono ?_
  rintro e w9 ⟨v3, rfl, o3, h9⟩
  rw [hcs] at o3
  have c6 := c6.trans (h9.mono c6.size)
  obtain ⟨g, cap, rfl, _, _, hl1, hl2⟩ := o3.form (by simp)
  have r3 := o3.cell (j := 0) (d := c0) rfl
  have hl3 : (0 : Int) < ((c0 :: cs).length : Int) := by simp
  generalize (c0 :: cs).length = ln at *
  clear o3
  go_wp2_with fail
  go_ret2
  exact ⟨rfl, c6⟩
end Go.Proofs.YthafdckomhdlbaaDoor
/- What the reference's Round answers. -/

namespace Go.Proofs.YthafdckomhdlbaaDoor
open Go.RowKit

theorem half_of (s t : ByteArray) (hs : s.size ≤ 100000) (ht : t.size ≤ 100000) : HalfOf s t (Z.cmp (Z.ofDg 10 (if Z.canon s.data.toList then Z.rdg (Z.mags s.data.toList) else [])) (Z.ofDg 10 (if Z.canon t.data.toList then Z.rdg (Z.mags t.data.toList) else []))) := by
  have lt : ∀ u : ByteArray, ∀ d ∈ (if Z.canon u.data.toList then Z.rdg (Z.mags u.data.toList) else []), d < 10 := by
    intro u d hd
    split at hd
    · rename_i h; exact Z.rdg_lt (Z.canon_parts h).all d hd
    · simp at hd
  have len : ∀ u : ByteArray, u.size ≤ 100000 → (if Z.canon u.data.toList then Z.rdg (Z.mags u.data.toList) else []).length ≤ 1000000 := by
    intro u hu
    split
    · rw [Z.rdg_length]
      unfold Z.mags
      split
      · rw [List.length_tail, ← Lib.size_eq]; omega
      · rw [← Lib.size_eq]; omega
    · simp
  intro v u w B C h1 h2
  exact greater_any v u 10 (by decide) _ _ w h1.sn h2.sn (lt s) (lt t) (len s hs) (len t ht)
theorem S_ne_empty (x : Int) : ((Z.S x).toList == []) = false := by
  rw [beq_eq_false_iff_ne, Lib.toList_data]
  intro h
  have := Z.S_posz x
  rw [Lib.size_eq, h] at this
  simp at this
theorem digs_val (x : Int) : Z.ofDg 10 (if Z.canon (Z.S x).data.toList then Z.rdg (Z.mags (Z.S x).data.toList) else []) = x.natAbs := by
  obtain ⟨h1, h2, _⟩ := Z.digs_S x
  rw [h1, if_pos rfl, h2]
/-- The half: twice the rest, what it is written as, and how it compares. -/
theorem half_words {r d : Int} (hr0 : 0 ≤ r) (hrd : r < d) (ld : Z.Lt 1000 d) :
    Hid (OpP 35 ⟨#[50]⟩ (Z.S r) (Z.resS (2 * r)) (Z.resE (2 * r))) ∧ ∃ h : Int, Hid (HalfOf (Z.resS (2 * r)) (Z.S d) h) ∧
      (((Z.resS (2 * r)).toList == []) = true ∧ d < 2 * r ∨ ((Z.resS (2 * r)).toList == []) = false ∧ h = Z.cmpI (2 * r) d) ∧ (Z.resS (2 * r)).size ≤ 100000 := by
  have lr : Z.Lt 1000 r := ld.of_le (by omega)
  have l21 : Z.Lt 1 2 := by unfold Z.Lt; decide
  have l2 : Z.Lt 1000 2 := l21.mono (by decide)
  have MU := opC_rmul (l2.chk (by decide) (Nat.le_refl _)) (lr.chk (by decide) (Nat.le_refl _))
  have e2 : Z.S 2 = ⟨#[50]⟩ := by decide +kernel
  rw [e2] at MU
  have sd := Z.S_size_le ld (by decide) (Nat.le_refl _)
  refine ⟨Lib.hid MU, ?_⟩
  by_cases hf : Z.resE (2 * r) = 0
  · obtain ⟨s1, c1⟩ := Z.res_fit hf
    have sz := Z.chk_mil c1
    have sz2 := Z.S_size_le (Z.lt_chk c1) (by decide) (Nat.le_refl _)
    rw [s1]
    refine ⟨_, Lib.hid (half_of _ _ (by omega) (by omega)), .inr ⟨S_ne_empty _, ?_⟩, by omega⟩
    rw [digs_val, digs_val, ← Z.cmpI_abs]
    congr 1 <;> omega
  · rw [Z.resS_bad hf]
    refine ⟨_, Lib.hid (half_of _ _ (by decide) (by omega)), .inl ⟨by rw [Lib.toList_data]; rfl, ?_⟩, by decide⟩
    apply Classical.byContradiction
    intro hc
    exact hf ((ld.of_le (by omega : (2 * r).natAbs ≤ d.natAbs)).res (by decide) (Nat.le_refl _)).1
theorem first_digit (x : Int) : ∃ (c0 : Nat) (cs : List Nat), (if Z.canon (Z.S x).data.toList then Z.rdg (Z.mags (Z.S x).data.toList) else []) = c0 :: cs ∧ ((c0 : Int) % 2 = x % 2) := by
  obtain ⟨h1, h2, _⟩ := Z.digs_S x
  rw [h1, if_pos rfl]
  have hne : Z.rdg (Z.mags (Z.S x).data.toList) ≠ [] := by
    intro h
    have := congrArg List.length h
    rw [Z.rdg_length] at this
    have h3 := Z.canon_parts h1
    exact h3.ne (List.eq_nil_of_length_eq_zero this)
  obtain ⟨c0, cs, e⟩ := List.exists_cons_of_ne_nil hne
  rw [e] at h2
  refine ⟨c0, cs, e, ?_⟩
  have e2 : Z.ofDg 10 (c0 :: cs) = c0 + 10 * Z.ofDg 10 cs := rfl
  rw [e2] at h2
  omega
theorem rround_go {a : ByteArray} {n d : Int} (m : Int) (h0 : 0 ≤ m) (h4 : m ≤ 4) (w : World) (CK : Hid (CkP a 0)) (WR : Hid (WrP a (Z.S n) (Z.S d))) (ln : Z.Lt 1000 n) (ld : Z.Lt 1000 d) (hd : 0 < d) :
    Calls Tryd.prog 11 #[.string a, .int .u8 m] w fun e w' => e = .returned (.tuple #[.string (Z.S (Z.rndR m n d)), .int .i64 0]) ∧ Below w.heap.size w w' := by
  have r0 := Int.emod_nonneg n (by omega : d ≠ 0)
  have r1 := Int.emod_lt_of_pos n hd
  have eN := Int.mul_ediv_add_emod n d
  have DM : Hid (DmP 34 (Z.S n) (Z.S d) (Z.S (n / d)) (Z.S (n % d)) 0) := rdmC ln ld (by omega) (rfl : n / d = _) (rfl : n % d = _) (by decide) (Nat.le_refl _) (by decide) (Nat.le_refl _)
  have e48 := Z.e48 (n % d)
  unfold Z.rndR
  by_cases hr : n % d = 0
  · rw [if_pos (.inl hr)]
    rw [decide_eq_true hr] at e48
    exact rround_zero a _ _ _ _ m w h4 CK WR DM e48
  rw [decide_eq_false hr] at e48
  by_cases hm4 : m = 4
  · subst hm4
    rw [if_pos (.inr rfl)]
    exact rround_four a _ _ _ _ w CK WR DM e48
  have hne : ¬ (n % d = 0 ∨ m = 4) := by omega
  rw [if_neg hne]
  have hd2 : 2 ≤ d := by omega
  have hsmall : (n / d).natAbs ≤ n.natAbs ∧ (n / d + 1).natAbs ≤ n.natAbs := by
    refine ⟨Int.natAbs_ediv_le_natAbs _ _, ?_⟩
    by_cases hn : 0 ≤ n
    · have q0 : 0 ≤ n / d := Int.ediv_nonneg hn (by omega)
      have : 2 * (n / d) ≤ d * (n / d) := Int.mul_le_mul_of_nonneg_right hd2 q0
      omega
    · have q0 : n / d < 0 := Int.ediv_neg_of_neg_of_pos (by omega) hd
      have := Int.natAbs_ediv_le_natAbs n d
      omega
  have lq : Z.Lt 1000 (n / d) := ln.of_le hsmall.1
  have lq1 : Z.Lt 1000 (n / d + 1) := ln.of_le hsmall.2
  have AD := opC_radd (lq.chk (by decide) (Nat.le_refl _)) ((Z.lt_one.mono (by decide : 1 ≤ 1000)).chk (by decide) (Nat.le_refl _))
  rw [(lq1.res (by decide) (Nat.le_refl _)).1, (lq1.res (by decide) (Nat.le_refl _)).2, Z.S_one] at AD
  have AD := Lib.hid AD
  obtain ⟨MU, h, HF, hcase, tsz⟩ := half_words r0 r1 ld
  have sd := Z.S_size_le ld (by decide) (Nat.le_refl _)
  have sq := Z.S_size_le lq (by decide) (Nat.le_refl _)
  have D1 := Lib.hid (fun W : World => digs_any (Z.resS (2 * (n % d))) W (by omega))
  have D2 := Lib.hid (fun W : World => digs_any (Z.S d) W (by omega))
  have D3 := Lib.hid (fun W : World => digs_any (Z.S (n / d)) W (by omega))
  have hp := Z.S_posz n
  have hng : ((((Z.S n)[0]'hp).toNat : Int) == 45) = decide (n < 0) := by
    by_cases hn : n < 0
    · rw [(Z.S_neg_head n).2 hn, decide_eq_true hn]; rfl
    · rw [decide_eq_false hn, beq_eq_false_iff_ne]
      intro h
      exact hn ((Z.S_neg_head n).1 (by omega))
  have hm : m = 0 ∨ m = 1 ∨ m = 2 ∨ m = 3 := by omega
  have up : Z.upR m n d ↔ ((m = 0 ∧ n < 0) ∨ (m = 1 ∧ 0 ≤ n) ∨ (m = 2 ∧ (d < 2 * (n % d) ∨ (2 * (n % d) = d ∧ 0 ≤ n))) ∨ (m = 3 ∧ (d < 2 * (n % d) ∨ (2 * (n % d) = d ∧ n / d % 2 = 1)))) := Iff.rfl
  have cm : Z.cmpI (2 * (n % d)) d = 1 ∧ d < 2 * (n % d) ∨ Z.cmpI (2 * (n % d)) d = 0 ∧ 2 * (n % d) = d ∨ Z.cmpI (2 * (n % d)) d = -1 ∧ 2 * (n % d) < d := by
    unfold Z.cmpI
    split
    · exact .inr (.inr ⟨rfl, by assumption⟩)
    · split
      · exact .inr (.inl ⟨rfl, by assumption⟩)
      · exact .inl ⟨rfl, by omega⟩
  rcases hm with rfl | rfl | rfl | rfl
  · by_cases hn : n < 0
    · rw [decide_eq_true hn] at hng
      rw [if_pos (up.2 (by omega))]
      rcases hcase with ⟨ht, _⟩ | ⟨ht, _⟩
      · exact rround_0_En a _ _ _ _ _ _ _ _ _ w CK WR DM e48 MU D1 D2 HF ht hp hng AD
      · exact rround_0_Tn a _ _ _ _ _ _ _ _ _ w CK WR DM e48 MU D1 D2 HF ht hp hng AD
    · rw [decide_eq_false hn] at hng
      rw [if_neg (fun h => by have := up.1 h; omega), Int.add_zero]
      rcases hcase with ⟨ht, _⟩ | ⟨ht, _⟩
      · exact rround_0_Ep a _ _ _ _ _ _ _ w CK WR DM e48 MU D1 D2 HF ht hp hng
      · exact rround_0_Tp a _ _ _ _ _ _ _ w CK WR DM e48 MU D1 D2 HF ht hp hng
  · by_cases hn : n < 0
    · rw [decide_eq_true hn] at hng
      rw [if_neg (fun h => by have := up.1 h; omega), Int.add_zero]
      rcases hcase with ⟨ht, _⟩ | ⟨ht, _⟩
      · exact rround_1_En a _ _ _ _ _ _ _ w CK WR DM e48 MU D1 D2 HF ht hp hng
      · exact rround_1_Tn a _ _ _ _ _ _ _ w CK WR DM e48 MU D1 D2 HF ht hp hng
    · rw [decide_eq_false hn] at hng
      rw [if_pos (up.2 (by omega))]
      rcases hcase with ⟨ht, _⟩ | ⟨ht, _⟩
      · exact rround_1_Ep a _ _ _ _ _ _ _ _ _ w CK WR DM e48 MU D1 D2 HF ht hp hng AD
      · exact rround_1_Tp a _ _ _ _ _ _ _ _ _ w CK WR DM e48 MU D1 D2 HF ht hp hng AD
  · rcases hcase with ⟨ht, hb⟩ | ⟨ht, he⟩
    · rw [if_pos (up.2 (by omega))]
      exact rround_2_E a _ _ _ _ _ _ _ _ _ w CK WR DM e48 MU D1 D2 HF ht AD
    · rcases cm with ⟨c1, c2⟩ | ⟨c1, c2⟩ | ⟨c1, c2⟩
      · rw [if_pos (up.2 (by omega))]
        exact rround_2_Tg a _ _ _ _ _ _ _ _ _ w CK WR DM e48 MU D1 D2 HF ht (by omega) AD
      · by_cases hn : n < 0
        · rw [decide_eq_true hn] at hng
          rw [if_neg (fun h => by have := up.1 h; omega), Int.add_zero]
          exact rround_2_Tzn a _ _ _ _ _ _ _ w CK WR DM e48 MU D1 D2 HF ht hp hng (by omega)
        · rw [decide_eq_false hn] at hng
          rw [if_pos (up.2 (by omega))]
          exact rround_2_Tzp a _ _ _ _ _ _ _ _ _ w CK WR DM e48 MU D1 D2 HF ht hp hng (by omega) AD
      · rw [if_neg (fun h => by have := up.1 h; omega), Int.add_zero]
        exact rround_2_Tl a _ _ _ _ _ _ _ w CK WR DM e48 MU D1 D2 HF ht (by omega)
  · rcases hcase with ⟨ht, hb⟩ | ⟨ht, he⟩
    · rw [if_pos (up.2 (by omega))]
      exact rround_3_E a _ _ _ _ _ _ _ _ _ w CK WR DM e48 MU D1 D2 HF ht AD
    · rcases cm with ⟨c1, c2⟩ | ⟨c1, c2⟩ | ⟨c1, c2⟩
      · rw [if_pos (up.2 (by omega))]
        exact rround_3_Tg a _ _ _ _ _ _ _ _ _ w CK WR DM e48 MU D1 D2 HF ht (by omega) AD
      · obtain ⟨c0, cs, hcs, hpar⟩ := first_digit (n / d)
        by_cases ho : n / d % 2 = 1
        · rw [if_pos (up.2 (by omega))]
          exact rround_3_Tzo a _ _ _ _ _ _ _ _ _ w CK WR DM e48 MU D1 D2 HF ht (by omega) D3 c0 cs hcs (by rw [beq_iff_eq]; omega) AD
        · rw [if_neg (fun h => by have := up.1 h; omega), Int.add_zero]
          exact rround_3_Tze a _ _ _ _ _ _ _ w CK WR DM e48 MU D1 D2 HF ht (by omega) D3 c0 cs hcs (by rw [beq_eq_false_iff_ne]; omega)
      · rw [if_neg (fun h => by have := up.1 h; omega), Int.add_zero]
        exact rround_3_Tl a _ _ _ _ _ _ _ w CK WR DM e48 MU D1 D2 HF ht (by omega)
theorem rqround_any (a : ByteArray) (m : Int) (w : World) (h0 : 0 ≤ m) (ha : a.size ≤ 100000) :
    Calls Tryd.prog 11 #[.string a, .int .u8 m] w (RndRet m a w) := by
  unfold RndRet
  by_cases h5 : 5 ≤ m
  · have e1 : Z.rndE m a = 2 := by unfold Z.rndE; rw [if_pos h5]
    have e2 : Z.rndS m a = ⟨#[]⟩ := by unfold Z.rndS; rw [e1, if_neg (by decide)]
    rw [e1, e2]
    exact rround_arg a m w (by omega)
  · have e1 : Z.rndE m a = Z.rchk a := by unfold Z.rndE; rw [if_neg h5]
    by_cases hk : Z.rchk a = 0
    · have e2 : Z.rndS m a = Z.S (Z.rndP m (Z.rn a) (Z.rd a)) := by unfold Z.rndS; rw [e1, if_pos hk]
      have oa := Z.rok hk
      obtain ⟨c1, c2, _, _⟩ := oa.chks
      rw [e1, e2, hk, Z.rnd_eq h0 (by omega) oa.pos]
      exact rround_go m h0 (by omega) w (ckR ha hk) (wrR ha hk) (Z.lt_chk c1) (Z.lt_chk c2) oa.pos
    · have e2 : Z.rndS m a = ⟨#[]⟩ := by unfold Z.rndS; rw [e1, if_neg hk]
      rw [e1, e2]
      exact rround_bad a m _ w (by omega) (ckR ha rfl) (by simpa using hk)
theorem Away.below {w w' : World} (h : Away w) (hb : Below w.heap.size w w') : Away w' := by
  obtain ⟨h0, h1, h2, h3, h4⟩ := h
  have k : ∀ {i : Nat} {v : Value}, w.cell? ⟨0, i, none⟩ = some v → w'.cell? ⟨0, i, none⟩ = some v := fun h => (hb.cell (World.block_lt_of_cell? w _ h)).trans h
  exact ⟨k h0, k h1, k h2, k h3, k h4⟩
end Go.Proofs.YthafdckomhdlbaaDoor
