/-
  Rounding changes a rational by less than 1, in the direction that the mode says (a tied card: the table of ways lies as the text says).
-/
import Derived.Test.YthafdckomhdlbaaDoorRows
import Derived.Test.YthafdckomhdlbaaDoorRalive
import Derived.Test.YthafdckomhdlbaaDoorZnear
import Derived.Test.YthafdckomhdlbaaDoorShelf
import Derived.HandedShaped
import Derived.Test.YthafdckomhdlbaaDoorCards
import Derived.Test.YthafdckomhdlbaaDoorTie
import Derived.Test.YthafdckomhdlbaaDoorRd1
import Derived.SevenTiedAt
import Derived.ProofKit
import Derived.OpenShut
import Derived.ShutString
namespace Go.Proofs.YthafdckomhdlbaaDoor.lawNear
open Go.ChangeShapes Go.WideShapes Go.ChangeAt Go.RowKit
open Go.ChangeMaps (open_string shut_string)

theorem rC {x : Rat} {m r : Int} (h : Z.Rt 400 x) (h0 : 0 ≤ m) (h4 : m ≤ 4) (hr : Z.rndP m x.num x.den = r) : RC (Z.Q x) m (Z.S r) 0 := by
  have hk : Z.rndE m (Z.Q x) = 0 := by unfold Z.rndE; rw [if_neg (by omega), h.chk (by omega) (by omega)]
  refine rC_of (by have := h.size (by omega) (by omega); omega) h0 ?_ hk
  unfold Z.rndS
  rw [if_pos hk, Z.Q_n, Z.Q_d, hr]
def IK (A : ByteArray) : Prop := ∀ W : World, Calls Tryd.prog 20 #[.string A] W fun e w' => e = .returned (.int .i64 0) ∧ Below W.heap.size W w'
theorem iK {r : Int} (h : Z.Lt 400 r) : IK (Z.S r) := by
  intro W
  have h1 := h.chk (by omega) (by omega)
  have h2 := Z.chk_mil h1
  have := check_any (Z.S r) W (by unfold maxLen; omega)
  unfold ChkRet at this
  rw [h1] at this
  refine this.mono ?_
  rintro e w1 ⟨rfl, hb⟩
  exact ⟨rfl, by first | exact hb | (subst hb; exact Below.refl _ _)⟩
theorem natAbs_le_of {n d r t : Int} (hd : 0 < d) (ht : r * d - n = t) (h1 : -d < t) (h2 : t < d) : r.natAbs ≤ n.natAbs := by
  have e : (r * d).natAbs = r.natAbs * d.natAbs := Int.natAbs_mul r d
  have h3 : (r * d).natAbs < n.natAbs + d.natAbs := by generalize r * d = z at *; omega
  rw [e] at h3
  have h4 : n.natAbs + d.natAbs ≤ (n.natAbs + 1) * d.natAbs := by
    rw [Nat.add_mul, Nat.one_mul]
    exact Nat.add_le_add_right (Nat.le_mul_of_pos_right _ (by omega)) _
  have h5 : r.natAbs * d.natAbs < (n.natAbs + 1) * d.natAbs := Nat.lt_of_lt_of_le h3 h4
  have := Nat.lt_of_mul_lt_mul_right h5
  omega
theorem Q_half : Z.Q (Rat.divInt 1 2) = ⟨#[49, 47, 50]⟩ := by decide +kernel
theorem rt_half : Z.Rt 1 (Rat.divInt 1 2) := ⟨by unfold Z.Lt; decide +kernel, by unfold Z.Lt; decide +kernel⟩
theorem cmp_one {y : Rat} (h : y.num < y.den) : Z.cmpR y 1 = -1 := by
  unfold Z.cmpR
  exact Z.cmpI_lt (by show y.num * 1 < 1 * (y.den : Int); omega)
theorem cmp_half (y : Rat) : (2 * y.num ≤ y.den → Z.cmpR y (Rat.divInt 1 2) ≤ 0) ∧ (2 * y.num < y.den → Z.cmpR y (Rat.divInt 1 2) < 0) := by
  have e1 : (Rat.divInt 1 2).num = 1 := by decide +kernel
  have e2 : (((Rat.divInt 1 2).den : Nat) : Int) = 2 := by decide +kernel
  unfold Z.cmpR
  rw [e1, e2]
  exact ⟨fun h => Z.le_cmpI (by omega), fun h => by rw [Z.cmpI_lt (by omega)]; omega⟩
theorem cmp_zero (y : Rat) : (y.num < 0 → Z.cmpR y 0 = -1) ∧ (0 < y.num → Z.cmpR y 0 = 1) ∧ (y.num = 0 → Z.cmpR y 0 = 0) := by
  have e : Z.cmpR y 0 = Z.cmpI (y.num * 1) (0 * y.den) := rfl
  rw [e, Int.mul_one, Int.zero_mul]
  exact ⟨Z.cmpI_lt, Z.cmpI_gt, Z.cmpI_eq⟩
set_option maxRecDepth 100000 in
set_option maxHeartbeats 16000000 in
theorem walk (a : ByteArray) (m : Int) (w : World) (hm0 : 0 ≤ m) (hm1 : m ≤ 255) (hv : HasV w) (hA : Away w) :
    Calls Tryd.prog 6 #[.string a, .int .u8 m] w fun e w' => e = .returned (.bool true) ∧ Below w.heap.size w w' := by
  have AL := Lib.hid (ralive_any w hv hA)
  have HV := Lib.hid hv
  have HA := Lib.hid hA
  clear hv hA
  have FT := Lib.hid (fun W v hS => qfits_any 400 v [a] W hS (by omega) (by simp))
  cases hfit : qfitsB 400 [a]
  · rw [hfit] at FT
    clear hfit
    go_enter Tryd.func6, Tryd.ntmps6
    go_wp2_with fail
    refine AL.out.mono ?_
    rintro e w1 ⟨rfl, hb1⟩
    go_wp2_with fail
    have hal := (Below.refl w1.heap.size w1).alloc (Nat.le_refl _) (.cells #[.string a] 22)
    refine (FT.out _ _ (ss_new w1 [a] 22 (by simp))).mono ?_
    rintro e w2 ⟨rfl, hb2⟩
    have c2 := hb1.trans ((hal.trans (hb2.mono hal.size)).mono hb1.size)
    clear hb1 hal hb2 AL FT
    go_wp2_with fail
    go_ret
    exact ⟨rfl, c2⟩
  · rw [hfit] at FT
    by_cases b1 : 4 < m
    · clear hfit
      go_enter Tryd.func6, Tryd.ntmps6
      go_wp2_with fail
      refine AL.out.mono ?_
      rintro e w1 ⟨rfl, hb1⟩
      go_wp2_with fail
      have hal := (Below.refl w1.heap.size w1).alloc (Nat.le_refl _) (.cells #[.string a] 22)
      refine (FT.out _ _ (ss_new w1 [a] 22 (by simp))).mono ?_
      rintro e w2 ⟨rfl, hb2⟩
      have c2 := hb1.trans ((hal.trans (hb2.mono hal.size)).mono hb1.size)
      clear hb1 hal hb2 AL FT
      go_wp2_with fail
      go_ret
      exact ⟨rfl, c2⟩
    obtain ⟨x, rfl, hx⟩ := qfits_get hfit (s := a) (by simp) (by omega)
    clear hfit
    have hd := Z.den_pos' x
    obtain ⟨r, hr⟩ : ∃ r, Z.rndP m x.num x.den = r := ⟨_, rfl⟩
    obtain ⟨t, ht⟩ : ∃ t, r * x.den - x.num = t := ⟨_, rfl⟩
    obtain ⟨⟨f1, f2⟩, F0, F1, F4, F2, F3, F5⟩ := Z.near_facts hm0 (by omega) hd r t hr ht
    obtain ⟨dn, dd⟩ := Z.near_parts x r
    rw [ht] at dn
    have lr : Z.Lt 400 r := hx.1.of_le (natAbs_le_of hd ht f1 f2)
    have lq := Z.rt_int lr (by omega)
    have CR := Lib.hid (rC hx hm0 (by omega) hr)
    have CI := Lib.hid (iK lr)
    obtain ⟨D, hD⟩ : ∃ D, (r : Rat) - x = D := ⟨_, rfl⟩
    have CS := Lib.hid (qop_sub (qC_sub lq hx (by omega) (by omega) (by omega) hD))
    rw [Z.Q_int] at CS
    rw [hD] at dn dd
    have lD : Z.Rt 400 D := by
      refine ⟨?_, by rw [dd]; exact hx.2⟩
      rw [dn]; exact hx.2.of_le (by omega)
    have CP := partS (a := Z.Q x) (by have := hx.size (by omega) (by omega); omega) (hx.chk (by omega) (by omega))
    rw [Z.Q_n, Z.Q_d] at CP
    have C3 := Lib.hid (qC_cmp lD Z.rt_zero (by omega) (by omega) (by omega) rfl)
    have C4 := Lib.hid (qC_cmp hx Z.rt_zero (by omega) (by omega) (by omega) rfl)
    obtain ⟨s1, s2, s3⟩ := cmp_zero x
    have sb := Z.cmpR_bd x 0
    obtain ⟨k, hk⟩ : ∃ k, Z.cmpR x 0 = k := ⟨_, rfl⟩
    rw [hk] at s1 s2 s3 C4 sb
    rw [Z.Q_zero] at C3 C4
    have nes := Z.S_ne r
    have ned := Z.Q_ne D
    have pss := Z.S_pos r
    have psd := Z.Q_pos D
    have mxs := Z.chk_mil (lr.chk (by omega) (by omega))
    have mxd := lD.size (by omega) (by omega)
    have hed := Z.Q_headF D
    have ev := Z.even_any (x := r)
    unfold RC IK QO QK PartC at *
    rcases Int.lt_trichotomy t 0 with h0 | h0 | h0
    · have hn : D.num < 0 := by omega
      have lY : Z.Rt 400 (-D) := lD.neg
      have C1 := Lib.hid (qC_cmp lY Z.rt_one (by omega) (by omega) (by omega) (cmp_one (by rw [Rat.neg_num, Rat.neg_den]; omega)))
      obtain ⟨h2, h3⟩ := cmp_half (-D)
      have C2 := Lib.hid (qC_cmp lY rt_half (by omega) (by omega) (by omega) rfl)
      rw [Rat.neg_num, Rat.neg_den, dn, dd] at h2 h3
      have tl := Z.Q_tail hn
      rw [(cmp_zero D).1 hn] at C3
      simp only [decide_eq_true hn] at hed
      rw [Z.Q_1] at C1
      rw [Q_half] at C2
      generalize Z.cmpR (-D) (Rat.divInt 1 2) = hf at *
      have d1 : (x.den : Int) ≠ 1 := by omega
      have dbe := Z.S_beq d1
      rw [Z.S_one, Lib.toList_data ⟨#[49]⟩] at dbe
      change ((Z.S (x.den : Int)).toList == [49]) = false at dbe
      clear hr ht dn dd lr lq lD hx hk hD hn d1 lY
      have hm5 : m = 0 ∨ m = 1 ∨ m = 2 ∨ m = 3 ∨ m = 4 := by omega
      rcases hm5 with rfl | rfl | rfl | rfl | rfl
      · have sk : 0 ≤ k := by have := F0 rfl; omega
        clear F0 F1 F2 F3 F4 F5 h0 h2 h3 s1 s2 s3 f1 f2 hd b1
        generalize Z.Q (-D) = Y at *
        generalize Z.Q x = X at *
        generalize Z.Q D = E at *
        generalize Z.S r = N at *
        generalize Z.S x.num = P at *
        generalize Z.S (x.den : Int) = M at *
        have hed2 := hed psd
        have pss2 : N.size - 1 < N.size := by omega
        have evn := ev pss2
        have kp1 : (0 : Int) < (E.size : Int) := by omega
        have kp2 : (0 : Int) < (N.size : Int) := by omega
        have kp3 : (N.size : Int) ≤ 1000000 := by omega
        have kp4 : (E.size : Int) ≤ 1000000 := by omega
        clear hed ev
        have kp5 : (1 : Int) ≤ (E.size : Int) := by omega
        go_enter Tryd.func6, Tryd.ntmps6
        go_wp2_with fail
        refine AL.out.mono ?_
        rintro e w1 ⟨rfl, hb1⟩
        go_wp2_with fail
        have hal := (Below.refl w1.heap.size w1).alloc (Nat.le_refl _) (.cells #[.string X] 22)
        refine (FT.out _ _ (ss_new w1 [X] 22 (by simp))).mono ?_
        rintro e w2 ⟨rfl, hb2⟩
        have c2 := hb1.trans ((hal.trans (hb2.mono hal.size)).mono hb1.size)
        clear hb1 hal hb2 AL FT
        go_wp2_with fail
        refine (CR.out _ (HV.out.below c2) (HA.out.below c2)).mono ?_
        rintro e w3 ⟨rfl, hb3⟩
        have c3 := c2.trans (hb3.mono c2.size)
        clear c2 hb3
        go_wp2_with fail
        refine (CS.out _ (HV.out.below c3)).mono ?_
        rintro e w4 ⟨rfl, hb4⟩
        have c4 := c3.trans (hb4.mono c3.size)
        clear c3 hb4
        go_wp2_with fail
        refine (CI.out _).mono ?_
        rintro e w5 ⟨rfl, hb5⟩
        have c5 := c4.trans (hb5.mono c4.size)
        clear c4 hb5
        go_wp2_with fail
        refine (C1.out _ (HV.out.below c5)).mono ?_
        rintro e w6 ⟨rfl, hb6⟩
        have c6 := c5.trans (hb6.mono c5.size)
        clear c5 hb6
        go_wp2_with fail
        refine (C2.out _ (HV.out.below c6)).mono ?_
        rintro e w7 ⟨rfl, hb7⟩
        have c7 := c6.trans (hb7.mono c6.size)
        clear c6 hb7
        go_wp2_with fail
        refine (C3.out _ (HV.out.below c7)).mono ?_
        rintro e w8 ⟨rfl, hb8⟩
        have c8 := c7.trans (hb8.mono c7.size)
        clear c7 hb8
        go_wp2_with fail
        refine (C4.out _ (HV.out.below c8)).mono ?_
        rintro e w9 ⟨rfl, hb9⟩
        have c9 := c8.trans (hb9.mono c8.size)
        clear c8 hb9
        go_wp2_with fail
        refine (CP.out _ (HV.out.below c9)).mono ?_
        rintro e w10 ⟨rfl, hb10⟩
        have c10 := c9.trans (hb10.mono c9.size)
        clear c9 hb10
        go_wp2_with fail
        all_goals (go_ret; refine ⟨ret_bool ?_, c10⟩; first | rfl | (simp; done) | (simp; omega))
      · have sk : k ≤ 0 := by have := F1 rfl; omega
        clear F0 F1 F2 F3 F4 F5 h0 h2 h3 s1 s2 s3 f1 f2 hd b1
        generalize Z.Q (-D) = Y at *
        generalize Z.Q x = X at *
        generalize Z.Q D = E at *
        generalize Z.S r = N at *
        generalize Z.S x.num = P at *
        generalize Z.S (x.den : Int) = M at *
        have hed2 := hed psd
        have pss2 : N.size - 1 < N.size := by omega
        have evn := ev pss2
        have kp1 : (0 : Int) < (E.size : Int) := by omega
        have kp2 : (0 : Int) < (N.size : Int) := by omega
        have kp3 : (N.size : Int) ≤ 1000000 := by omega
        have kp4 : (E.size : Int) ≤ 1000000 := by omega
        clear hed ev
        have kp5 : (1 : Int) ≤ (E.size : Int) := by omega
        go_enter Tryd.func6, Tryd.ntmps6
        go_wp2_with fail
        refine AL.out.mono ?_
        rintro e w1 ⟨rfl, hb1⟩
        go_wp2_with fail
        have hal := (Below.refl w1.heap.size w1).alloc (Nat.le_refl _) (.cells #[.string X] 22)
        refine (FT.out _ _ (ss_new w1 [X] 22 (by simp))).mono ?_
        rintro e w2 ⟨rfl, hb2⟩
        have c2 := hb1.trans ((hal.trans (hb2.mono hal.size)).mono hb1.size)
        clear hb1 hal hb2 AL FT
        go_wp2_with fail
        refine (CR.out _ (HV.out.below c2) (HA.out.below c2)).mono ?_
        rintro e w3 ⟨rfl, hb3⟩
        have c3 := c2.trans (hb3.mono c2.size)
        clear c2 hb3
        go_wp2_with fail
        refine (CS.out _ (HV.out.below c3)).mono ?_
        rintro e w4 ⟨rfl, hb4⟩
        have c4 := c3.trans (hb4.mono c3.size)
        clear c3 hb4
        go_wp2_with fail
        refine (CI.out _).mono ?_
        rintro e w5 ⟨rfl, hb5⟩
        have c5 := c4.trans (hb5.mono c4.size)
        clear c4 hb5
        go_wp2_with fail
        refine (C1.out _ (HV.out.below c5)).mono ?_
        rintro e w6 ⟨rfl, hb6⟩
        have c6 := c5.trans (hb6.mono c5.size)
        clear c5 hb6
        go_wp2_with fail
        refine (C2.out _ (HV.out.below c6)).mono ?_
        rintro e w7 ⟨rfl, hb7⟩
        have c7 := c6.trans (hb7.mono c6.size)
        clear c6 hb7
        go_wp2_with fail
        refine (C3.out _ (HV.out.below c7)).mono ?_
        rintro e w8 ⟨rfl, hb8⟩
        have c8 := c7.trans (hb8.mono c7.size)
        clear c7 hb8
        go_wp2_with fail
        refine (C4.out _ (HV.out.below c8)).mono ?_
        rintro e w9 ⟨rfl, hb9⟩
        have c9 := c8.trans (hb9.mono c8.size)
        clear c8 hb9
        go_wp2_with fail
        refine (CP.out _ (HV.out.below c9)).mono ?_
        rintro e w10 ⟨rfl, hb10⟩
        have c10 := c9.trans (hb10.mono c9.size)
        clear c9 hb10
        go_wp2_with fail
        all_goals (go_ret; refine ⟨ret_bool ?_, c10⟩; first | rfl | (simp; done) | (simp; omega))
      · have hh := h2 (by have := (F2 rfl).1; omega)
        by_cases hq : 2 * t = -x.den
        · have sk : k = -1 := by have := (F2 rfl).2; omega
          subst sk
          clear F0 F1 F2 F3 F4 F5 h0 h2 h3 s1 s2 s3 f1 f2 hd b1 hq
          generalize Z.Q (-D) = Y at *
          generalize Z.Q x = X at *
          generalize Z.Q D = E at *
          generalize Z.S r = N at *
          generalize Z.S x.num = P at *
          generalize Z.S (x.den : Int) = M at *
          have hed2 := hed psd
          have pss2 : N.size - 1 < N.size := by omega
          have evn := ev pss2
          have kp1 : (0 : Int) < (E.size : Int) := by omega
          have kp2 : (0 : Int) < (N.size : Int) := by omega
          have kp3 : (N.size : Int) ≤ 1000000 := by omega
          have kp4 : (E.size : Int) ≤ 1000000 := by omega
          clear hed ev
          have kp5 : (1 : Int) ≤ (E.size : Int) := by omega
          go_enter Tryd.func6, Tryd.ntmps6
          go_wp2_with fail
          refine AL.out.mono ?_
          rintro e w1 ⟨rfl, hb1⟩
          go_wp2_with fail
          have hal := (Below.refl w1.heap.size w1).alloc (Nat.le_refl _) (.cells #[.string X] 22)
          refine (FT.out _ _ (ss_new w1 [X] 22 (by simp))).mono ?_
          rintro e w2 ⟨rfl, hb2⟩
          have c2 := hb1.trans ((hal.trans (hb2.mono hal.size)).mono hb1.size)
          clear hb1 hal hb2 AL FT
          go_wp2_with fail
          refine (CR.out _ (HV.out.below c2) (HA.out.below c2)).mono ?_
          rintro e w3 ⟨rfl, hb3⟩
          have c3 := c2.trans (hb3.mono c2.size)
          clear c2 hb3
          go_wp2_with fail
          refine (CS.out _ (HV.out.below c3)).mono ?_
          rintro e w4 ⟨rfl, hb4⟩
          have c4 := c3.trans (hb4.mono c3.size)
          clear c3 hb4
          go_wp2_with fail
          refine (CI.out _).mono ?_
          rintro e w5 ⟨rfl, hb5⟩
          have c5 := c4.trans (hb5.mono c4.size)
          clear c4 hb5
          go_wp2_with fail
          refine (C1.out _ (HV.out.below c5)).mono ?_
          rintro e w6 ⟨rfl, hb6⟩
          have c6 := c5.trans (hb6.mono c5.size)
          clear c5 hb6
          go_wp2_with fail
          refine (C2.out _ (HV.out.below c6)).mono ?_
          rintro e w7 ⟨rfl, hb7⟩
          have c7 := c6.trans (hb7.mono c6.size)
          clear c6 hb7
          go_wp2_with fail
          refine (C3.out _ (HV.out.below c7)).mono ?_
          rintro e w8 ⟨rfl, hb8⟩
          have c8 := c7.trans (hb8.mono c7.size)
          clear c7 hb8
          go_wp2_with fail
          refine (C4.out _ (HV.out.below c8)).mono ?_
          rintro e w9 ⟨rfl, hb9⟩
          have c9 := c8.trans (hb9.mono c8.size)
          clear c8 hb9
          go_wp2_with fail
          refine (CP.out _ (HV.out.below c9)).mono ?_
          rintro e w10 ⟨rfl, hb10⟩
          have c10 := c9.trans (hb10.mono c9.size)
          clear c9 hb10
          go_wp2_with fail
          all_goals (go_ret; refine ⟨ret_bool ?_, c10⟩; first | rfl | (simp; done) | (simp; omega))
        · have hl := h3 (by have := (F2 rfl).1; omega)
          clear hh
          clear F0 F1 F2 F3 F4 F5 h0 h2 h3 s1 s2 s3 f1 f2 hd b1 hq
          generalize Z.Q (-D) = Y at *
          generalize Z.Q x = X at *
          generalize Z.Q D = E at *
          generalize Z.S r = N at *
          generalize Z.S x.num = P at *
          generalize Z.S (x.den : Int) = M at *
          have hed2 := hed psd
          have pss2 : N.size - 1 < N.size := by omega
          have evn := ev pss2
          have kp1 : (0 : Int) < (E.size : Int) := by omega
          have kp2 : (0 : Int) < (N.size : Int) := by omega
          have kp3 : (N.size : Int) ≤ 1000000 := by omega
          have kp4 : (E.size : Int) ≤ 1000000 := by omega
          clear hed ev
          have kp5 : (1 : Int) ≤ (E.size : Int) := by omega
          go_enter Tryd.func6, Tryd.ntmps6
          go_wp2_with fail
          refine AL.out.mono ?_
          rintro e w1 ⟨rfl, hb1⟩
          go_wp2_with fail
          have hal := (Below.refl w1.heap.size w1).alloc (Nat.le_refl _) (.cells #[.string X] 22)
          refine (FT.out _ _ (ss_new w1 [X] 22 (by simp))).mono ?_
          rintro e w2 ⟨rfl, hb2⟩
          have c2 := hb1.trans ((hal.trans (hb2.mono hal.size)).mono hb1.size)
          clear hb1 hal hb2 AL FT
          go_wp2_with fail
          refine (CR.out _ (HV.out.below c2) (HA.out.below c2)).mono ?_
          rintro e w3 ⟨rfl, hb3⟩
          have c3 := c2.trans (hb3.mono c2.size)
          clear c2 hb3
          go_wp2_with fail
          refine (CS.out _ (HV.out.below c3)).mono ?_
          rintro e w4 ⟨rfl, hb4⟩
          have c4 := c3.trans (hb4.mono c3.size)
          clear c3 hb4
          go_wp2_with fail
          refine (CI.out _).mono ?_
          rintro e w5 ⟨rfl, hb5⟩
          have c5 := c4.trans (hb5.mono c4.size)
          clear c4 hb5
          go_wp2_with fail
          refine (C1.out _ (HV.out.below c5)).mono ?_
          rintro e w6 ⟨rfl, hb6⟩
          have c6 := c5.trans (hb6.mono c5.size)
          clear c5 hb6
          go_wp2_with fail
          refine (C2.out _ (HV.out.below c6)).mono ?_
          rintro e w7 ⟨rfl, hb7⟩
          have c7 := c6.trans (hb7.mono c6.size)
          clear c6 hb7
          go_wp2_with fail
          refine (C3.out _ (HV.out.below c7)).mono ?_
          rintro e w8 ⟨rfl, hb8⟩
          have c8 := c7.trans (hb8.mono c7.size)
          clear c7 hb8
          go_wp2_with fail
          refine (C4.out _ (HV.out.below c8)).mono ?_
          rintro e w9 ⟨rfl, hb9⟩
          have c9 := c8.trans (hb9.mono c8.size)
          clear c8 hb9
          go_wp2_with fail
          refine (CP.out _ (HV.out.below c9)).mono ?_
          rintro e w10 ⟨rfl, hb10⟩
          have c10 := c9.trans (hb10.mono c9.size)
          clear c9 hb10
          go_wp2_with fail
          all_goals (go_ret; refine ⟨ret_bool ?_, c10⟩; first | rfl | (simp; done) | (simp; omega))
      · have hh := h2 (by have := (F3 rfl).1; omega)
        by_cases hq : 2 * t = -x.den
        · have he : r % 2 = 0 := (F3 rfl).2 (.inr hq)
          rw [decide_eq_true he] at ev
          clear F0 F1 F2 F3 F4 F5 h0 h2 h3 s1 s2 s3 f1 f2 hd b1 hq he
          generalize Z.Q (-D) = Y at *
          generalize Z.Q x = X at *
          generalize Z.Q D = E at *
          generalize Z.S r = N at *
          generalize Z.S x.num = P at *
          generalize Z.S (x.den : Int) = M at *
          have hed2 := hed psd
          have pss2 : N.size - 1 < N.size := by omega
          have evn := ev pss2
          have kp1 : (0 : Int) < (E.size : Int) := by omega
          have kp2 : (0 : Int) < (N.size : Int) := by omega
          have kp3 : (N.size : Int) ≤ 1000000 := by omega
          have kp4 : (E.size : Int) ≤ 1000000 := by omega
          clear hed ev
          have kp5 : (1 : Int) ≤ (E.size : Int) := by omega
          go_enter Tryd.func6, Tryd.ntmps6
          go_wp2_with fail
          refine AL.out.mono ?_
          rintro e w1 ⟨rfl, hb1⟩
          go_wp2_with fail
          have hal := (Below.refl w1.heap.size w1).alloc (Nat.le_refl _) (.cells #[.string X] 22)
          refine (FT.out _ _ (ss_new w1 [X] 22 (by simp))).mono ?_
          rintro e w2 ⟨rfl, hb2⟩
          have c2 := hb1.trans ((hal.trans (hb2.mono hal.size)).mono hb1.size)
          clear hb1 hal hb2 AL FT
          go_wp2_with fail
          refine (CR.out _ (HV.out.below c2) (HA.out.below c2)).mono ?_
          rintro e w3 ⟨rfl, hb3⟩
          have c3 := c2.trans (hb3.mono c2.size)
          clear c2 hb3
          go_wp2_with fail
          refine (CS.out _ (HV.out.below c3)).mono ?_
          rintro e w4 ⟨rfl, hb4⟩
          have c4 := c3.trans (hb4.mono c3.size)
          clear c3 hb4
          go_wp2_with fail
          refine (CI.out _).mono ?_
          rintro e w5 ⟨rfl, hb5⟩
          have c5 := c4.trans (hb5.mono c4.size)
          clear c4 hb5
          go_wp2_with fail
          refine (C1.out _ (HV.out.below c5)).mono ?_
          rintro e w6 ⟨rfl, hb6⟩
          have c6 := c5.trans (hb6.mono c5.size)
          clear c5 hb6
          go_wp2_with fail
          refine (C2.out _ (HV.out.below c6)).mono ?_
          rintro e w7 ⟨rfl, hb7⟩
          have c7 := c6.trans (hb7.mono c6.size)
          clear c6 hb7
          go_wp2_with fail
          refine (C3.out _ (HV.out.below c7)).mono ?_
          rintro e w8 ⟨rfl, hb8⟩
          have c8 := c7.trans (hb8.mono c7.size)
          clear c7 hb8
          go_wp2_with fail
          refine (C4.out _ (HV.out.below c8)).mono ?_
          rintro e w9 ⟨rfl, hb9⟩
          have c9 := c8.trans (hb9.mono c8.size)
          clear c8 hb9
          go_wp2_with fail
          refine (CP.out _ (HV.out.below c9)).mono ?_
          rintro e w10 ⟨rfl, hb10⟩
          have c10 := c9.trans (hb10.mono c9.size)
          clear c9 hb10
          go_wp2_with fail
          all_goals (go_ret; refine ⟨ret_bool ?_, c10⟩; first | rfl | (simp; done) | (simp; omega))
        · have hl := h3 (by have := (F3 rfl).1; omega)
          clear hh
          generalize eve : decide (r % 2 = 0) = ev0 at *
          clear eve
          clear F0 F1 F2 F3 F4 F5 h0 h2 h3 s1 s2 s3 f1 f2 hd b1 hq
          generalize Z.Q (-D) = Y at *
          generalize Z.Q x = X at *
          generalize Z.Q D = E at *
          generalize Z.S r = N at *
          generalize Z.S x.num = P at *
          generalize Z.S (x.den : Int) = M at *
          have hed2 := hed psd
          have pss2 : N.size - 1 < N.size := by omega
          have evn := ev pss2
          have kp1 : (0 : Int) < (E.size : Int) := by omega
          have kp2 : (0 : Int) < (N.size : Int) := by omega
          have kp3 : (N.size : Int) ≤ 1000000 := by omega
          have kp4 : (E.size : Int) ≤ 1000000 := by omega
          clear hed ev
          have kp5 : (1 : Int) ≤ (E.size : Int) := by omega
          go_enter Tryd.func6, Tryd.ntmps6
          go_wp2_with fail
          refine AL.out.mono ?_
          rintro e w1 ⟨rfl, hb1⟩
          go_wp2_with fail
          have hal := (Below.refl w1.heap.size w1).alloc (Nat.le_refl _) (.cells #[.string X] 22)
          refine (FT.out _ _ (ss_new w1 [X] 22 (by simp))).mono ?_
          rintro e w2 ⟨rfl, hb2⟩
          have c2 := hb1.trans ((hal.trans (hb2.mono hal.size)).mono hb1.size)
          clear hb1 hal hb2 AL FT
          go_wp2_with fail
          refine (CR.out _ (HV.out.below c2) (HA.out.below c2)).mono ?_
          rintro e w3 ⟨rfl, hb3⟩
          have c3 := c2.trans (hb3.mono c2.size)
          clear c2 hb3
          go_wp2_with fail
          refine (CS.out _ (HV.out.below c3)).mono ?_
          rintro e w4 ⟨rfl, hb4⟩
          have c4 := c3.trans (hb4.mono c3.size)
          clear c3 hb4
          go_wp2_with fail
          refine (CI.out _).mono ?_
          rintro e w5 ⟨rfl, hb5⟩
          have c5 := c4.trans (hb5.mono c4.size)
          clear c4 hb5
          go_wp2_with fail
          refine (C1.out _ (HV.out.below c5)).mono ?_
          rintro e w6 ⟨rfl, hb6⟩
          have c6 := c5.trans (hb6.mono c5.size)
          clear c5 hb6
          go_wp2_with fail
          refine (C2.out _ (HV.out.below c6)).mono ?_
          rintro e w7 ⟨rfl, hb7⟩
          have c7 := c6.trans (hb7.mono c6.size)
          clear c6 hb7
          go_wp2_with fail
          refine (C3.out _ (HV.out.below c7)).mono ?_
          rintro e w8 ⟨rfl, hb8⟩
          have c8 := c7.trans (hb8.mono c7.size)
          clear c7 hb8
          go_wp2_with fail
          refine (C4.out _ (HV.out.below c8)).mono ?_
          rintro e w9 ⟨rfl, hb9⟩
          have c9 := c8.trans (hb9.mono c8.size)
          clear c8 hb9
          go_wp2_with fail
          refine (CP.out _ (HV.out.below c9)).mono ?_
          rintro e w10 ⟨rfl, hb10⟩
          have c10 := c9.trans (hb10.mono c9.size)
          clear c9 hb10
          go_wp2_with fail
          all_goals (go_ret; refine ⟨ret_bool ?_, c10⟩; first | rfl | (simp; done) | (simp; omega))
      · clear F0 F1 F2 F3 F4 F5 h0 h2 h3 s1 s2 s3 f1 f2 hd b1
        generalize Z.Q (-D) = Y at *
        generalize Z.Q x = X at *
        generalize Z.Q D = E at *
        generalize Z.S r = N at *
        generalize Z.S x.num = P at *
        generalize Z.S (x.den : Int) = M at *
        have hed2 := hed psd
        have pss2 : N.size - 1 < N.size := by omega
        have evn := ev pss2
        have kp1 : (0 : Int) < (E.size : Int) := by omega
        have kp2 : (0 : Int) < (N.size : Int) := by omega
        have kp3 : (N.size : Int) ≤ 1000000 := by omega
        have kp4 : (E.size : Int) ≤ 1000000 := by omega
        clear hed ev
        have kp5 : (1 : Int) ≤ (E.size : Int) := by omega
        go_enter Tryd.func6, Tryd.ntmps6
        go_wp2_with fail
        refine AL.out.mono ?_
        rintro e w1 ⟨rfl, hb1⟩
        go_wp2_with fail
        have hal := (Below.refl w1.heap.size w1).alloc (Nat.le_refl _) (.cells #[.string X] 22)
        refine (FT.out _ _ (ss_new w1 [X] 22 (by simp))).mono ?_
        rintro e w2 ⟨rfl, hb2⟩
        have c2 := hb1.trans ((hal.trans (hb2.mono hal.size)).mono hb1.size)
        clear hb1 hal hb2 AL FT
        go_wp2_with fail
        refine (CR.out _ (HV.out.below c2) (HA.out.below c2)).mono ?_
        rintro e w3 ⟨rfl, hb3⟩
        have c3 := c2.trans (hb3.mono c2.size)
        clear c2 hb3
        go_wp2_with fail
        refine (CS.out _ (HV.out.below c3)).mono ?_
        rintro e w4 ⟨rfl, hb4⟩
        have c4 := c3.trans (hb4.mono c3.size)
        clear c3 hb4
        go_wp2_with fail
        refine (CI.out _).mono ?_
        rintro e w5 ⟨rfl, hb5⟩
        have c5 := c4.trans (hb5.mono c4.size)
        clear c4 hb5
        go_wp2_with fail
        refine (C1.out _ (HV.out.below c5)).mono ?_
        rintro e w6 ⟨rfl, hb6⟩
        have c6 := c5.trans (hb6.mono c5.size)
        clear c5 hb6
        go_wp2_with fail
        refine (C2.out _ (HV.out.below c6)).mono ?_
        rintro e w7 ⟨rfl, hb7⟩
        have c7 := c6.trans (hb7.mono c6.size)
        clear c6 hb7
        go_wp2_with fail
        refine (C3.out _ (HV.out.below c7)).mono ?_
        rintro e w8 ⟨rfl, hb8⟩
        have c8 := c7.trans (hb8.mono c7.size)
        clear c7 hb8
        go_wp2_with fail
        refine (C4.out _ (HV.out.below c8)).mono ?_
        rintro e w9 ⟨rfl, hb9⟩
        have c9 := c8.trans (hb9.mono c8.size)
        clear c8 hb9
        go_wp2_with fail
        refine (CP.out _ (HV.out.below c9)).mono ?_
        rintro e w10 ⟨rfl, hb10⟩
        have c10 := c9.trans (hb10.mono c9.size)
        clear c9 hb10
        go_wp2_with fail
        all_goals (go_ret; refine ⟨ret_bool ?_, c10⟩; first | rfl | (simp; done) | (simp; omega))
    · have hn : ¬ D.num < 0 := by omega
      have C1 := Lib.hid (qC_cmp lD Z.rt_one (by omega) (by omega) (by omega) (cmp_one (by omega)))
      have h3 := (cmp_half D).2 (by omega)
      have C2 := Lib.hid (qC_cmp lD rt_half (by omega) (by omega) (by omega) rfl)
      rw [(cmp_zero D).2.2 (by omega)] at C3
      simp only [decide_eq_false hn] at hed
      rw [Z.Q_1] at C1
      rw [Q_half] at C2
      generalize Z.cmpR D (Rat.divInt 1 2) = hf at *
      have d1 : x.den = 1 := by
        have hz : D = 0 := Rat.num_eq_zero.1 (by omega)
        rw [hz] at dd
        have e : (((0 : Rat).den : Nat) : Int) = 1 := rfl
        omega
      have hrn : x.num = r := (F5 (by omega)).symm
      have hQ : Z.Q x = Z.S r := by rw [Z.Q_one d1, hrn]
      have hS1 : Z.S (x.den : Int) = ⟨#[49]⟩ := by rw [d1]; exact Z.S_one
      rw [hQ] at CR CS C4 CP FT ⊢
      rw [hS1] at CP
      clear hr ht dn dd lr lq lD hx hk hD hn d1 hrn hQ hS1
      have hm5 : m = 0 ∨ m = 1 ∨ m = 2 ∨ m = 3 ∨ m = 4 := by omega
      rcases hm5 with rfl | rfl | rfl | rfl | rfl
      · clear F0 F1 F2 F3 F4 F5 h3 s1 s2 s3 f1 f2 hd b1
        generalize Z.Q D = E at *
        generalize Z.S r = N at *
        generalize Z.S x.num = P at *
        have hed2 := hed psd
        have pss2 : N.size - 1 < N.size := by omega
        have evn := ev pss2
        have kp1 : (0 : Int) < (E.size : Int) := by omega
        have kp2 : (0 : Int) < (N.size : Int) := by omega
        have kp3 : (N.size : Int) ≤ 1000000 := by omega
        have kp4 : (E.size : Int) ≤ 1000000 := by omega
        clear hed ev
        go_enter Tryd.func6, Tryd.ntmps6
        go_wp2_with fail
        refine AL.out.mono ?_
        rintro e w1 ⟨rfl, hb1⟩
        go_wp2_with fail
        have hal := (Below.refl w1.heap.size w1).alloc (Nat.le_refl _) (.cells #[.string N] 22)
        refine (FT.out _ _ (ss_new w1 [N] 22 (by simp))).mono ?_
        rintro e w2 ⟨rfl, hb2⟩
        have c2 := hb1.trans ((hal.trans (hb2.mono hal.size)).mono hb1.size)
        clear hb1 hal hb2 AL FT
        go_wp2_with fail
        refine (CR.out _ (HV.out.below c2) (HA.out.below c2)).mono ?_
        rintro e w3 ⟨rfl, hb3⟩
        have c3 := c2.trans (hb3.mono c2.size)
        clear c2 hb3
        go_wp2_with fail
        refine (CS.out _ (HV.out.below c3)).mono ?_
        rintro e w4 ⟨rfl, hb4⟩
        have c4 := c3.trans (hb4.mono c3.size)
        clear c3 hb4
        go_wp2_with fail
        refine (CI.out _).mono ?_
        rintro e w5 ⟨rfl, hb5⟩
        have c5 := c4.trans (hb5.mono c4.size)
        clear c4 hb5
        go_wp2_with fail
        refine (C1.out _ (HV.out.below c5)).mono ?_
        rintro e w6 ⟨rfl, hb6⟩
        have c6 := c5.trans (hb6.mono c5.size)
        clear c5 hb6
        go_wp2_with fail
        refine (C2.out _ (HV.out.below c6)).mono ?_
        rintro e w7 ⟨rfl, hb7⟩
        have c7 := c6.trans (hb7.mono c6.size)
        clear c6 hb7
        go_wp2_with fail
        refine (C3.out _ (HV.out.below c7)).mono ?_
        rintro e w8 ⟨rfl, hb8⟩
        have c8 := c7.trans (hb8.mono c7.size)
        clear c7 hb8
        go_wp2_with fail
        refine (C4.out _ (HV.out.below c8)).mono ?_
        rintro e w9 ⟨rfl, hb9⟩
        have c9 := c8.trans (hb9.mono c8.size)
        clear c8 hb9
        go_wp2_with fail
        refine (CP.out _ (HV.out.below c9)).mono ?_
        rintro e w10 ⟨rfl, hb10⟩
        have c10 := c9.trans (hb10.mono c9.size)
        clear c9 hb10
        go_wp2_with fail
        all_goals (go_ret; refine ⟨ret_bool ?_, c10⟩; first | rfl | (simp; done) | (simp; omega))
      · clear F0 F1 F2 F3 F4 F5 h3 s1 s2 s3 f1 f2 hd b1
        generalize Z.Q D = E at *
        generalize Z.S r = N at *
        generalize Z.S x.num = P at *
        have hed2 := hed psd
        have pss2 : N.size - 1 < N.size := by omega
        have evn := ev pss2
        have kp1 : (0 : Int) < (E.size : Int) := by omega
        have kp2 : (0 : Int) < (N.size : Int) := by omega
        have kp3 : (N.size : Int) ≤ 1000000 := by omega
        have kp4 : (E.size : Int) ≤ 1000000 := by omega
        clear hed ev
        go_enter Tryd.func6, Tryd.ntmps6
        go_wp2_with fail
        refine AL.out.mono ?_
        rintro e w1 ⟨rfl, hb1⟩
        go_wp2_with fail
        have hal := (Below.refl w1.heap.size w1).alloc (Nat.le_refl _) (.cells #[.string N] 22)
        refine (FT.out _ _ (ss_new w1 [N] 22 (by simp))).mono ?_
        rintro e w2 ⟨rfl, hb2⟩
        have c2 := hb1.trans ((hal.trans (hb2.mono hal.size)).mono hb1.size)
        clear hb1 hal hb2 AL FT
        go_wp2_with fail
        refine (CR.out _ (HV.out.below c2) (HA.out.below c2)).mono ?_
        rintro e w3 ⟨rfl, hb3⟩
        have c3 := c2.trans (hb3.mono c2.size)
        clear c2 hb3
        go_wp2_with fail
        refine (CS.out _ (HV.out.below c3)).mono ?_
        rintro e w4 ⟨rfl, hb4⟩
        have c4 := c3.trans (hb4.mono c3.size)
        clear c3 hb4
        go_wp2_with fail
        refine (CI.out _).mono ?_
        rintro e w5 ⟨rfl, hb5⟩
        have c5 := c4.trans (hb5.mono c4.size)
        clear c4 hb5
        go_wp2_with fail
        refine (C1.out _ (HV.out.below c5)).mono ?_
        rintro e w6 ⟨rfl, hb6⟩
        have c6 := c5.trans (hb6.mono c5.size)
        clear c5 hb6
        go_wp2_with fail
        refine (C2.out _ (HV.out.below c6)).mono ?_
        rintro e w7 ⟨rfl, hb7⟩
        have c7 := c6.trans (hb7.mono c6.size)
        clear c6 hb7
        go_wp2_with fail
        refine (C3.out _ (HV.out.below c7)).mono ?_
        rintro e w8 ⟨rfl, hb8⟩
        have c8 := c7.trans (hb8.mono c7.size)
        clear c7 hb8
        go_wp2_with fail
        refine (C4.out _ (HV.out.below c8)).mono ?_
        rintro e w9 ⟨rfl, hb9⟩
        have c9 := c8.trans (hb9.mono c8.size)
        clear c8 hb9
        go_wp2_with fail
        refine (CP.out _ (HV.out.below c9)).mono ?_
        rintro e w10 ⟨rfl, hb10⟩
        have c10 := c9.trans (hb10.mono c9.size)
        clear c9 hb10
        go_wp2_with fail
        all_goals (go_ret; refine ⟨ret_bool ?_, c10⟩; first | rfl | (simp; done) | (simp; omega))
      · have hh := h3
        clear F0 F1 F2 F3 F4 F5 h3 s1 s2 s3 f1 f2 hd b1
        generalize Z.Q D = E at *
        generalize Z.S r = N at *
        generalize Z.S x.num = P at *
        have hed2 := hed psd
        have pss2 : N.size - 1 < N.size := by omega
        have evn := ev pss2
        have kp1 : (0 : Int) < (E.size : Int) := by omega
        have kp2 : (0 : Int) < (N.size : Int) := by omega
        have kp3 : (N.size : Int) ≤ 1000000 := by omega
        have kp4 : (E.size : Int) ≤ 1000000 := by omega
        clear hed ev
        go_enter Tryd.func6, Tryd.ntmps6
        go_wp2_with fail
        refine AL.out.mono ?_
        rintro e w1 ⟨rfl, hb1⟩
        go_wp2_with fail
        have hal := (Below.refl w1.heap.size w1).alloc (Nat.le_refl _) (.cells #[.string N] 22)
        refine (FT.out _ _ (ss_new w1 [N] 22 (by simp))).mono ?_
        rintro e w2 ⟨rfl, hb2⟩
        have c2 := hb1.trans ((hal.trans (hb2.mono hal.size)).mono hb1.size)
        clear hb1 hal hb2 AL FT
        go_wp2_with fail
        refine (CR.out _ (HV.out.below c2) (HA.out.below c2)).mono ?_
        rintro e w3 ⟨rfl, hb3⟩
        have c3 := c2.trans (hb3.mono c2.size)
        clear c2 hb3
        go_wp2_with fail
        refine (CS.out _ (HV.out.below c3)).mono ?_
        rintro e w4 ⟨rfl, hb4⟩
        have c4 := c3.trans (hb4.mono c3.size)
        clear c3 hb4
        go_wp2_with fail
        refine (CI.out _).mono ?_
        rintro e w5 ⟨rfl, hb5⟩
        have c5 := c4.trans (hb5.mono c4.size)
        clear c4 hb5
        go_wp2_with fail
        refine (C1.out _ (HV.out.below c5)).mono ?_
        rintro e w6 ⟨rfl, hb6⟩
        have c6 := c5.trans (hb6.mono c5.size)
        clear c5 hb6
        go_wp2_with fail
        refine (C2.out _ (HV.out.below c6)).mono ?_
        rintro e w7 ⟨rfl, hb7⟩
        have c7 := c6.trans (hb7.mono c6.size)
        clear c6 hb7
        go_wp2_with fail
        refine (C3.out _ (HV.out.below c7)).mono ?_
        rintro e w8 ⟨rfl, hb8⟩
        have c8 := c7.trans (hb8.mono c7.size)
        clear c7 hb8
        go_wp2_with fail
        refine (C4.out _ (HV.out.below c8)).mono ?_
        rintro e w9 ⟨rfl, hb9⟩
        have c9 := c8.trans (hb9.mono c8.size)
        clear c8 hb9
        go_wp2_with fail
        refine (CP.out _ (HV.out.below c9)).mono ?_
        rintro e w10 ⟨rfl, hb10⟩
        have c10 := c9.trans (hb10.mono c9.size)
        clear c9 hb10
        go_wp2_with fail
        all_goals (go_ret; refine ⟨ret_bool ?_, c10⟩; first | rfl | (simp; done) | (simp; omega))
      · have hh := h3
        clear F0 F1 F2 F3 F4 F5 h3 s1 s2 s3 f1 f2 hd b1
        generalize eve : decide (r % 2 = 0) = ev0 at *
        clear eve
        generalize Z.Q D = E at *
        generalize Z.S r = N at *
        generalize Z.S x.num = P at *
        have hed2 := hed psd
        have pss2 : N.size - 1 < N.size := by omega
        have evn := ev pss2
        have kp1 : (0 : Int) < (E.size : Int) := by omega
        have kp2 : (0 : Int) < (N.size : Int) := by omega
        have kp3 : (N.size : Int) ≤ 1000000 := by omega
        have kp4 : (E.size : Int) ≤ 1000000 := by omega
        clear hed ev
        go_enter Tryd.func6, Tryd.ntmps6
        go_wp2_with fail
        refine AL.out.mono ?_
        rintro e w1 ⟨rfl, hb1⟩
        go_wp2_with fail
        have hal := (Below.refl w1.heap.size w1).alloc (Nat.le_refl _) (.cells #[.string N] 22)
        refine (FT.out _ _ (ss_new w1 [N] 22 (by simp))).mono ?_
        rintro e w2 ⟨rfl, hb2⟩
        have c2 := hb1.trans ((hal.trans (hb2.mono hal.size)).mono hb1.size)
        clear hb1 hal hb2 AL FT
        go_wp2_with fail
        refine (CR.out _ (HV.out.below c2) (HA.out.below c2)).mono ?_
        rintro e w3 ⟨rfl, hb3⟩
        have c3 := c2.trans (hb3.mono c2.size)
        clear c2 hb3
        go_wp2_with fail
        refine (CS.out _ (HV.out.below c3)).mono ?_
        rintro e w4 ⟨rfl, hb4⟩
        have c4 := c3.trans (hb4.mono c3.size)
        clear c3 hb4
        go_wp2_with fail
        refine (CI.out _).mono ?_
        rintro e w5 ⟨rfl, hb5⟩
        have c5 := c4.trans (hb5.mono c4.size)
        clear c4 hb5
        go_wp2_with fail
        refine (C1.out _ (HV.out.below c5)).mono ?_
        rintro e w6 ⟨rfl, hb6⟩
        have c6 := c5.trans (hb6.mono c5.size)
        clear c5 hb6
        go_wp2_with fail
        refine (C2.out _ (HV.out.below c6)).mono ?_
        rintro e w7 ⟨rfl, hb7⟩
        have c7 := c6.trans (hb7.mono c6.size)
        clear c6 hb7
        go_wp2_with fail
        refine (C3.out _ (HV.out.below c7)).mono ?_
        rintro e w8 ⟨rfl, hb8⟩
        have c8 := c7.trans (hb8.mono c7.size)
        clear c7 hb8
        go_wp2_with fail
        refine (C4.out _ (HV.out.below c8)).mono ?_
        rintro e w9 ⟨rfl, hb9⟩
        have c9 := c8.trans (hb9.mono c8.size)
        clear c8 hb9
        go_wp2_with fail
        refine (CP.out _ (HV.out.below c9)).mono ?_
        rintro e w10 ⟨rfl, hb10⟩
        have c10 := c9.trans (hb10.mono c9.size)
        clear c9 hb10
        go_wp2_with fail
        all_goals (go_ret; refine ⟨ret_bool ?_, c10⟩; first | rfl | (simp; done) | (simp; omega))
      · clear F0 F1 F2 F3 F4 F5 h3 s1 s2 s3 f1 f2 hd b1
        generalize Z.Q D = E at *
        generalize Z.S r = N at *
        generalize Z.S x.num = P at *
        have hed2 := hed psd
        have pss2 : N.size - 1 < N.size := by omega
        have evn := ev pss2
        have kp1 : (0 : Int) < (E.size : Int) := by omega
        have kp2 : (0 : Int) < (N.size : Int) := by omega
        have kp3 : (N.size : Int) ≤ 1000000 := by omega
        have kp4 : (E.size : Int) ≤ 1000000 := by omega
        clear hed ev
        go_enter Tryd.func6, Tryd.ntmps6
        go_wp2_with fail
        refine AL.out.mono ?_
        rintro e w1 ⟨rfl, hb1⟩
        go_wp2_with fail
        have hal := (Below.refl w1.heap.size w1).alloc (Nat.le_refl _) (.cells #[.string N] 22)
        refine (FT.out _ _ (ss_new w1 [N] 22 (by simp))).mono ?_
        rintro e w2 ⟨rfl, hb2⟩
        have c2 := hb1.trans ((hal.trans (hb2.mono hal.size)).mono hb1.size)
        clear hb1 hal hb2 AL FT
        go_wp2_with fail
        refine (CR.out _ (HV.out.below c2) (HA.out.below c2)).mono ?_
        rintro e w3 ⟨rfl, hb3⟩
        have c3 := c2.trans (hb3.mono c2.size)
        clear c2 hb3
        go_wp2_with fail
        refine (CS.out _ (HV.out.below c3)).mono ?_
        rintro e w4 ⟨rfl, hb4⟩
        have c4 := c3.trans (hb4.mono c3.size)
        clear c3 hb4
        go_wp2_with fail
        refine (CI.out _).mono ?_
        rintro e w5 ⟨rfl, hb5⟩
        have c5 := c4.trans (hb5.mono c4.size)
        clear c4 hb5
        go_wp2_with fail
        refine (C1.out _ (HV.out.below c5)).mono ?_
        rintro e w6 ⟨rfl, hb6⟩
        have c6 := c5.trans (hb6.mono c5.size)
        clear c5 hb6
        go_wp2_with fail
        refine (C2.out _ (HV.out.below c6)).mono ?_
        rintro e w7 ⟨rfl, hb7⟩
        have c7 := c6.trans (hb7.mono c6.size)
        clear c6 hb7
        go_wp2_with fail
        refine (C3.out _ (HV.out.below c7)).mono ?_
        rintro e w8 ⟨rfl, hb8⟩
        have c8 := c7.trans (hb8.mono c7.size)
        clear c7 hb8
        go_wp2_with fail
        refine (C4.out _ (HV.out.below c8)).mono ?_
        rintro e w9 ⟨rfl, hb9⟩
        have c9 := c8.trans (hb9.mono c8.size)
        clear c8 hb9
        go_wp2_with fail
        refine (CP.out _ (HV.out.below c9)).mono ?_
        rintro e w10 ⟨rfl, hb10⟩
        have c10 := c9.trans (hb10.mono c9.size)
        clear c9 hb10
        go_wp2_with fail
        all_goals (go_ret; refine ⟨ret_bool ?_, c10⟩; first | rfl | (simp; done) | (simp; omega))
    · have hn : ¬ D.num < 0 := by omega
      have C1 := Lib.hid (qC_cmp lD Z.rt_one (by omega) (by omega) (by omega) (cmp_one (by omega)))
      obtain ⟨h2, h3⟩ := cmp_half D
      rw [dn, dd] at h2 h3
      have C2 := Lib.hid (qC_cmp lD rt_half (by omega) (by omega) (by omega) rfl)
      rw [(cmp_zero D).2.1 (by omega)] at C3
      simp only [decide_eq_false hn] at hed
      rw [Z.Q_1] at C1
      rw [Q_half] at C2
      generalize Z.cmpR D (Rat.divInt 1 2) = hf at *
      have d1 : (x.den : Int) ≠ 1 := by omega
      have dbe := Z.S_beq d1
      rw [Z.S_one, Lib.toList_data ⟨#[49]⟩] at dbe
      change ((Z.S (x.den : Int)).toList == [49]) = false at dbe
      clear hr ht dn dd lr lq lD hx hk hD hn d1 
      have hm5 : m = 0 ∨ m = 1 ∨ m = 2 ∨ m = 3 ∨ m = 4 := by omega
      rcases hm5 with rfl | rfl | rfl | rfl | rfl
      · have sk : k ≤ 0 := by have := F0 rfl; omega
        clear F0 F1 F2 F3 F4 F5 h0 h2 h3 s1 s2 s3 f1 f2 hd b1
        generalize Z.Q x = X at *
        generalize Z.Q D = E at *
        generalize Z.S r = N at *
        generalize Z.S x.num = P at *
        generalize Z.S (x.den : Int) = M at *
        have hed2 := hed psd
        have pss2 : N.size - 1 < N.size := by omega
        have evn := ev pss2
        have kp1 : (0 : Int) < (E.size : Int) := by omega
        have kp2 : (0 : Int) < (N.size : Int) := by omega
        have kp3 : (N.size : Int) ≤ 1000000 := by omega
        have kp4 : (E.size : Int) ≤ 1000000 := by omega
        clear hed ev
        go_enter Tryd.func6, Tryd.ntmps6
        go_wp2_with fail
        refine AL.out.mono ?_
        rintro e w1 ⟨rfl, hb1⟩
        go_wp2_with fail
        have hal := (Below.refl w1.heap.size w1).alloc (Nat.le_refl _) (.cells #[.string X] 22)
        refine (FT.out _ _ (ss_new w1 [X] 22 (by simp))).mono ?_
        rintro e w2 ⟨rfl, hb2⟩
        have c2 := hb1.trans ((hal.trans (hb2.mono hal.size)).mono hb1.size)
        clear hb1 hal hb2 AL FT
        go_wp2_with fail
        refine (CR.out _ (HV.out.below c2) (HA.out.below c2)).mono ?_
        rintro e w3 ⟨rfl, hb3⟩
        have c3 := c2.trans (hb3.mono c2.size)
        clear c2 hb3
        go_wp2_with fail
        refine (CS.out _ (HV.out.below c3)).mono ?_
        rintro e w4 ⟨rfl, hb4⟩
        have c4 := c3.trans (hb4.mono c3.size)
        clear c3 hb4
        go_wp2_with fail
        refine (CI.out _).mono ?_
        rintro e w5 ⟨rfl, hb5⟩
        have c5 := c4.trans (hb5.mono c4.size)
        clear c4 hb5
        go_wp2_with fail
        refine (C1.out _ (HV.out.below c5)).mono ?_
        rintro e w6 ⟨rfl, hb6⟩
        have c6 := c5.trans (hb6.mono c5.size)
        clear c5 hb6
        go_wp2_with fail
        refine (C2.out _ (HV.out.below c6)).mono ?_
        rintro e w7 ⟨rfl, hb7⟩
        have c7 := c6.trans (hb7.mono c6.size)
        clear c6 hb7
        go_wp2_with fail
        refine (C3.out _ (HV.out.below c7)).mono ?_
        rintro e w8 ⟨rfl, hb8⟩
        have c8 := c7.trans (hb8.mono c7.size)
        clear c7 hb8
        go_wp2_with fail
        refine (C4.out _ (HV.out.below c8)).mono ?_
        rintro e w9 ⟨rfl, hb9⟩
        have c9 := c8.trans (hb9.mono c8.size)
        clear c8 hb9
        go_wp2_with fail
        refine (CP.out _ (HV.out.below c9)).mono ?_
        rintro e w10 ⟨rfl, hb10⟩
        have c10 := c9.trans (hb10.mono c9.size)
        clear c9 hb10
        go_wp2_with fail
        all_goals (go_ret; refine ⟨ret_bool ?_, c10⟩; first | rfl | (simp; done) | (simp; omega))
      · have sk : 0 ≤ k := by have := F1 rfl; omega
        clear F0 F1 F2 F3 F4 F5 h0 h2 h3 s1 s2 s3 f1 f2 hd b1
        generalize Z.Q x = X at *
        generalize Z.Q D = E at *
        generalize Z.S r = N at *
        generalize Z.S x.num = P at *
        generalize Z.S (x.den : Int) = M at *
        have hed2 := hed psd
        have pss2 : N.size - 1 < N.size := by omega
        have evn := ev pss2
        have kp1 : (0 : Int) < (E.size : Int) := by omega
        have kp2 : (0 : Int) < (N.size : Int) := by omega
        have kp3 : (N.size : Int) ≤ 1000000 := by omega
        have kp4 : (E.size : Int) ≤ 1000000 := by omega
        clear hed ev
        go_enter Tryd.func6, Tryd.ntmps6
        go_wp2_with fail
        refine AL.out.mono ?_
        rintro e w1 ⟨rfl, hb1⟩
        go_wp2_with fail
        have hal := (Below.refl w1.heap.size w1).alloc (Nat.le_refl _) (.cells #[.string X] 22)
        refine (FT.out _ _ (ss_new w1 [X] 22 (by simp))).mono ?_
        rintro e w2 ⟨rfl, hb2⟩
        have c2 := hb1.trans ((hal.trans (hb2.mono hal.size)).mono hb1.size)
        clear hb1 hal hb2 AL FT
        go_wp2_with fail
        refine (CR.out _ (HV.out.below c2) (HA.out.below c2)).mono ?_
        rintro e w3 ⟨rfl, hb3⟩
        have c3 := c2.trans (hb3.mono c2.size)
        clear c2 hb3
        go_wp2_with fail
        refine (CS.out _ (HV.out.below c3)).mono ?_
        rintro e w4 ⟨rfl, hb4⟩
        have c4 := c3.trans (hb4.mono c3.size)
        clear c3 hb4
        go_wp2_with fail
        refine (CI.out _).mono ?_
        rintro e w5 ⟨rfl, hb5⟩
        have c5 := c4.trans (hb5.mono c4.size)
        clear c4 hb5
        go_wp2_with fail
        refine (C1.out _ (HV.out.below c5)).mono ?_
        rintro e w6 ⟨rfl, hb6⟩
        have c6 := c5.trans (hb6.mono c5.size)
        clear c5 hb6
        go_wp2_with fail
        refine (C2.out _ (HV.out.below c6)).mono ?_
        rintro e w7 ⟨rfl, hb7⟩
        have c7 := c6.trans (hb7.mono c6.size)
        clear c6 hb7
        go_wp2_with fail
        refine (C3.out _ (HV.out.below c7)).mono ?_
        rintro e w8 ⟨rfl, hb8⟩
        have c8 := c7.trans (hb8.mono c7.size)
        clear c7 hb8
        go_wp2_with fail
        refine (C4.out _ (HV.out.below c8)).mono ?_
        rintro e w9 ⟨rfl, hb9⟩
        have c9 := c8.trans (hb9.mono c8.size)
        clear c8 hb9
        go_wp2_with fail
        refine (CP.out _ (HV.out.below c9)).mono ?_
        rintro e w10 ⟨rfl, hb10⟩
        have c10 := c9.trans (hb10.mono c9.size)
        clear c9 hb10
        go_wp2_with fail
        all_goals (go_ret; refine ⟨ret_bool ?_, c10⟩; first | rfl | (simp; done) | (simp; omega))
      · have hh := h2 (by have := (F2 rfl).1; omega)
        by_cases hq : 2 * t = x.den
        · have sk : k = 1 := by have := (F2 rfl).2; omega
          subst sk
          clear F0 F1 F2 F3 F4 F5 h0 h2 h3 s1 s2 s3 f1 f2 hd b1 hq
          generalize Z.Q x = X at *
          generalize Z.Q D = E at *
          generalize Z.S r = N at *
          generalize Z.S x.num = P at *
          generalize Z.S (x.den : Int) = M at *
          have hed2 := hed psd
          have pss2 : N.size - 1 < N.size := by omega
          have evn := ev pss2
          have kp1 : (0 : Int) < (E.size : Int) := by omega
          have kp2 : (0 : Int) < (N.size : Int) := by omega
          have kp3 : (N.size : Int) ≤ 1000000 := by omega
          have kp4 : (E.size : Int) ≤ 1000000 := by omega
          clear hed ev
          go_enter Tryd.func6, Tryd.ntmps6
          go_wp2_with fail
          refine AL.out.mono ?_
          rintro e w1 ⟨rfl, hb1⟩
          go_wp2_with fail
          have hal := (Below.refl w1.heap.size w1).alloc (Nat.le_refl _) (.cells #[.string X] 22)
          refine (FT.out _ _ (ss_new w1 [X] 22 (by simp))).mono ?_
          rintro e w2 ⟨rfl, hb2⟩
          have c2 := hb1.trans ((hal.trans (hb2.mono hal.size)).mono hb1.size)
          clear hb1 hal hb2 AL FT
          go_wp2_with fail
          refine (CR.out _ (HV.out.below c2) (HA.out.below c2)).mono ?_
          rintro e w3 ⟨rfl, hb3⟩
          have c3 := c2.trans (hb3.mono c2.size)
          clear c2 hb3
          go_wp2_with fail
          refine (CS.out _ (HV.out.below c3)).mono ?_
          rintro e w4 ⟨rfl, hb4⟩
          have c4 := c3.trans (hb4.mono c3.size)
          clear c3 hb4
          go_wp2_with fail
          refine (CI.out _).mono ?_
          rintro e w5 ⟨rfl, hb5⟩
          have c5 := c4.trans (hb5.mono c4.size)
          clear c4 hb5
          go_wp2_with fail
          refine (C1.out _ (HV.out.below c5)).mono ?_
          rintro e w6 ⟨rfl, hb6⟩
          have c6 := c5.trans (hb6.mono c5.size)
          clear c5 hb6
          go_wp2_with fail
          refine (C2.out _ (HV.out.below c6)).mono ?_
          rintro e w7 ⟨rfl, hb7⟩
          have c7 := c6.trans (hb7.mono c6.size)
          clear c6 hb7
          go_wp2_with fail
          refine (C3.out _ (HV.out.below c7)).mono ?_
          rintro e w8 ⟨rfl, hb8⟩
          have c8 := c7.trans (hb8.mono c7.size)
          clear c7 hb8
          go_wp2_with fail
          refine (C4.out _ (HV.out.below c8)).mono ?_
          rintro e w9 ⟨rfl, hb9⟩
          have c9 := c8.trans (hb9.mono c8.size)
          clear c8 hb9
          go_wp2_with fail
          refine (CP.out _ (HV.out.below c9)).mono ?_
          rintro e w10 ⟨rfl, hb10⟩
          have c10 := c9.trans (hb10.mono c9.size)
          clear c9 hb10
          go_wp2_with fail
          all_goals (go_ret; refine ⟨ret_bool ?_, c10⟩; first | rfl | (simp; done) | (simp; omega))
        · have hl := h3 (by have := (F2 rfl).1; omega)
          clear hh
          clear F0 F1 F2 F3 F4 F5 h0 h2 h3 s1 s2 s3 f1 f2 hd b1 hq
          generalize Z.Q x = X at *
          generalize Z.Q D = E at *
          generalize Z.S r = N at *
          generalize Z.S x.num = P at *
          generalize Z.S (x.den : Int) = M at *
          have hed2 := hed psd
          have pss2 : N.size - 1 < N.size := by omega
          have evn := ev pss2
          have kp1 : (0 : Int) < (E.size : Int) := by omega
          have kp2 : (0 : Int) < (N.size : Int) := by omega
          have kp3 : (N.size : Int) ≤ 1000000 := by omega
          have kp4 : (E.size : Int) ≤ 1000000 := by omega
          clear hed ev
          go_enter Tryd.func6, Tryd.ntmps6
          go_wp2_with fail
          refine AL.out.mono ?_
          rintro e w1 ⟨rfl, hb1⟩
          go_wp2_with fail
          have hal := (Below.refl w1.heap.size w1).alloc (Nat.le_refl _) (.cells #[.string X] 22)
          refine (FT.out _ _ (ss_new w1 [X] 22 (by simp))).mono ?_
          rintro e w2 ⟨rfl, hb2⟩
          have c2 := hb1.trans ((hal.trans (hb2.mono hal.size)).mono hb1.size)
          clear hb1 hal hb2 AL FT
          go_wp2_with fail
          refine (CR.out _ (HV.out.below c2) (HA.out.below c2)).mono ?_
          rintro e w3 ⟨rfl, hb3⟩
          have c3 := c2.trans (hb3.mono c2.size)
          clear c2 hb3
          go_wp2_with fail
          refine (CS.out _ (HV.out.below c3)).mono ?_
          rintro e w4 ⟨rfl, hb4⟩
          have c4 := c3.trans (hb4.mono c3.size)
          clear c3 hb4
          go_wp2_with fail
          refine (CI.out _).mono ?_
          rintro e w5 ⟨rfl, hb5⟩
          have c5 := c4.trans (hb5.mono c4.size)
          clear c4 hb5
          go_wp2_with fail
          refine (C1.out _ (HV.out.below c5)).mono ?_
          rintro e w6 ⟨rfl, hb6⟩
          have c6 := c5.trans (hb6.mono c5.size)
          clear c5 hb6
          go_wp2_with fail
          refine (C2.out _ (HV.out.below c6)).mono ?_
          rintro e w7 ⟨rfl, hb7⟩
          have c7 := c6.trans (hb7.mono c6.size)
          clear c6 hb7
          go_wp2_with fail
          refine (C3.out _ (HV.out.below c7)).mono ?_
          rintro e w8 ⟨rfl, hb8⟩
          have c8 := c7.trans (hb8.mono c7.size)
          clear c7 hb8
          go_wp2_with fail
          refine (C4.out _ (HV.out.below c8)).mono ?_
          rintro e w9 ⟨rfl, hb9⟩
          have c9 := c8.trans (hb9.mono c8.size)
          clear c8 hb9
          go_wp2_with fail
          refine (CP.out _ (HV.out.below c9)).mono ?_
          rintro e w10 ⟨rfl, hb10⟩
          have c10 := c9.trans (hb10.mono c9.size)
          clear c9 hb10
          go_wp2_with fail
          all_goals (go_ret; refine ⟨ret_bool ?_, c10⟩; first | rfl | (simp; done) | (simp; omega))
      · have hh := h2 (by have := (F3 rfl).1; omega)
        by_cases hq : 2 * t = x.den
        · have he : r % 2 = 0 := (F3 rfl).2 (.inl hq)
          rw [decide_eq_true he] at ev
          clear F0 F1 F2 F3 F4 F5 h0 h2 h3 s1 s2 s3 f1 f2 hd b1 hq he
          generalize Z.Q x = X at *
          generalize Z.Q D = E at *
          generalize Z.S r = N at *
          generalize Z.S x.num = P at *
          generalize Z.S (x.den : Int) = M at *
          have hed2 := hed psd
          have pss2 : N.size - 1 < N.size := by omega
          have evn := ev pss2
          have kp1 : (0 : Int) < (E.size : Int) := by omega
          have kp2 : (0 : Int) < (N.size : Int) := by omega
          have kp3 : (N.size : Int) ≤ 1000000 := by omega
          have kp4 : (E.size : Int) ≤ 1000000 := by omega
          clear hed ev
          go_enter Tryd.func6, Tryd.ntmps6
          go_wp2_with fail
          refine AL.out.mono ?_
          rintro e w1 ⟨rfl, hb1⟩
          go_wp2_with fail
          have hal := (Below.refl w1.heap.size w1).alloc (Nat.le_refl _) (.cells #[.string X] 22)
          refine (FT.out _ _ (ss_new w1 [X] 22 (by simp))).mono ?_
          rintro e w2 ⟨rfl, hb2⟩
          have c2 := hb1.trans ((hal.trans (hb2.mono hal.size)).mono hb1.size)
          clear hb1 hal hb2 AL FT
          go_wp2_with fail
          refine (CR.out _ (HV.out.below c2) (HA.out.below c2)).mono ?_
          rintro e w3 ⟨rfl, hb3⟩
          have c3 := c2.trans (hb3.mono c2.size)
          clear c2 hb3
          go_wp2_with fail
          refine (CS.out _ (HV.out.below c3)).mono ?_
          rintro e w4 ⟨rfl, hb4⟩
          have c4 := c3.trans (hb4.mono c3.size)
          clear c3 hb4
          go_wp2_with fail
          refine (CI.out _).mono ?_
          rintro e w5 ⟨rfl, hb5⟩
          have c5 := c4.trans (hb5.mono c4.size)
          clear c4 hb5
          go_wp2_with fail
          refine (C1.out _ (HV.out.below c5)).mono ?_
          rintro e w6 ⟨rfl, hb6⟩
          have c6 := c5.trans (hb6.mono c5.size)
          clear c5 hb6
          go_wp2_with fail
          refine (C2.out _ (HV.out.below c6)).mono ?_
          rintro e w7 ⟨rfl, hb7⟩
          have c7 := c6.trans (hb7.mono c6.size)
          clear c6 hb7
          go_wp2_with fail
          refine (C3.out _ (HV.out.below c7)).mono ?_
          rintro e w8 ⟨rfl, hb8⟩
          have c8 := c7.trans (hb8.mono c7.size)
          clear c7 hb8
          go_wp2_with fail
          refine (C4.out _ (HV.out.below c8)).mono ?_
          rintro e w9 ⟨rfl, hb9⟩
          have c9 := c8.trans (hb9.mono c8.size)
          clear c8 hb9
          go_wp2_with fail
          refine (CP.out _ (HV.out.below c9)).mono ?_
          rintro e w10 ⟨rfl, hb10⟩
          have c10 := c9.trans (hb10.mono c9.size)
          clear c9 hb10
          go_wp2_with fail
          all_goals (go_ret; refine ⟨ret_bool ?_, c10⟩; first | rfl | (simp; done) | (simp; omega))
        · have hl := h3 (by have := (F3 rfl).1; omega)
          clear hh
          generalize eve : decide (r % 2 = 0) = ev0 at *
          clear eve
          clear F0 F1 F2 F3 F4 F5 h0 h2 h3 s1 s2 s3 f1 f2 hd b1 hq
          generalize Z.Q x = X at *
          generalize Z.Q D = E at *
          generalize Z.S r = N at *
          generalize Z.S x.num = P at *
          generalize Z.S (x.den : Int) = M at *
          have hed2 := hed psd
          have pss2 : N.size - 1 < N.size := by omega
          have evn := ev pss2
          have kp1 : (0 : Int) < (E.size : Int) := by omega
          have kp2 : (0 : Int) < (N.size : Int) := by omega
          have kp3 : (N.size : Int) ≤ 1000000 := by omega
          have kp4 : (E.size : Int) ≤ 1000000 := by omega
          clear hed ev
          go_enter Tryd.func6, Tryd.ntmps6
          go_wp2_with fail
          refine AL.out.mono ?_
          rintro e w1 ⟨rfl, hb1⟩
          go_wp2_with fail
          have hal := (Below.refl w1.heap.size w1).alloc (Nat.le_refl _) (.cells #[.string X] 22)
          refine (FT.out _ _ (ss_new w1 [X] 22 (by simp))).mono ?_
          rintro e w2 ⟨rfl, hb2⟩
          have c2 := hb1.trans ((hal.trans (hb2.mono hal.size)).mono hb1.size)
          clear hb1 hal hb2 AL FT
          go_wp2_with fail
          refine (CR.out _ (HV.out.below c2) (HA.out.below c2)).mono ?_
          rintro e w3 ⟨rfl, hb3⟩
          have c3 := c2.trans (hb3.mono c2.size)
          clear c2 hb3
          go_wp2_with fail
          refine (CS.out _ (HV.out.below c3)).mono ?_
          rintro e w4 ⟨rfl, hb4⟩
          have c4 := c3.trans (hb4.mono c3.size)
          clear c3 hb4
          go_wp2_with fail
          refine (CI.out _).mono ?_
          rintro e w5 ⟨rfl, hb5⟩
          have c5 := c4.trans (hb5.mono c4.size)
          clear c4 hb5
          go_wp2_with fail
          refine (C1.out _ (HV.out.below c5)).mono ?_
          rintro e w6 ⟨rfl, hb6⟩
          have c6 := c5.trans (hb6.mono c5.size)
          clear c5 hb6
          go_wp2_with fail
          refine (C2.out _ (HV.out.below c6)).mono ?_
          rintro e w7 ⟨rfl, hb7⟩
          have c7 := c6.trans (hb7.mono c6.size)
          clear c6 hb7
          go_wp2_with fail
          refine (C3.out _ (HV.out.below c7)).mono ?_
          rintro e w8 ⟨rfl, hb8⟩
          have c8 := c7.trans (hb8.mono c7.size)
          clear c7 hb8
          go_wp2_with fail
          refine (C4.out _ (HV.out.below c8)).mono ?_
          rintro e w9 ⟨rfl, hb9⟩
          have c9 := c8.trans (hb9.mono c8.size)
          clear c8 hb9
          go_wp2_with fail
          refine (CP.out _ (HV.out.below c9)).mono ?_
          rintro e w10 ⟨rfl, hb10⟩
          have c10 := c9.trans (hb10.mono c9.size)
          clear c9 hb10
          go_wp2_with fail
          all_goals (go_ret; refine ⟨ret_bool ?_, c10⟩; first | rfl | (simp; done) | (simp; omega))
      · exact absurd (F4 rfl) (by omega)

set_option maxRecDepth 100000 in
theorem lifted (os : Os) (started : os.Started) (H : Type) (enc : TypeId × Value → H) :
    ReturnsInHanded {} Tryd.checked os 6 .any (fun w args => (Rows.rationalNearSpec.pre enc Tryd.prog Tryd.f6 [] false w args ∧ laidMetH Tryd.prog laidL w) ∧ sizedMet enc Tryd.prog Tryd.f6 (OpenSpec.ofChange Rows.rationalNearSpec) false w args) (Rows.rationalNearSpec.post enc Tryd.prog Tryd.f6 false true false false) := by
  refine door_wrap (C := Tryd.checked) (laid := laidL) own started (by kernel_rfl) Tryd.func6
    (ChangeSpec.witness_shaped (enc := enc) (C := Tryd.checked) (os := os) (X := fun w _ => laidMetH Tryd.prog laidL w) false (World.doorLaid Tryd.prog 600 os) #[.string ByteArray.empty, .int .u8 0] 8 rfl (World.shaped_of_RefB (by kernel_rfl) (by kernel_rfl)) (by kernel_rfl) (by kernel_rfl) (by kernel_rfl) (door_met os _)) ?_
  intro W base args ds gs before hval0 hW _ hL hsh
  have hval : ∀ (j : Nat) t v, Tryd.f6.params[j]? = some t → args[j]? = some v → Value.okWide Tryd.prog W .any base t v := hval0
  have hW' := hW
  obtain ⟨p, q, hA0, hV, rfl, hfz, hnd⟩ := hW
  have hA : DataW.TrodAll enc Tryd.prog W 0 (fun _ => true) true Tryd.f6.params.toList args.toList ds p := hA0
  rw [Tryd.params6] at hA hval
  obtain ⟨v0, vs0, d0, ds0, p0, q0, hargs, rfl, rfl, h0, r0⟩ := trodAll_cons hA
  obtain ⟨v1, vs1, d1, ds1, p1, q1, rfl, rfl, rfl, h1, r1⟩ := trodAll_cons r0
  obtain ⟨rfl, rfl, rfl⟩ := trodAll_nil r1
  obtain rfl : args = #[v0, v1] := by cases args; simp_all
  obtain ⟨rfl, rfl⟩ := trodVars_none hV
  obtain ⟨a0, rfl, rfl, rfl, w0⟩ := open_string Tryd.underlying22 (hval 0 22 v0 rfl rfl) h0
  obtain ⟨a1, rfl, rfl, rfl, w1⟩ := open_int Tryd.underlying5 (hval 1 5 v1 rfl rfl) h1
  clear hA0 hval0
  have bd1 := bounds_u8 w1
  refine (walk a0 a1 W bd1.1 bd1.2 (Tryd.laysM145.s1_3 W hsh) (of_laid hL)).mono fun e W' ⟨he, bel⟩ => ?_
  subst he
  exact ⟨_, rfl, _, _, _, [], _, [], hW', trodAll_mk1 (shut_bool Tryd.underlying4 _), (trodAll_cons_mk (shut_string Tryd.underlying22 w0) (trodAll_cons_mk (shut_int Tryd.underlying5 w1) trodAll_mk0)), rfl, bel.frame _, fun h => by cases h⟩

theorem over : Rows.rationalNearRow.holds Tryd.pinned (OpenSpec.ofChange Rows.rationalNearSpec) :=
  OpenClaim.holds_of_wide 6 Tryd.f6 rfl rfl rfl rfl rfl rfl rfl ⟨rfl, rfl, rfl, rfl, rfl⟩ rfl rfl rfl rfl rfl (by kernel_rfl) Tryd.func6 (by kernel_rfl)
    (of_decide_eq_true (by kernel_rfl)) (by unfold Func.isWrapper; first | (rw [if_pos (by decide +kernel)]; kernel_rfl) | (rw [if_neg (by decide +kernel)]; exact ⟨rfl, rfl⟩))
    (fun os started H enc _ => lifted os started H enc)

theorem proved : Rows.RationalNearCardSaid :=
  Claim7.holds_tied_plain_at .later [] [.funcs] true (true, "a18686d7ce9dac20472b8cafde1c95bf318b18ce38aaf4bc5c3d5f2f05446804") false
    over (fun _ h => by cases h) (by kernel_rfl) (fun _ h => by cases h) rationalNear_row_tie rfl ⟨rfl, rfl⟩ (by kernel_rfl) rfl
    (fun f fn hf hfn => by
      obtain rfl : f = 6 := Option.some.inj ((show Tryd.prog.funcNamed "novation/novationlaw02.RationalNear" = some 6 by kernel_rfl).symm.trans hf) |>.symm
      obtain rfl : fn = Tryd.f6 := (Option.some.inj (Tryd.func6.symm.trans hfn)).symm
      exact ⟨by kernel_rfl, fun j t ht => by
        rw [Tryd.params6] at ht
        have hm : t ∈ [22, 5] := by simpa using Array.mem_of_getElem? ht
        have hall : ([22, 5].all fun u => !Tryd.prog.wantsStandIn u) = true := by kernel_rfl
        exact (show Tryd.prog.wantsStandIn t = false by simpa using List.all_eq_true.1 hall t hm)⟩)
    (by kernel_rfl)
#print axioms proved
