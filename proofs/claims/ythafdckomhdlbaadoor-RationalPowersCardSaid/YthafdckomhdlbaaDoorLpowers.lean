/-
  Powers multiply by adding exponents (a tied card: the table of ways lies as the text says).
-/
import Derived.Test.YthafdckomhdlbaaDoorRows
import Derived.Test.YthafdckomhdlbaaDoorRalive
import Derived.Test.YthafdckomhdlbaaDoorZpow
import Derived.Test.YthafdckomhdlbaaDoorShelf
import Derived.HandedShaped
import Derived.Test.YthafdckomhdlbaaDoorCards
import Derived.Test.YthafdckomhdlbaaDoorTie
import Derived.Test.YthafdckomhdlbaaDoorRd1
import Derived.SevenTiedAt
import Derived.ProofKit
import Derived.OpenShut
import Derived.ShutString
namespace Go.Proofs.YthafdckomhdlbaaDoor.lawPowers
open Go.ChangeShapes Go.WideShapes Go.ChangeAt Go.RowKit
open Go.ChangeMaps (open_string shut_string)

def PC (A : ByteArray) (n : Int) (r : ByteArray) (k : Int) : Prop := ∀ W : World, HasV W → Calls Tryd.prog 22 #[.string A, .int .i64 n] W fun e w' => e = .returned (.tuple #[.string r, .int .i64 k]) ∧ Below W.heap.size W w'
theorem pC_any (A : ByteArray) (n : Int) (hA : A.size ≤ 100000) (h0 : -100 ≤ n) (h1 : n ≤ 100) : PC A n (Z.powS A n) (Z.powE A n) := by
  intro W hv
  have := qpower_any A n W hv hA (by omega) (by omega)
  unfold PowRet at this
  exact this
theorem pC {x : Rat} {n : Int} (h : Z.Rt 20 x) (h0 : -24 ≤ n) (h1 : n ≤ 24) (hz : x ≠ 0 ∨ 0 ≤ n) : PC (Z.Q x) n (Z.Q (x ^ n)) 0 := by
  have := pC_any (Z.Q x) n (by have := h.size (by omega) (by omega); omega) (by omega) (by omega)
  rwa [(Z.pow_S h (by omega) (by omega) (k := n) (by omega) hz).1, (Z.pow_S h (by omega) (by omega) (k := n) (by omega) hz).2] at this
theorem pC0 {n : Int} (h0 : -24 ≤ n) (h1 : n < 0) : PC (Z.Q 0) n ⟨#[]⟩ 16 := by
  have := pC_any (Z.Q 0) n (by have := Z.rt_zero.size (by omega) (by omega); omega) (by omega) (by omega)
  rwa [(Z.pow_0 h1 (by omega)).1, (Z.pow_0 h1 (by omega)).2] at this
set_option maxRecDepth 100000 in
set_option maxHeartbeats 16000000 in
theorem walk (a : ByteArray) (m n : Int) (w : World) (hm0 : -9223372036854775808 ≤ m) (hm1 : m ≤ 9223372036854775807) (hn0 : -9223372036854775808 ≤ n) (hn1 : n ≤ 9223372036854775807) (hv : HasV w) (hA : Away w) :
    Calls Tryd.prog 7 #[.string a, .int .i64 m, .int .i64 n] w fun e w' => e = .returned (.bool true) ∧ Below w.heap.size w w' := by
  have AL := Lib.hid (ralive_any w hv hA)
  have HV := Lib.hid hv
  clear hv hA
  have FT := Lib.hid (fun W v hS => qfits_any 20 v [a] W hS (by omega) (by simp))
  cases hfit : qfitsB 20 [a]
  · rw [hfit] at FT
    clear hfit
    go_enter Tryd.func7, Tryd.ntmps7
    go_wp2_with fail
    refine AL.out.mono ?_
    rintro e w1 ⟨rfl, hb1⟩
    go_wp2_with fail
    have hal := (Below.refl w1.heap.size w1).alloc (Nat.le_refl _) (.cells #[.string a] 22)
    refine (FT.out _ _ (ss_new w1 [a] 22 (by simp))).mono ?_
    rintro e w2 ⟨rfl, hb2⟩
    have c2 := hb1.trans ((hal.trans (hb2.mono hal.size)).mono hb1.size)
    clear hb1 hal hb2 AL FT
    go_wp2_with fail
    go_ret
    exact ⟨rfl, c2⟩
  · rw [hfit] at FT
    by_cases b1 : m < -12
    · clear hfit
      go_enter Tryd.func7, Tryd.ntmps7
      go_wp2_with fail
      refine AL.out.mono ?_
      rintro e w1 ⟨rfl, hb1⟩
      go_wp2_with fail
      have hal := (Below.refl w1.heap.size w1).alloc (Nat.le_refl _) (.cells #[.string a] 22)
      refine (FT.out _ _ (ss_new w1 [a] 22 (by simp))).mono ?_
      rintro e w2 ⟨rfl, hb2⟩
      have c2 := hb1.trans ((hal.trans (hb2.mono hal.size)).mono hb1.size)
      clear hb1 hal hb2 AL FT
      go_wp2_with fail
      go_ret
      exact ⟨rfl, c2⟩
    by_cases b2 : 12 < m
    · clear hfit
      go_enter Tryd.func7, Tryd.ntmps7
      go_wp2_with fail
      refine AL.out.mono ?_
      rintro e w1 ⟨rfl, hb1⟩
      go_wp2_with fail
      have hal := (Below.refl w1.heap.size w1).alloc (Nat.le_refl _) (.cells #[.string a] 22)
      refine (FT.out _ _ (ss_new w1 [a] 22 (by simp))).mono ?_
      rintro e w2 ⟨rfl, hb2⟩
      have c2 := hb1.trans ((hal.trans (hb2.mono hal.size)).mono hb1.size)
      clear hb1 hal hb2 AL FT
      go_wp2_with fail
      go_ret
      exact ⟨rfl, c2⟩
    by_cases b3 : n < -12
    · clear hfit
      go_enter Tryd.func7, Tryd.ntmps7
      go_wp2_with fail
      refine AL.out.mono ?_
      rintro e w1 ⟨rfl, hb1⟩
      go_wp2_with fail
      have hal := (Below.refl w1.heap.size w1).alloc (Nat.le_refl _) (.cells #[.string a] 22)
      refine (FT.out _ _ (ss_new w1 [a] 22 (by simp))).mono ?_
      rintro e w2 ⟨rfl, hb2⟩
      have c2 := hb1.trans ((hal.trans (hb2.mono hal.size)).mono hb1.size)
      clear hb1 hal hb2 AL FT
      go_wp2_with fail
      go_ret
      exact ⟨rfl, c2⟩
    by_cases b4 : 12 < n
    · clear hfit
      go_enter Tryd.func7, Tryd.ntmps7
      go_wp2_with fail
      refine AL.out.mono ?_
      rintro e w1 ⟨rfl, hb1⟩
      go_wp2_with fail
      have hal := (Below.refl w1.heap.size w1).alloc (Nat.le_refl _) (.cells #[.string a] 22)
      refine (FT.out _ _ (ss_new w1 [a] 22 (by simp))).mono ?_
      rintro e w2 ⟨rfl, hb2⟩
      have c2 := hb1.trans ((hal.trans (hb2.mono hal.size)).mono hb1.size)
      clear hb1 hal hb2 AL FT
      go_wp2_with fail
      go_ret
      exact ⟨rfl, c2⟩
    obtain ⟨x, rfl, hx⟩ := qfits_get hfit (s := a) (by simp) (by omega)
    clear hfit
    have g1 : -12 ≤ m := by omega
    have g2 : m ≤ 12 := by omega
    have g3 : -12 ≤ n := by omega
    have g4 : n ≤ 12 := by omega
    by_cases h0 : x = 0
    · subst h0
      have C3 := Lib.hid (pC_any (Z.Q 0) (m + n) (by have := hx.size (by omega) (by omega); omega) (by omega) (by omega))
      generalize Z.powS (Z.Q 0) (m + n) = r3 at *
      generalize Z.powE (Z.Q 0) (m + n) = k3 at *
      rcases Int.lt_trichotomy m 0 with hm | hm | hm
      · have C1 := Lib.hid (pC0 (n := m) (by omega) hm)
        by_cases hn : n < 0
        · have C2 := Lib.hid (pC0 (n := n) (by omega) hn)
          rw [Z.Q_zero] at *
          unfold PC at *
          clear hx
          go_enter Tryd.func7, Tryd.ntmps7
          go_wp2_with fail
          refine AL.out.mono ?_
          rintro e w1 ⟨rfl, hb1⟩
          go_wp2_with fail
          have hal := (Below.refl w1.heap.size w1).alloc (Nat.le_refl _) (.cells #[.string ⟨#[48]⟩] 22)
          refine (FT.out _ _ (ss_new w1 [⟨#[48]⟩] 22 (by simp))).mono ?_
          rintro e w2 ⟨rfl, hb2⟩
          have c2 := hb1.trans ((hal.trans (hb2.mono hal.size)).mono hb1.size)
          clear hb1 hal hb2 AL FT
          go_wp2_with fail
          refine (C1.out _ (HV.out.below c2)).mono ?_
          rintro e w3 ⟨rfl, hb3⟩
          have c3 := c2.trans (hb3.mono c2.size)
          clear c2 hb3
          go_wp2_with fail
          refine (C2.out _ (HV.out.below c3)).mono ?_
          rintro e w4 ⟨rfl, hb4⟩
          have c4 := c3.trans (hb4.mono c3.size)
          clear c3 hb4
          go_wp2_with fail
          refine (C3.out _ (HV.out.below c4)).mono ?_
          rintro e w5 ⟨rfl, hb5⟩
          have c5 := c4.trans (hb5.mono c4.size)
          clear c4 hb5
          go_wp2_with fail
          go_ret
          refine ⟨ret_bool ?_, c5⟩
          first | rfl | (simp; done) | (simp; omega)
        · have C2 := Lib.hid (pC (n := n) hx (by omega) (by omega) (.inr (by omega)))
          generalize Z.Q ((0 : Rat) ^ n) = r2 at *
          rw [Z.Q_zero] at *
          unfold PC at *
          clear hx
          go_enter Tryd.func7, Tryd.ntmps7
          go_wp2_with fail
          refine AL.out.mono ?_
          rintro e w1 ⟨rfl, hb1⟩
          go_wp2_with fail
          have hal := (Below.refl w1.heap.size w1).alloc (Nat.le_refl _) (.cells #[.string ⟨#[48]⟩] 22)
          refine (FT.out _ _ (ss_new w1 [⟨#[48]⟩] 22 (by simp))).mono ?_
          rintro e w2 ⟨rfl, hb2⟩
          have c2 := hb1.trans ((hal.trans (hb2.mono hal.size)).mono hb1.size)
          clear hb1 hal hb2 AL FT
          go_wp2_with fail
          refine (C1.out _ (HV.out.below c2)).mono ?_
          rintro e w3 ⟨rfl, hb3⟩
          have c3 := c2.trans (hb3.mono c2.size)
          clear c2 hb3
          go_wp2_with fail
          refine (C2.out _ (HV.out.below c3)).mono ?_
          rintro e w4 ⟨rfl, hb4⟩
          have c4 := c3.trans (hb4.mono c3.size)
          clear c3 hb4
          go_wp2_with fail
          refine (C3.out _ (HV.out.below c4)).mono ?_
          rintro e w5 ⟨rfl, hb5⟩
          have c5 := c4.trans (hb5.mono c4.size)
          clear c4 hb5
          go_wp2_with fail
          go_ret
          refine ⟨ret_bool ?_, c5⟩
          first | rfl | (simp; done) | (simp; omega)
      · subst hm
        have C1 := Lib.hid (pC (n := 0) hx (by omega) (by omega) (.inr (by omega)))
        rw [show ((0 : Rat) ^ (0 : Int)) = 1 from rfl, Z.Q_1] at C1
        rw [Int.zero_add] at C3
        by_cases hn : n < 0
        · have C2 := Lib.hid (pC0 (n := n) (by omega) hn)
          rw [Z.Q_zero] at *
          unfold PC at *
          clear hx
          go_enter Tryd.func7, Tryd.ntmps7
          go_wp2_with fail
          refine AL.out.mono ?_
          rintro e w1 ⟨rfl, hb1⟩
          go_wp2_with fail
          have hal := (Below.refl w1.heap.size w1).alloc (Nat.le_refl _) (.cells #[.string ⟨#[48]⟩] 22)
          refine (FT.out _ _ (ss_new w1 [⟨#[48]⟩] 22 (by simp))).mono ?_
          rintro e w2 ⟨rfl, hb2⟩
          have c2 := hb1.trans ((hal.trans (hb2.mono hal.size)).mono hb1.size)
          clear hb1 hal hb2 AL FT
          go_wp2_with fail
          refine (C1.out _ (HV.out.below c2)).mono ?_
          rintro e w3 ⟨rfl, hb3⟩
          have c3 := c2.trans (hb3.mono c2.size)
          clear c2 hb3
          go_wp2_with fail
          refine (C2.out _ (HV.out.below c3)).mono ?_
          rintro e w4 ⟨rfl, hb4⟩
          have c4 := c3.trans (hb4.mono c3.size)
          clear c3 hb4
          go_wp2_with fail
          refine (C3.out _ (HV.out.below c4)).mono ?_
          rintro e w5 ⟨rfl, hb5⟩
          have c5 := c4.trans (hb5.mono c4.size)
          clear c4 hb5
          go_wp2_with fail
          go_ret
          refine ⟨ret_bool ?_, c5⟩
          first | rfl | (simp; done) | (simp; omega)
        · have C2 := Lib.hid (pC (n := n) hx (by omega) (by omega) (.inr (by omega)))
          generalize Z.Q ((0 : Rat) ^ n) = r2 at *
          rw [Z.Q_zero] at *
          unfold PC at *
          clear hx
          go_enter Tryd.func7, Tryd.ntmps7
          go_wp2_with fail
          refine AL.out.mono ?_
          rintro e w1 ⟨rfl, hb1⟩
          go_wp2_with fail
          have hal := (Below.refl w1.heap.size w1).alloc (Nat.le_refl _) (.cells #[.string ⟨#[48]⟩] 22)
          refine (FT.out _ _ (ss_new w1 [⟨#[48]⟩] 22 (by simp))).mono ?_
          rintro e w2 ⟨rfl, hb2⟩
          have c2 := hb1.trans ((hal.trans (hb2.mono hal.size)).mono hb1.size)
          clear hb1 hal hb2 AL FT
          go_wp2_with fail
          refine (C1.out _ (HV.out.below c2)).mono ?_
          rintro e w3 ⟨rfl, hb3⟩
          have c3 := c2.trans (hb3.mono c2.size)
          clear c2 hb3
          go_wp2_with fail
          refine (C2.out _ (HV.out.below c3)).mono ?_
          rintro e w4 ⟨rfl, hb4⟩
          have c4 := c3.trans (hb4.mono c3.size)
          clear c3 hb4
          go_wp2_with fail
          refine (C3.out _ (HV.out.below c4)).mono ?_
          rintro e w5 ⟨rfl, hb5⟩
          have c5 := c4.trans (hb5.mono c4.size)
          clear c4 hb5
          go_wp2_with fail
          go_ret
          refine ⟨ret_bool ?_, c5⟩
          first | rfl | (simp; done) | (simp; omega)
      · have C1 := Lib.hid (pC (n := m) hx (by omega) (by omega) (.inr (by omega)))
        rw [Z.zero_zpow hm, Z.Q_zero] at C1
        by_cases hn : n < 0
        · have C2 := Lib.hid (pC0 (n := n) (by omega) hn)
          rw [Z.Q_zero] at *
          unfold PC at *
          clear hx
          go_enter Tryd.func7, Tryd.ntmps7
          go_wp2_with fail
          refine AL.out.mono ?_
          rintro e w1 ⟨rfl, hb1⟩
          go_wp2_with fail
          have hal := (Below.refl w1.heap.size w1).alloc (Nat.le_refl _) (.cells #[.string ⟨#[48]⟩] 22)
          refine (FT.out _ _ (ss_new w1 [⟨#[48]⟩] 22 (by simp))).mono ?_
          rintro e w2 ⟨rfl, hb2⟩
          have c2 := hb1.trans ((hal.trans (hb2.mono hal.size)).mono hb1.size)
          clear hb1 hal hb2 AL FT
          go_wp2_with fail
          refine (C1.out _ (HV.out.below c2)).mono ?_
          rintro e w3 ⟨rfl, hb3⟩
          have c3 := c2.trans (hb3.mono c2.size)
          clear c2 hb3
          go_wp2_with fail
          refine (C2.out _ (HV.out.below c3)).mono ?_
          rintro e w4 ⟨rfl, hb4⟩
          have c4 := c3.trans (hb4.mono c3.size)
          clear c3 hb4
          go_wp2_with fail
          refine (C3.out _ (HV.out.below c4)).mono ?_
          rintro e w5 ⟨rfl, hb5⟩
          have c5 := c4.trans (hb5.mono c4.size)
          clear c4 hb5
          go_wp2_with fail
          go_ret
          refine ⟨ret_bool ?_, c5⟩
          first | rfl | (simp; done) | (simp; omega)
        · have C2 := Lib.hid (pC (n := n) hx (by omega) (by omega) (.inr (by omega)))
          generalize Z.Q ((0 : Rat) ^ n) = r2 at *
          rw [Z.Q_zero] at *
          unfold PC at *
          clear hx
          go_enter Tryd.func7, Tryd.ntmps7
          go_wp2_with fail
          refine AL.out.mono ?_
          rintro e w1 ⟨rfl, hb1⟩
          go_wp2_with fail
          have hal := (Below.refl w1.heap.size w1).alloc (Nat.le_refl _) (.cells #[.string ⟨#[48]⟩] 22)
          refine (FT.out _ _ (ss_new w1 [⟨#[48]⟩] 22 (by simp))).mono ?_
          rintro e w2 ⟨rfl, hb2⟩
          have c2 := hb1.trans ((hal.trans (hb2.mono hal.size)).mono hb1.size)
          clear hb1 hal hb2 AL FT
          go_wp2_with fail
          refine (C1.out _ (HV.out.below c2)).mono ?_
          rintro e w3 ⟨rfl, hb3⟩
          have c3 := c2.trans (hb3.mono c2.size)
          clear c2 hb3
          go_wp2_with fail
          refine (C2.out _ (HV.out.below c3)).mono ?_
          rintro e w4 ⟨rfl, hb4⟩
          have c4 := c3.trans (hb4.mono c3.size)
          clear c3 hb4
          go_wp2_with fail
          refine (C3.out _ (HV.out.below c4)).mono ?_
          rintro e w5 ⟨rfl, hb5⟩
          have c5 := c4.trans (hb5.mono c4.size)
          clear c4 hb5
          go_wp2_with fail
          go_ret
          refine ⟨ret_bool ?_, c5⟩
          first | rfl | (simp; done) | (simp; omega)
    · have C1 := Lib.hid (pC (n := m) hx (by omega) (by omega) (.inl h0))
      have C2 := Lib.hid (pC (n := n) hx (by omega) (by omega) (.inl h0))
      have C3 := Lib.hid (pC (n := m + n) hx (by omega) (by omega) (.inl h0))
      have C4 := Lib.hid (pC (n := -m) hx (by omega) (by omega) (.inl h0))
      have lm : Z.Rt 300 (x ^ m) := (Z.rt_zpow hx h0 m).mono (by omega)
      have ln : Z.Rt 300 (x ^ n) := (Z.rt_zpow hx h0 n).mono (by omega)
      have li : Z.Rt 300 (x ^ (-m)) := (Z.rt_zpow hx h0 (-m)).mono (by omega)
      have C5 := Lib.hid (qop_mul (qC_mul lm ln (by omega) (by omega) (by omega) (Rat.zpow_add h0 m n).symm))
      have C6 := Lib.hid (qop_mul (qC_mul lm li (by omega) (by omega) (by omega) (Z.zpow_one h0 m)))
      have x0 := Z.Q_beq h0
      rw [Z.Q_zero, Lib.toList_data ⟨#[48]⟩] at x0
      change ((Z.Q x).toList == [48]) = false at x0
      rw [Z.Q_1] at C6
      unfold PC QO at *
      clear h0 lm ln li hx
      generalize Z.Q (x ^ (m + n)) = Z' at *
      generalize Z.Q (x ^ (-m)) = I' at *
      generalize Z.Q (x ^ m) = X' at *
      generalize Z.Q (x ^ n) = Y' at *
      generalize Z.Q x = X at *
      go_enter Tryd.func7, Tryd.ntmps7
      go_wp2_with fail
      refine AL.out.mono ?_
      rintro e w1 ⟨rfl, hb1⟩
      go_wp2_with fail
      have hal := (Below.refl w1.heap.size w1).alloc (Nat.le_refl _) (.cells #[.string X] 22)
      refine (FT.out _ _ (ss_new w1 [X] 22 (by simp))).mono ?_
      rintro e w2 ⟨rfl, hb2⟩
      have c2 := hb1.trans ((hal.trans (hb2.mono hal.size)).mono hb1.size)
      clear hb1 hal hb2 AL FT
      go_wp2_with fail
      refine (C1.out _ (HV.out.below c2)).mono ?_
      rintro e w3 ⟨rfl, hb3⟩
      have c3 := c2.trans (hb3.mono c2.size)
      clear c2 hb3
      go_wp2_with fail
      refine (C2.out _ (HV.out.below c3)).mono ?_
      rintro e w4 ⟨rfl, hb4⟩
      have c4 := c3.trans (hb4.mono c3.size)
      clear c3 hb4
      go_wp2_with fail
      refine (C3.out _ (HV.out.below c4)).mono ?_
      rintro e w5 ⟨rfl, hb5⟩
      have c5 := c4.trans (hb5.mono c4.size)
      clear c4 hb5
      go_wp2_with fail
      refine (C4.out _ (HV.out.below c5)).mono ?_
      rintro e w6 ⟨rfl, hb6⟩
      have c6 := c5.trans (hb6.mono c5.size)
      clear c5 hb6
      go_wp2_with fail
      refine (C5.out _ (HV.out.below c6)).mono ?_
      rintro e w7 ⟨rfl, hb7⟩
      have c7 := c6.trans (hb7.mono c6.size)
      clear c6 hb7
      go_wp2_with fail
      refine (C6.out _ (HV.out.below c7)).mono ?_
      rintro e w8 ⟨rfl, hb8⟩
      have c8 := c7.trans (hb8.mono c7.size)
      clear c7 hb8
      go_wp2_with fail
      go_ret
      refine ⟨ret_bool ?_, c8⟩
      first | rfl | (simp; done) | (simp; omega)

set_option maxRecDepth 100000 in
theorem lifted (os : Os) (started : os.Started) (H : Type) (enc : TypeId × Value → H) :
    ReturnsInHanded {} Tryd.checked os 7 .any (fun w args => (Rows.rationalPowersSpec.pre enc Tryd.prog Tryd.f7 [] false w args ∧ laidMetH Tryd.prog laidL w) ∧ sizedMet enc Tryd.prog Tryd.f7 (OpenSpec.ofChange Rows.rationalPowersSpec) false w args) (Rows.rationalPowersSpec.post enc Tryd.prog Tryd.f7 false true false false) := by
  refine door_wrap (C := Tryd.checked) (laid := laidL) own started (by kernel_rfl) Tryd.func7
    (ChangeSpec.witness_shaped (enc := enc) (C := Tryd.checked) (os := os) (X := fun w _ => laidMetH Tryd.prog laidL w) false (World.doorLaid Tryd.prog 600 os) #[.string ByteArray.empty, .int .i64 0, .int .i64 0] 8 rfl (World.shaped_of_RefB (by kernel_rfl) (by kernel_rfl)) (by kernel_rfl) (by kernel_rfl) (by kernel_rfl) (door_met os _)) ?_
  intro W base args ds gs before hval0 hW _ hL hsh
  have hval : ∀ (j : Nat) t v, Tryd.f7.params[j]? = some t → args[j]? = some v → Value.okWide Tryd.prog W .any base t v := hval0
  have hW' := hW
  obtain ⟨p, q, hA0, hV, rfl, hfz, hnd⟩ := hW
  have hA : DataW.TrodAll enc Tryd.prog W 0 (fun _ => true) true Tryd.f7.params.toList args.toList ds p := hA0
  rw [Tryd.params7] at hA hval
  obtain ⟨v0, vs0, d0, ds0, p0, q0, hargs, rfl, rfl, h0, r0⟩ := trodAll_cons hA
  obtain ⟨v1, vs1, d1, ds1, p1, q1, rfl, rfl, rfl, h1, r1⟩ := trodAll_cons r0
  obtain ⟨v2, vs2, d2, ds2, p2, q2, rfl, rfl, rfl, h2, r2⟩ := trodAll_cons r1
  obtain ⟨rfl, rfl, rfl⟩ := trodAll_nil r2
  obtain rfl : args = #[v0, v1, v2] := by cases args; simp_all
  obtain ⟨rfl, rfl⟩ := trodVars_none hV
  obtain ⟨a0, rfl, rfl, rfl, w0⟩ := open_string Tryd.underlying22 (hval 0 22 v0 rfl rfl) h0
  obtain ⟨a1, rfl, rfl, rfl, w1⟩ := open_int Tryd.underlying3 (hval 1 3 v1 rfl rfl) h1
  obtain ⟨a2, rfl, rfl, rfl, w2⟩ := open_int Tryd.underlying3 (hval 2 3 v2 rfl rfl) h2
  clear hA0 hval0
  have bd1 := bounds_i64 w1
  have bd2 := bounds_i64 w2
  refine (walk a0 a1 a2 W bd1.1 bd1.2 bd2.1 bd2.2 (Tryd.laysM145.s1_3 W hsh) (of_laid hL)).mono fun e W' ⟨he, bel⟩ => ?_
  subst he
  exact ⟨_, rfl, _, _, _, [], _, [], hW', trodAll_mk1 (shut_bool Tryd.underlying4 _), (trodAll_cons_mk (shut_string Tryd.underlying22 w0) (trodAll_cons_mk (shut_int Tryd.underlying3 w1) (trodAll_cons_mk (shut_int Tryd.underlying3 w2) trodAll_mk0))), rfl, bel.frame _, fun h => by cases h⟩

theorem over : Rows.rationalPowersRow.holds Tryd.pinned (OpenSpec.ofChange Rows.rationalPowersSpec) :=
  OpenClaim.holds_of_wide 7 Tryd.f7 rfl rfl rfl rfl rfl rfl rfl ⟨rfl, rfl, rfl, rfl, rfl⟩ rfl rfl rfl rfl rfl (by kernel_rfl) Tryd.func7 (by kernel_rfl)
    (of_decide_eq_true (by kernel_rfl)) (by unfold Func.isWrapper; first | (rw [if_pos (by decide +kernel)]; kernel_rfl) | (rw [if_neg (by decide +kernel)]; exact ⟨rfl, rfl⟩))
    (fun os started H enc _ => lifted os started H enc)

theorem proved : Rows.RationalPowersCardSaid :=
  Claim7.holds_tied_plain_at .later [] [.funcs] true (true, "a18686d7ce9dac20472b8cafde1c95bf318b18ce38aaf4bc5c3d5f2f05446804") false
    over (fun _ h => by cases h) (by kernel_rfl) (fun _ h => by cases h) rationalPowers_row_tie rfl ⟨rfl, rfl⟩ (by kernel_rfl) rfl
    (fun f fn hf hfn => by
      obtain rfl : f = 7 := Option.some.inj ((show Tryd.prog.funcNamed "novation/novationlaw02.RationalPowers" = some 7 by kernel_rfl).symm.trans hf) |>.symm
      obtain rfl : fn = Tryd.f7 := (Option.some.inj (Tryd.func7.symm.trans hfn)).symm
      exact ⟨by kernel_rfl, fun j t ht => by
        rw [Tryd.params7] at ht
        have hm : t ∈ [22, 3, 3] := by simpa using Array.mem_of_getElem? ht
        have hall : ([22, 3, 3].all fun u => !Tryd.prog.wantsStandIn u) = true := by kernel_rfl
        exact (show Tryd.prog.wantsStandIn t = false by simpa using List.all_eq_true.1 hall t hm)⟩)
    (by kernel_rfl)
#print axioms proved
