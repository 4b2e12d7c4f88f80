/-
  Compare of package rational is a total order that sums and products with positive numbers keep (a tied card: the table of ways lies as the text says).
-/
import Derived.Test.YthafdckomhdlbaaDoorRows
import Derived.Test.YthafdckomhdlbaaDoorRalive
import Derived.Test.YthafdckomhdlbaaDoorShelf
import Derived.HandedShaped
import Derived.Test.YthafdckomhdlbaaDoorCards
import Derived.Test.YthafdckomhdlbaaDoorTie
import Derived.Test.YthafdckomhdlbaaDoorRd1
import Derived.SevenTiedAt
import Derived.ProofKit
import Derived.OpenShut
import Derived.ShutString
namespace Go.Proofs.YthafdckomhdlbaaDoor.lawOrdered
open Go.ChangeShapes Go.WideShapes Go.ChangeAt Go.RowKit
open Go.ChangeMaps (open_string shut_string)

set_option maxRecDepth 100000 in
set_option maxHeartbeats 16000000 in
theorem walk (a b c : ByteArray) (w : World) (hv : HasV w) (hA : Away w) :
    Calls Tryd.prog 5 #[.string a, .string b, .string c] w fun e w' => e = .returned (.bool true) ∧ Below w.heap.size w w' := by
  have AL := Lib.hid (ralive_any w hv hA)
  have HV := Lib.hid hv
  clear hv hA
  have FT := Lib.hid (fun W v hS => qfits_any 100 v [a, b, c] W hS (by omega) (by simp))
  cases hfit : qfitsB 100 [a, b, c]
  · rw [hfit] at FT
    clear hfit
    go_enter Tryd.func5, Tryd.ntmps5
    go_wp2_with fail
    refine AL.out.mono ?_
    rintro e w1 ⟨rfl, hb1⟩
    go_wp2_with fail
    have hal := (Below.refl w1.heap.size w1).alloc (Nat.le_refl _) (.cells #[.string a, .string b, .string c] 22)
    refine (FT.out _ _ (ss_new w1 [a, b, c] 22 (by simp))).mono ?_
    rintro e w2 ⟨rfl, hb2⟩
    have c2 := hb1.trans ((hal.trans (hb2.mono hal.size)).mono hb1.size)
    clear hb1 hal hb2 AL FT
    go_wp2_with fail
    go_ret
    exact ⟨rfl, c2⟩
  · obtain ⟨x, rfl, hx⟩ := qfits_get hfit (s := a) (by simp) (by omega)
    obtain ⟨y, rfl, hy⟩ := qfits_get hfit (s := b) (by simp) (by omega)
    obtain ⟨z, rfl, hz⟩ := qfits_get hfit (s := c) (by simp) (by omega)
    rw [hfit] at FT
    clear hfit
    obtain ⟨s, hs⟩ : ∃ s, x + z = s := ⟨_, rfl⟩
    obtain ⟨t, ht⟩ : ∃ t, y + z = t := ⟨_, rfl⟩
    obtain ⟨p, hp⟩ : ∃ p, x * z = p := ⟨_, rfl⟩
    obtain ⟨q, hq⟩ : ∃ q, y * z = q := ⟨_, rfl⟩
    have ls : Z.Rt 201 s := by rw [← hs]; exact hx.add hz
    have lt : Z.Rt 201 t := by rw [← ht]; exact hy.add hz
    have lp : Z.Rt 200 p := by rw [← hp]; exact hx.mul hz
    have lq : Z.Rt 200 q := by rw [← hq]; exact hy.mul hz
    have C1 := Lib.hid (qC_cmp hx hy (by omega) (by omega) (by omega) rfl)
    have C2 := Lib.hid (qC_cmp hy hx (by omega) (by omega) (by omega) (Z.cmpR_swap x y))
    have C3 := Lib.hid (qC_cmp hy hz (by omega) (by omega) (by omega) rfl)
    have C4 := Lib.hid (qC_cmp hx hz (by omega) (by omega) (by omega) rfl)
    have C5 := Lib.hid (qop_add (qC_add hx hz (by omega) (by omega) (by omega) hs))
    have C6 := Lib.hid (qop_add (qC_add hy hz (by omega) (by omega) (by omega) ht))
    have C7 := Lib.hid (qC_cmp (c := Z.cmpR x y) ls lt (by omega) (by omega) (by omega) (by rw [← hs, ← ht]; exact Z.cmpR_add x y z))
    have C8 := Lib.hid (qC_cmp hz Z.rt_zero (by omega) (by omega) (by omega) rfl)
    have C9 := Lib.hid (qop_mul (qC_mul hx hz (by omega) (by omega) (by omega) hp))
    have C10 := Lib.hid (qop_mul (qC_mul hy hz (by omega) (by omega) (by omega) hq))
    have C11 := Lib.hid (qC_cmp (c := Z.cmpR x y * Z.cmpR z 0) lp lq (by omega) (by omega) (by omega) (by rw [← hp, ← hq]; exact Z.cmpR_mul x y z))
    rw [Z.Q_zero] at C8
    have b8 := Z.cmpR_bd z 0
    have b3 := Z.cmpR_bd y z
    have b4 := Z.cmpR_bd x z
    have HA : Hid (Z.cmpR x y ≤ 0 → Z.cmpR y z ≤ 0 → Z.cmpR x z ≤ 0) := fun h1 h2 => Z.le_cmpR (Rat.le_trans (Z.cmpR_le h1) (Z.cmpR_le h2))
    have HB : Hid (x < y → Z.cmpR y z ≤ 0 → Z.cmpR x z < 0) := fun h1 h2 => by rw [Z.cmpR_lt (Z.lt_of_lt_le h1 (Z.cmpR_le h2))]; omega
    unfold QO QK at *
    clear ls lt lp lq hs ht hp hq hx hy hz
    rcases Z.rat_tri x y with hxy | hxy | hxy
    · have hne := Z.Q_beq (Rat.ne_of_lt hxy)
      rw [Z.cmpR_lt hxy] at C1 C2 C7 C11 HA
      generalize Z.cmpR z 0 = k8 at *
      generalize Z.cmpR y z = k3 at *
      generalize Z.cmpR x z = k4 at *
      have HH := Lib.hid (HB.out hxy)
      clear HB HA hxy
      generalize Z.Q x = X at *
      generalize Z.Q y = Y at *
      generalize Z.Q z = Z' at *
      generalize Z.Q s = S' at *
      generalize Z.Q t = T' at *
      generalize Z.Q p = P' at *
      generalize Z.Q q = Q' at *
      simp only [Int.neg_neg, Int.neg_mul, Int.one_mul] at C2 C11
      by_cases h3 : k3 ≤ 0
      · have h4 := HH.out h3
        clear HH
        go_enter Tryd.func5, Tryd.ntmps5
        go_wp2_with fail
        refine AL.out.mono ?_
        rintro e w1 ⟨rfl, hb1⟩
        go_wp2_with fail
        have hal := (Below.refl w1.heap.size w1).alloc (Nat.le_refl _) (.cells #[.string X, .string Y, .string Z'] 22)
        refine (FT.out _ _ (ss_new w1 [X, Y, Z'] 22 (by simp))).mono ?_
        rintro e w2 ⟨rfl, hb2⟩
        have c2 := hb1.trans ((hal.trans (hb2.mono hal.size)).mono hb1.size)
        clear hb1 hal hb2 AL FT
        go_wp2_with fail
        refine (C1.out _ (HV.out.below c2)).mono ?_
        rintro e w3 ⟨rfl, hb3⟩
        have c3 := c2.trans (hb3.mono c2.size)
        clear c2 hb3
        go_wp2_with fail
        refine (C2.out _ (HV.out.below c3)).mono ?_
        rintro e w4 ⟨rfl, hb4⟩
        have c4 := c3.trans (hb4.mono c3.size)
        clear c3 hb4
        go_wp2_with fail
        refine (C3.out _ (HV.out.below c4)).mono ?_
        rintro e w5 ⟨rfl, hb5⟩
        have c5 := c4.trans (hb5.mono c4.size)
        clear c4 hb5
        go_wp2_with fail
        refine (C4.out _ (HV.out.below c5)).mono ?_
        rintro e w6 ⟨rfl, hb6⟩
        have c6 := c5.trans (hb6.mono c5.size)
        clear c5 hb6
        go_wp2_with fail
        refine (C5.out _ (HV.out.below c6)).mono ?_
        rintro e w7 ⟨rfl, hb7⟩
        have c7 := c6.trans (hb7.mono c6.size)
        clear c6 hb7
        go_wp2_with fail
        refine (C6.out _ (HV.out.below c7)).mono ?_
        rintro e w8 ⟨rfl, hb8⟩
        have c8 := c7.trans (hb8.mono c7.size)
        clear c7 hb8
        go_wp2_with fail
        refine (C7.out _ (HV.out.below c8)).mono ?_
        rintro e w9 ⟨rfl, hb9⟩
        have c9 := c8.trans (hb9.mono c8.size)
        clear c8 hb9
        go_wp2_with fail
        refine (C8.out _ (HV.out.below c9)).mono ?_
        rintro e w10 ⟨rfl, hb10⟩
        have c10 := c9.trans (hb10.mono c9.size)
        clear c9 hb10
        go_wp2_with fail
        refine (C9.out _ (HV.out.below c10)).mono ?_
        rintro e w11 ⟨rfl, hb11⟩
        have c11 := c10.trans (hb11.mono c10.size)
        clear c10 hb11
        go_wp2_with fail
        refine (C10.out _ (HV.out.below c11)).mono ?_
        rintro e w12 ⟨rfl, hb12⟩
        have c12 := c11.trans (hb12.mono c11.size)
        clear c11 hb12
        go_wp2_with fail
        refine (C11.out _ (HV.out.below c12)).mono ?_
        rintro e w13 ⟨rfl, hb13⟩
        have c13 := c12.trans (hb13.mono c12.size)
        clear c12 hb13
        go_wp2_with fail
        go_ret
        refine ⟨ret_bool ?_, c13⟩
        first | rfl | (simp; done) | (simp; omega)
      · clear HH
        go_enter Tryd.func5, Tryd.ntmps5
        go_wp2_with fail
        refine AL.out.mono ?_
        rintro e w1 ⟨rfl, hb1⟩
        go_wp2_with fail
        have hal := (Below.refl w1.heap.size w1).alloc (Nat.le_refl _) (.cells #[.string X, .string Y, .string Z'] 22)
        refine (FT.out _ _ (ss_new w1 [X, Y, Z'] 22 (by simp))).mono ?_
        rintro e w2 ⟨rfl, hb2⟩
        have c2 := hb1.trans ((hal.trans (hb2.mono hal.size)).mono hb1.size)
        clear hb1 hal hb2 AL FT
        go_wp2_with fail
        refine (C1.out _ (HV.out.below c2)).mono ?_
        rintro e w3 ⟨rfl, hb3⟩
        have c3 := c2.trans (hb3.mono c2.size)
        clear c2 hb3
        go_wp2_with fail
        refine (C2.out _ (HV.out.below c3)).mono ?_
        rintro e w4 ⟨rfl, hb4⟩
        have c4 := c3.trans (hb4.mono c3.size)
        clear c3 hb4
        go_wp2_with fail
        refine (C3.out _ (HV.out.below c4)).mono ?_
        rintro e w5 ⟨rfl, hb5⟩
        have c5 := c4.trans (hb5.mono c4.size)
        clear c4 hb5
        go_wp2_with fail
        refine (C4.out _ (HV.out.below c5)).mono ?_
        rintro e w6 ⟨rfl, hb6⟩
        have c6 := c5.trans (hb6.mono c5.size)
        clear c5 hb6
        go_wp2_with fail
        refine (C5.out _ (HV.out.below c6)).mono ?_
        rintro e w7 ⟨rfl, hb7⟩
        have c7 := c6.trans (hb7.mono c6.size)
        clear c6 hb7
        go_wp2_with fail
        refine (C6.out _ (HV.out.below c7)).mono ?_
        rintro e w8 ⟨rfl, hb8⟩
        have c8 := c7.trans (hb8.mono c7.size)
        clear c7 hb8
        go_wp2_with fail
        refine (C7.out _ (HV.out.below c8)).mono ?_
        rintro e w9 ⟨rfl, hb9⟩
        have c9 := c8.trans (hb9.mono c8.size)
        clear c8 hb9
        go_wp2_with fail
        refine (C8.out _ (HV.out.below c9)).mono ?_
        rintro e w10 ⟨rfl, hb10⟩
        have c10 := c9.trans (hb10.mono c9.size)
        clear c9 hb10
        go_wp2_with fail
        refine (C9.out _ (HV.out.below c10)).mono ?_
        rintro e w11 ⟨rfl, hb11⟩
        have c11 := c10.trans (hb11.mono c10.size)
        clear c10 hb11
        go_wp2_with fail
        refine (C10.out _ (HV.out.below c11)).mono ?_
        rintro e w12 ⟨rfl, hb12⟩
        have c12 := c11.trans (hb12.mono c11.size)
        clear c11 hb12
        go_wp2_with fail
        refine (C11.out _ (HV.out.below c12)).mono ?_
        rintro e w13 ⟨rfl, hb13⟩
        have c13 := c12.trans (hb13.mono c12.size)
        clear c12 hb13
        go_wp2_with fail
        go_ret
        refine ⟨ret_bool ?_, c13⟩
        first | rfl | (simp; done) | (simp; omega)
    · subst hxy
      rw [Z.cmpR_eq rfl] at C1 C2 C7 C11
      generalize Z.cmpR z 0 = k8 at *
      generalize Z.cmpR x z = k3 at *
      clear HB HA
      generalize Z.Q x = X at *
      generalize Z.Q z = Z' at *
      generalize Z.Q s = S' at *
      generalize Z.Q t = T' at *
      generalize Z.Q p = P' at *
      generalize Z.Q q = Q' at *
      simp only [Int.neg_zero, Int.zero_mul] at C2 C11
      by_cases h3 : k3 ≤ 0
      · skip
        go_enter Tryd.func5, Tryd.ntmps5
        go_wp2_with fail
        refine AL.out.mono ?_
        rintro e w1 ⟨rfl, hb1⟩
        go_wp2_with fail
        have hal := (Below.refl w1.heap.size w1).alloc (Nat.le_refl _) (.cells #[.string X, .string X, .string Z'] 22)
        refine (FT.out _ _ (ss_new w1 [X, X, Z'] 22 (by simp))).mono ?_
        rintro e w2 ⟨rfl, hb2⟩
        have c2 := hb1.trans ((hal.trans (hb2.mono hal.size)).mono hb1.size)
        clear hb1 hal hb2 AL FT
        go_wp2_with fail
        refine (C1.out _ (HV.out.below c2)).mono ?_
        rintro e w3 ⟨rfl, hb3⟩
        have c3 := c2.trans (hb3.mono c2.size)
        clear c2 hb3
        go_wp2_with fail
        refine (C2.out _ (HV.out.below c3)).mono ?_
        rintro e w4 ⟨rfl, hb4⟩
        have c4 := c3.trans (hb4.mono c3.size)
        clear c3 hb4
        go_wp2_with fail
        refine (C3.out _ (HV.out.below c4)).mono ?_
        rintro e w5 ⟨rfl, hb5⟩
        have c5 := c4.trans (hb5.mono c4.size)
        clear c4 hb5
        go_wp2_with fail
        refine (C4.out _ (HV.out.below c5)).mono ?_
        rintro e w6 ⟨rfl, hb6⟩
        have c6 := c5.trans (hb6.mono c5.size)
        clear c5 hb6
        go_wp2_with fail
        refine (C5.out _ (HV.out.below c6)).mono ?_
        rintro e w7 ⟨rfl, hb7⟩
        have c7 := c6.trans (hb7.mono c6.size)
        clear c6 hb7
        go_wp2_with fail
        refine (C6.out _ (HV.out.below c7)).mono ?_
        rintro e w8 ⟨rfl, hb8⟩
        have c8 := c7.trans (hb8.mono c7.size)
        clear c7 hb8
        go_wp2_with fail
        refine (C7.out _ (HV.out.below c8)).mono ?_
        rintro e w9 ⟨rfl, hb9⟩
        have c9 := c8.trans (hb9.mono c8.size)
        clear c8 hb9
        go_wp2_with fail
        refine (C8.out _ (HV.out.below c9)).mono ?_
        rintro e w10 ⟨rfl, hb10⟩
        have c10 := c9.trans (hb10.mono c9.size)
        clear c9 hb10
        go_wp2_with fail
        refine (C9.out _ (HV.out.below c10)).mono ?_
        rintro e w11 ⟨rfl, hb11⟩
        have c11 := c10.trans (hb11.mono c10.size)
        clear c10 hb11
        go_wp2_with fail
        refine (C10.out _ (HV.out.below c11)).mono ?_
        rintro e w12 ⟨rfl, hb12⟩
        have c12 := c11.trans (hb12.mono c11.size)
        clear c11 hb12
        go_wp2_with fail
        refine (C11.out _ (HV.out.below c12)).mono ?_
        rintro e w13 ⟨rfl, hb13⟩
        have c13 := c12.trans (hb13.mono c12.size)
        clear c12 hb13
        go_wp2_with fail
        go_ret
        refine ⟨ret_bool ?_, c13⟩
        first | rfl | (simp; done) | (simp; omega)
      · skip
        go_enter Tryd.func5, Tryd.ntmps5
        go_wp2_with fail
        refine AL.out.mono ?_
        rintro e w1 ⟨rfl, hb1⟩
        go_wp2_with fail
        have hal := (Below.refl w1.heap.size w1).alloc (Nat.le_refl _) (.cells #[.string X, .string X, .string Z'] 22)
        refine (FT.out _ _ (ss_new w1 [X, X, Z'] 22 (by simp))).mono ?_
        rintro e w2 ⟨rfl, hb2⟩
        have c2 := hb1.trans ((hal.trans (hb2.mono hal.size)).mono hb1.size)
        clear hb1 hal hb2 AL FT
        go_wp2_with fail
        refine (C1.out _ (HV.out.below c2)).mono ?_
        rintro e w3 ⟨rfl, hb3⟩
        have c3 := c2.trans (hb3.mono c2.size)
        clear c2 hb3
        go_wp2_with fail
        refine (C2.out _ (HV.out.below c3)).mono ?_
        rintro e w4 ⟨rfl, hb4⟩
        have c4 := c3.trans (hb4.mono c3.size)
        clear c3 hb4
        go_wp2_with fail
        refine (C3.out _ (HV.out.below c4)).mono ?_
        rintro e w5 ⟨rfl, hb5⟩
        have c5 := c4.trans (hb5.mono c4.size)
        clear c4 hb5
        go_wp2_with fail
        refine (C4.out _ (HV.out.below c5)).mono ?_
        rintro e w6 ⟨rfl, hb6⟩
        have c6 := c5.trans (hb6.mono c5.size)
        clear c5 hb6
        go_wp2_with fail
        refine (C5.out _ (HV.out.below c6)).mono ?_
        rintro e w7 ⟨rfl, hb7⟩
        have c7 := c6.trans (hb7.mono c6.size)
        clear c6 hb7
        go_wp2_with fail
        refine (C6.out _ (HV.out.below c7)).mono ?_
        rintro e w8 ⟨rfl, hb8⟩
        have c8 := c7.trans (hb8.mono c7.size)
        clear c7 hb8
        go_wp2_with fail
        refine (C7.out _ (HV.out.below c8)).mono ?_
        rintro e w9 ⟨rfl, hb9⟩
        have c9 := c8.trans (hb9.mono c8.size)
        clear c8 hb9
        go_wp2_with fail
        refine (C8.out _ (HV.out.below c9)).mono ?_
        rintro e w10 ⟨rfl, hb10⟩
        have c10 := c9.trans (hb10.mono c9.size)
        clear c9 hb10
        go_wp2_with fail
        refine (C9.out _ (HV.out.below c10)).mono ?_
        rintro e w11 ⟨rfl, hb11⟩
        have c11 := c10.trans (hb11.mono c10.size)
        clear c10 hb11
        go_wp2_with fail
        refine (C10.out _ (HV.out.below c11)).mono ?_
        rintro e w12 ⟨rfl, hb12⟩
        have c12 := c11.trans (hb12.mono c11.size)
        clear c11 hb12
        go_wp2_with fail
        refine (C11.out _ (HV.out.below c12)).mono ?_
        rintro e w13 ⟨rfl, hb13⟩
        have c13 := c12.trans (hb13.mono c12.size)
        clear c12 hb13
        go_wp2_with fail
        go_ret
        refine ⟨ret_bool ?_, c13⟩
        first | rfl | (simp; done) | (simp; omega)
    · have hne := Z.Q_beq (Ne.symm (Rat.ne_of_lt hxy))
      rw [Z.cmpR_gt hxy] at C1 C2 C7 C11
      generalize Z.cmpR z 0 = k8 at *
      generalize Z.cmpR y z = k3 at *
      generalize Z.cmpR x z = k4 at *
      clear HB HA hxy
      generalize Z.Q x = X at *
      generalize Z.Q y = Y at *
      generalize Z.Q z = Z' at *
      generalize Z.Q s = S' at *
      generalize Z.Q t = T' at *
      generalize Z.Q p = P' at *
      generalize Z.Q q = Q' at *
      simp only [Int.one_mul] at C11
      go_enter Tryd.func5, Tryd.ntmps5
      go_wp2_with fail
      refine AL.out.mono ?_
      rintro e w1 ⟨rfl, hb1⟩
      go_wp2_with fail
      have hal := (Below.refl w1.heap.size w1).alloc (Nat.le_refl _) (.cells #[.string X, .string Y, .string Z'] 22)
      refine (FT.out _ _ (ss_new w1 [X, Y, Z'] 22 (by simp))).mono ?_
      rintro e w2 ⟨rfl, hb2⟩
      have c2 := hb1.trans ((hal.trans (hb2.mono hal.size)).mono hb1.size)
      clear hb1 hal hb2 AL FT
      go_wp2_with fail
      refine (C1.out _ (HV.out.below c2)).mono ?_
      rintro e w3 ⟨rfl, hb3⟩
      have c3 := c2.trans (hb3.mono c2.size)
      clear c2 hb3
      go_wp2_with fail
      refine (C2.out _ (HV.out.below c3)).mono ?_
      rintro e w4 ⟨rfl, hb4⟩
      have c4 := c3.trans (hb4.mono c3.size)
      clear c3 hb4
      go_wp2_with fail
      refine (C3.out _ (HV.out.below c4)).mono ?_
      rintro e w5 ⟨rfl, hb5⟩
      have c5 := c4.trans (hb5.mono c4.size)
      clear c4 hb5
      go_wp2_with fail
      refine (C4.out _ (HV.out.below c5)).mono ?_
      rintro e w6 ⟨rfl, hb6⟩
      have c6 := c5.trans (hb6.mono c5.size)
      clear c5 hb6
      go_wp2_with fail
      refine (C5.out _ (HV.out.below c6)).mono ?_
      rintro e w7 ⟨rfl, hb7⟩
      have c7 := c6.trans (hb7.mono c6.size)
      clear c6 hb7
      go_wp2_with fail
      refine (C6.out _ (HV.out.below c7)).mono ?_
      rintro e w8 ⟨rfl, hb8⟩
      have c8 := c7.trans (hb8.mono c7.size)
      clear c7 hb8
      go_wp2_with fail
      refine (C7.out _ (HV.out.below c8)).mono ?_
      rintro e w9 ⟨rfl, hb9⟩
      have c9 := c8.trans (hb9.mono c8.size)
      clear c8 hb9
      go_wp2_with fail
      refine (C8.out _ (HV.out.below c9)).mono ?_
      rintro e w10 ⟨rfl, hb10⟩
      have c10 := c9.trans (hb10.mono c9.size)
      clear c9 hb10
      go_wp2_with fail
      refine (C9.out _ (HV.out.below c10)).mono ?_
      rintro e w11 ⟨rfl, hb11⟩
      have c11 := c10.trans (hb11.mono c10.size)
      clear c10 hb11
      go_wp2_with fail
      refine (C10.out _ (HV.out.below c11)).mono ?_
      rintro e w12 ⟨rfl, hb12⟩
      have c12 := c11.trans (hb12.mono c11.size)
      clear c11 hb12
      go_wp2_with fail
      refine (C11.out _ (HV.out.below c12)).mono ?_
      rintro e w13 ⟨rfl, hb13⟩
      have c13 := c12.trans (hb13.mono c12.size)
      clear c12 hb13
      go_wp2_with fail
      go_ret
      refine ⟨ret_bool ?_, c13⟩
      first | rfl | (simp; done) | (simp; omega)

set_option maxRecDepth 100000 in
theorem lifted (os : Os) (started : os.Started) (H : Type) (enc : TypeId × Value → H) :
    ReturnsInHanded {} Tryd.checked os 5 .any (fun w args => (Rows.rationalOrderedSpec.pre enc Tryd.prog Tryd.f5 [] false w args ∧ laidMetH Tryd.prog laidL w) ∧ sizedMet enc Tryd.prog Tryd.f5 (OpenSpec.ofChange Rows.rationalOrderedSpec) false w args) (Rows.rationalOrderedSpec.post enc Tryd.prog Tryd.f5 false true false false) := by
  refine door_wrap (C := Tryd.checked) (laid := laidL) own started (by kernel_rfl) Tryd.func5
    (ChangeSpec.witness_shaped (enc := enc) (C := Tryd.checked) (os := os) (X := fun w _ => laidMetH Tryd.prog laidL w) false (World.doorLaid Tryd.prog 600 os) #[.string ByteArray.empty, .string ByteArray.empty, .string ByteArray.empty] 8 rfl (World.shaped_of_RefB (by kernel_rfl) (by kernel_rfl)) (by kernel_rfl) (by kernel_rfl) (by kernel_rfl) (door_met os _)) ?_
  intro W base args ds gs before hval0 hW _ hL hsh
  have hval : ∀ (j : Nat) t v, Tryd.f5.params[j]? = some t → args[j]? = some v → Value.okWide Tryd.prog W .any base t v := hval0
  have hW' := hW
  obtain ⟨p, q, hA0, hV, rfl, hfz, hnd⟩ := hW
  have hA : DataW.TrodAll enc Tryd.prog W 0 (fun _ => true) true Tryd.f5.params.toList args.toList ds p := hA0
  rw [Tryd.params5] at hA hval
  obtain ⟨v0, vs0, d0, ds0, p0, q0, hargs, rfl, rfl, h0, r0⟩ := trodAll_cons hA
  obtain ⟨v1, vs1, d1, ds1, p1, q1, rfl, rfl, rfl, h1, r1⟩ := trodAll_cons r0
  obtain ⟨v2, vs2, d2, ds2, p2, q2, rfl, rfl, rfl, h2, r2⟩ := trodAll_cons r1
  obtain ⟨rfl, rfl, rfl⟩ := trodAll_nil r2
  obtain rfl : args = #[v0, v1, v2] := by cases args; simp_all
  obtain ⟨rfl, rfl⟩ := trodVars_none hV
  obtain ⟨a0, rfl, rfl, rfl, w0⟩ := open_string Tryd.underlying22 (hval 0 22 v0 rfl rfl) h0
  obtain ⟨a1, rfl, rfl, rfl, w1⟩ := open_string Tryd.underlying22 (hval 1 22 v1 rfl rfl) h1
  obtain ⟨a2, rfl, rfl, rfl, w2⟩ := open_string Tryd.underlying22 (hval 2 22 v2 rfl rfl) h2
  clear hA0 hval0
  refine (walk a0 a1 a2 W (Tryd.laysM145.s1_3 W hsh) (of_laid hL)).mono fun e W' ⟨he, bel⟩ => ?_
  subst he
  exact ⟨_, rfl, _, _, _, [], _, [], hW', trodAll_mk1 (shut_bool Tryd.underlying4 _), (trodAll_cons_mk (shut_string Tryd.underlying22 w0) (trodAll_cons_mk (shut_string Tryd.underlying22 w1) (trodAll_cons_mk (shut_string Tryd.underlying22 w2) trodAll_mk0))), rfl, bel.frame _, fun h => by cases h⟩

theorem over : Rows.rationalOrderedRow.holds Tryd.pinned (OpenSpec.ofChange Rows.rationalOrderedSpec) :=
  OpenClaim.holds_of_wide 5 Tryd.f5 rfl rfl rfl rfl rfl rfl rfl ⟨rfl, rfl, rfl, rfl, rfl⟩ rfl rfl rfl rfl rfl (by kernel_rfl) Tryd.func5 (by kernel_rfl)
    (of_decide_eq_true (by kernel_rfl)) (by unfold Func.isWrapper; first | (rw [if_pos (by decide +kernel)]; kernel_rfl) | (rw [if_neg (by decide +kernel)]; exact ⟨rfl, rfl⟩))
    (fun os started H enc _ => lifted os started H enc)

theorem proved : Rows.RationalOrderedCardSaid :=
  Claim7.holds_tied_plain_at .later [] [.funcs] true (true, "a18686d7ce9dac20472b8cafde1c95bf318b18ce38aaf4bc5c3d5f2f05446804") false
    over (fun _ h => by cases h) (by kernel_rfl) (fun _ h => by cases h) rationalOrdered_row_tie rfl ⟨rfl, rfl⟩ (by kernel_rfl) rfl
    (fun f fn hf hfn => by
      obtain rfl : f = 5 := Option.some.inj ((show Tryd.prog.funcNamed "novation/novationlaw02.RationalOrdered" = some 5 by kernel_rfl).symm.trans hf) |>.symm
      obtain rfl : fn = Tryd.f5 := (Option.some.inj (Tryd.func5.symm.trans hfn)).symm
      exact ⟨by kernel_rfl, fun j t ht => by
        rw [Tryd.params5] at ht
        have hm : t ∈ [22, 22, 22] := by simpa using Array.mem_of_getElem? ht
        have hall : ([22, 22, 22].all fun u => !Tryd.prog.wantsStandIn u) = true := by kernel_rfl
        exact (show Tryd.prog.wantsStandIn t = false by simpa using List.all_eq_true.1 hall t hm)⟩)
    (by kernel_rfl)
#print axioms proved
