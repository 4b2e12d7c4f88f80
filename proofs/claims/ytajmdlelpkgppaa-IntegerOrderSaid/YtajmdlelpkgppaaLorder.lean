/-
  Compare of package integer is a total order that sums and products with positive integers keep, and equal integers have equal strings, whatever three strings; no condition (where a string is no canonical integer of at most 400 bytes, the statement is true by its first lines).
-/
import Derived.Test.YtajmdlelpkgppaaRows
import Derived.Test.YtajmdlelpkgppaaIlawb
import Derived.ProofKit
import Derived.OpenShut
import Derived.ShutString
namespace Go.Proofs.Ytajmdlelpkgppaa.lawOrder
open Go.ChangeShapes Go.WideShapes Go.ChangeAt Go.RowKit
open Go.ChangeMaps (open_string shut_string)

theorem own : ownKnob Try.prog.godebug = none := by kernel_rfl

set_option maxRecDepth 100000 in
set_option maxHeartbeats 4000000 in
theorem walk (a b c : ByteArray) (w : World) :
    Calls Try.prog 9 #[.string a, .string b, .string c] w fun e w' => e = .returned (.bool true) ∧ Below w.heap.size w w' := by
  have AL := Lib.hid alive_any
  have FT := Lib.hid (fun W v hS => fits_any 400 v [a, b, c] W hS (by omega) (by simp))
  unfold FitsRet at FT
  cases hfit : fitsB 400 [a, b, c]
  · rw [hfit] at FT
    clear hfit
    go_enter Try.func9, Try.ntmps9
    go_wp2_with fail
    refine (AL.out _).mono ?_
    rintro e w1 ⟨rfl, hb1⟩
    go_wp2_with fail
    have hal := (Below.refl w1.heap.size w1).alloc (Nat.le_refl _) (.cells #[.string a, .string b, .string c] 22)
    refine (FT.out _ _ (ss_new w1 [a, b, c] 22 (by simp))).mono ?_
    rintro e w2 ⟨rfl, hb2⟩
    go_wp2_with fail
    go_ret
    exact ⟨rfl, hb1.trans ((hal.trans (hb2.mono hal.size)).mono hb1.size)⟩
  · obtain ⟨x, rfl, hx⟩ := fits_get hfit (s := a) (by simp)
    obtain ⟨y, rfl, hy⟩ := fits_get hfit (s := b) (by simp)
    obtain ⟨z, rfl, hz⟩ := fits_get hfit (s := c) (by simp)
    rw [hfit] at FT
    clear hfit
    obtain ⟨s, hs⟩ : ∃ s, x + z = s := ⟨_, rfl⟩
    obtain ⟨t, ht⟩ : ∃ t, y + z = t := ⟨_, rfl⟩
    obtain ⟨p, hp⟩ : ∃ p, x * z = p := ⟨_, rfl⟩
    obtain ⟨q, hq⟩ : ∃ q, y * z = q := ⟨_, rfl⟩
    have ls : Z.Lt 401 s := by rw [← hs]; exact hx.add hz
    have lt : Z.Lt 401 t := by rw [← ht]; exact hy.add hz
    have lp : Z.Lt 800 p := by rw [← hp]; exact hx.mul hz
    have lq : Z.Lt 800 q := by rw [← hq]; exact hy.mul hz
    have C1 := cmpC hx hy rfl (by omega) (by omega) (by omega) (by omega)
    have C2 := cmpC hy hx (Z.cmpI_swap x y) (by omega) (by omega) (by omega) (by omega)
    have C3 := cmpC hy hz rfl (by omega) (by omega) (by omega) (by omega)
    have C4 := cmpC hx hz rfl (by omega) (by omega) (by omega) (by omega)
    have C5 := opC_add hx hz ls hs (by omega) (by omega) (by omega) (by omega) (by omega) (by omega)
    have C6 := opC_add hy hz lt ht (by omega) (by omega) (by omega) (by omega) (by omega) (by omega)
    have C7 := cmpC (c := Z.cmpI x y) ls lt (by rw [← hs, ← ht]; exact Z.cmpI_add x y z) (by omega) (by omega) (by omega) (by omega)
    have C8 := cmpC hz Z.lt_zero rfl (by omega) (by omega) (by omega) (by omega)
    rw [Z.S_zero] at C8
    have C9 := opC_mul hx hz lp hp (by omega) (by omega) (by omega) (by omega) (by omega) (by omega)
    have C10 := opC_mul hy hz lq hq (by omega) (by omega) (by omega) (by omega) (by omega) (by omega)
    have C11 := cmpC (c := Z.cmpI x y * Z.cmpI z 0) lp lq (by rw [← hp, ← hq]; exact Z.cmpI_mul x y z) (by omega) (by omega) (by omega) (by omega)
    have b8 := Z.cmpI_bd z 0
    have b3 := Z.cmpI_bd y z
    have b4 := Z.cmpI_bd x z
    have HA : Hid (Z.cmpI x y ≤ 0 → Z.cmpI y z ≤ 0 → Z.cmpI x z ≤ 0) := fun h1 h2 => Z.le_cmpI (by have := Z.cmpI_le h1; have := Z.cmpI_le h2; omega)
    have HB : Hid (x < y → Z.cmpI y z ≤ 0 → Z.cmpI x z < 0) := fun h1 h2 => by rw [Z.cmpI_lt (by have := Z.cmpI_le h2; omega)]; omega
    unfold OpStr at *
    clear ls lt lp lq hs ht hp hq hx hy hz
    rcases Int.lt_trichotomy x y with hxy | hxy | hxy
    · have hne := Z.S_beq (Int.ne_of_lt hxy)
      rw [Z.cmpI_lt hxy] at C1 C2 C7 C11 HA
      generalize Z.cmpI z 0 = k8 at *
      generalize Z.cmpI y z = k3 at *
      generalize Z.cmpI x z = k4 at *
      have HH := Lib.hid (HB.out hxy)
      clear HB HA hxy
      generalize Z.S x = X at *
      generalize Z.S y = Y at *
      generalize Z.S z = Z' at *
      generalize Z.S s = S' at *
      generalize Z.S t = T' at *
      generalize Z.S p = P' at *
      generalize Z.S q = Q' at *
      simp only [Int.neg_neg, Int.neg_mul, Int.one_mul] at C2 C11
      by_cases h3 : k3 ≤ 0
      · have h4 := HH.out h3
        clear HH
        go_enter Try.func9, Try.ntmps9
        go_wp2_with fail
        refine (AL.out _).mono ?_
        rintro e w1 ⟨rfl, hb1⟩
        go_wp2_with fail
        have hal := (Below.refl w1.heap.size w1).alloc (Nat.le_refl _) (.cells #[.string X, .string Y, .string Z'] 22)
        refine (FT.out _ _ (ss_new w1 [X, Y, Z'] 22 (by simp))).mono ?_
        rintro e w2 ⟨rfl, hb2⟩
        have c2 := hb1.trans ((hal.trans (hb2.mono hal.size)).mono hb1.size)
        clear hb1 hal hb2 AL FT
        go_wp2_with fail
        refine (C1.out _).mono ?_
        rintro e w3 ⟨rfl, hb3⟩
        have c3 := c2.trans (hb3.mono c2.size)
        clear c2 hb3
        go_wp2_with fail
        refine (C2.out _).mono ?_
        rintro e w4 ⟨rfl, hb4⟩
        have c4 := c3.trans (hb4.mono c3.size)
        clear c3 hb4
        go_wp2_with fail
        refine (C3.out _).mono ?_
        rintro e w5 ⟨rfl, hb5⟩
        have c5 := c4.trans (hb5.mono c4.size)
        clear c4 hb5
        go_wp2_with fail
        refine (C4.out _).mono ?_
        rintro e w6 ⟨rfl, hb6⟩
        have c6 := c5.trans (hb6.mono c5.size)
        clear c5 hb6
        go_wp2_with fail
        refine (C5.out _).mono ?_
        rintro e w7 ⟨rfl, hb7⟩
        have c7 := c6.trans (hb7.mono c6.size)
        clear c6 hb7
        go_wp2_with fail
        refine (C6.out _).mono ?_
        rintro e w8 ⟨rfl, hb8⟩
        have c8 := c7.trans (hb8.mono c7.size)
        clear c7 hb8
        go_wp2_with fail
        refine (C7.out _).mono ?_
        rintro e w9 ⟨rfl, hb9⟩
        have c9 := c8.trans (hb9.mono c8.size)
        clear c8 hb9
        go_wp2_with fail
        refine (C8.out _).mono ?_
        rintro e w10 ⟨rfl, hb10⟩
        have c10 := c9.trans (hb10.mono c9.size)
        clear c9 hb10
        go_wp2_with fail
        refine (C9.out _).mono ?_
        rintro e w11 ⟨rfl, hb11⟩
        have c11 := c10.trans (hb11.mono c10.size)
        clear c10 hb11
        go_wp2_with fail
        refine (C10.out _).mono ?_
        rintro e w12 ⟨rfl, hb12⟩
        have c12 := c11.trans (hb12.mono c11.size)
        clear c11 hb12
        go_wp2_with fail
        refine (C11.out _).mono ?_
        rintro e w13 ⟨rfl, hb13⟩
        have c13 := c12.trans (hb13.mono c12.size)
        clear c12 hb13
        go_wp2_with fail
        go_ret
        exact ⟨rfl, c13⟩
      · clear HH
        go_enter Try.func9, Try.ntmps9
        go_wp2_with fail
        refine (AL.out _).mono ?_
        rintro e w1 ⟨rfl, hb1⟩
        go_wp2_with fail
        have hal := (Below.refl w1.heap.size w1).alloc (Nat.le_refl _) (.cells #[.string X, .string Y, .string Z'] 22)
        refine (FT.out _ _ (ss_new w1 [X, Y, Z'] 22 (by simp))).mono ?_
        rintro e w2 ⟨rfl, hb2⟩
        have c2 := hb1.trans ((hal.trans (hb2.mono hal.size)).mono hb1.size)
        clear hb1 hal hb2 AL FT
        go_wp2_with fail
        refine (C1.out _).mono ?_
        rintro e w3 ⟨rfl, hb3⟩
        have c3 := c2.trans (hb3.mono c2.size)
        clear c2 hb3
        go_wp2_with fail
        refine (C2.out _).mono ?_
        rintro e w4 ⟨rfl, hb4⟩
        have c4 := c3.trans (hb4.mono c3.size)
        clear c3 hb4
        go_wp2_with fail
        refine (C3.out _).mono ?_
        rintro e w5 ⟨rfl, hb5⟩
        have c5 := c4.trans (hb5.mono c4.size)
        clear c4 hb5
        go_wp2_with fail
        refine (C4.out _).mono ?_
        rintro e w6 ⟨rfl, hb6⟩
        have c6 := c5.trans (hb6.mono c5.size)
        clear c5 hb6
        go_wp2_with fail
        refine (C5.out _).mono ?_
        rintro e w7 ⟨rfl, hb7⟩
        have c7 := c6.trans (hb7.mono c6.size)
        clear c6 hb7
        go_wp2_with fail
        refine (C6.out _).mono ?_
        rintro e w8 ⟨rfl, hb8⟩
        have c8 := c7.trans (hb8.mono c7.size)
        clear c7 hb8
        go_wp2_with fail
        refine (C7.out _).mono ?_
        rintro e w9 ⟨rfl, hb9⟩
        have c9 := c8.trans (hb9.mono c8.size)
        clear c8 hb9
        go_wp2_with fail
        refine (C8.out _).mono ?_
        rintro e w10 ⟨rfl, hb10⟩
        have c10 := c9.trans (hb10.mono c9.size)
        clear c9 hb10
        go_wp2_with fail
        refine (C9.out _).mono ?_
        rintro e w11 ⟨rfl, hb11⟩
        have c11 := c10.trans (hb11.mono c10.size)
        clear c10 hb11
        go_wp2_with fail
        refine (C10.out _).mono ?_
        rintro e w12 ⟨rfl, hb12⟩
        have c12 := c11.trans (hb12.mono c11.size)
        clear c11 hb12
        go_wp2_with fail
        refine (C11.out _).mono ?_
        rintro e w13 ⟨rfl, hb13⟩
        have c13 := c12.trans (hb13.mono c12.size)
        clear c12 hb13
        go_wp2_with fail
        go_ret
        exact ⟨rfl, c13⟩
    · subst hxy
      rw [Z.cmpI_eq rfl] at C1 C2 C7 C11
      generalize Z.cmpI z 0 = k8 at *
      generalize Z.cmpI x z = k3 at *
      clear HB HA
      generalize Z.S x = X at *
      generalize Z.S z = Z' at *
      generalize Z.S s = S' at *
      generalize Z.S t = T' at *
      generalize Z.S p = P' at *
      generalize Z.S q = Q' at *
      simp only [Int.neg_zero, Int.zero_mul] at C2 C11
      by_cases h3 : k3 ≤ 0
      · skip
        go_enter Try.func9, Try.ntmps9
        go_wp2_with fail
        refine (AL.out _).mono ?_
        rintro e w1 ⟨rfl, hb1⟩
        go_wp2_with fail
        have hal := (Below.refl w1.heap.size w1).alloc (Nat.le_refl _) (.cells #[.string X, .string X, .string Z'] 22)
        refine (FT.out _ _ (ss_new w1 [X, X, Z'] 22 (by simp))).mono ?_
        rintro e w2 ⟨rfl, hb2⟩
        have c2 := hb1.trans ((hal.trans (hb2.mono hal.size)).mono hb1.size)
        clear hb1 hal hb2 AL FT
        go_wp2_with fail
        refine (C1.out _).mono ?_
        rintro e w3 ⟨rfl, hb3⟩
        have c3 := c2.trans (hb3.mono c2.size)
        clear c2 hb3
        go_wp2_with fail
        refine (C2.out _).mono ?_
        rintro e w4 ⟨rfl, hb4⟩
        have c4 := c3.trans (hb4.mono c3.size)
        clear c3 hb4
        go_wp2_with fail
        refine (C3.out _).mono ?_
        rintro e w5 ⟨rfl, hb5⟩
        have c5 := c4.trans (hb5.mono c4.size)
        clear c4 hb5
        go_wp2_with fail
        refine (C4.out _).mono ?_
        rintro e w6 ⟨rfl, hb6⟩
        have c6 := c5.trans (hb6.mono c5.size)
        clear c5 hb6
        go_wp2_with fail
        refine (C5.out _).mono ?_
        rintro e w7 ⟨rfl, hb7⟩
        have c7 := c6.trans (hb7.mono c6.size)
        clear c6 hb7
        go_wp2_with fail
        refine (C6.out _).mono ?_
        rintro e w8 ⟨rfl, hb8⟩
        have c8 := c7.trans (hb8.mono c7.size)
        clear c7 hb8
        go_wp2_with fail
        refine (C7.out _).mono ?_
        rintro e w9 ⟨rfl, hb9⟩
        have c9 := c8.trans (hb9.mono c8.size)
        clear c8 hb9
        go_wp2_with fail
        refine (C8.out _).mono ?_
        rintro e w10 ⟨rfl, hb10⟩
        have c10 := c9.trans (hb10.mono c9.size)
        clear c9 hb10
        go_wp2_with fail
        refine (C9.out _).mono ?_
        rintro e w11 ⟨rfl, hb11⟩
        have c11 := c10.trans (hb11.mono c10.size)
        clear c10 hb11
        go_wp2_with fail
        refine (C10.out _).mono ?_
        rintro e w12 ⟨rfl, hb12⟩
        have c12 := c11.trans (hb12.mono c11.size)
        clear c11 hb12
        go_wp2_with fail
        refine (C11.out _).mono ?_
        rintro e w13 ⟨rfl, hb13⟩
        have c13 := c12.trans (hb13.mono c12.size)
        clear c12 hb13
        go_wp2_with fail
        go_ret
        exact ⟨rfl, c13⟩
      · skip
        go_enter Try.func9, Try.ntmps9
        go_wp2_with fail
        refine (AL.out _).mono ?_
        rintro e w1 ⟨rfl, hb1⟩
        go_wp2_with fail
        have hal := (Below.refl w1.heap.size w1).alloc (Nat.le_refl _) (.cells #[.string X, .string X, .string Z'] 22)
        refine (FT.out _ _ (ss_new w1 [X, X, Z'] 22 (by simp))).mono ?_
        rintro e w2 ⟨rfl, hb2⟩
        have c2 := hb1.trans ((hal.trans (hb2.mono hal.size)).mono hb1.size)
        clear hb1 hal hb2 AL FT
        go_wp2_with fail
        refine (C1.out _).mono ?_
        rintro e w3 ⟨rfl, hb3⟩
        have c3 := c2.trans (hb3.mono c2.size)
        clear c2 hb3
        go_wp2_with fail
        refine (C2.out _).mono ?_
        rintro e w4 ⟨rfl, hb4⟩
        have c4 := c3.trans (hb4.mono c3.size)
        clear c3 hb4
        go_wp2_with fail
        refine (C3.out _).mono ?_
        rintro e w5 ⟨rfl, hb5⟩
        have c5 := c4.trans (hb5.mono c4.size)
        clear c4 hb5
        go_wp2_with fail
        refine (C4.out _).mono ?_
        rintro e w6 ⟨rfl, hb6⟩
        have c6 := c5.trans (hb6.mono c5.size)
        clear c5 hb6
        go_wp2_with fail
        refine (C5.out _).mono ?_
        rintro e w7 ⟨rfl, hb7⟩
        have c7 := c6.trans (hb7.mono c6.size)
        clear c6 hb7
        go_wp2_with fail
        refine (C6.out _).mono ?_
        rintro e w8 ⟨rfl, hb8⟩
        have c8 := c7.trans (hb8.mono c7.size)
        clear c7 hb8
        go_wp2_with fail
        refine (C7.out _).mono ?_
        rintro e w9 ⟨rfl, hb9⟩
        have c9 := c8.trans (hb9.mono c8.size)
        clear c8 hb9
        go_wp2_with fail
        refine (C8.out _).mono ?_
        rintro e w10 ⟨rfl, hb10⟩
        have c10 := c9.trans (hb10.mono c9.size)
        clear c9 hb10
        go_wp2_with fail
        refine (C9.out _).mono ?_
        rintro e w11 ⟨rfl, hb11⟩
        have c11 := c10.trans (hb11.mono c10.size)
        clear c10 hb11
        go_wp2_with fail
        refine (C10.out _).mono ?_
        rintro e w12 ⟨rfl, hb12⟩
        have c12 := c11.trans (hb12.mono c11.size)
        clear c11 hb12
        go_wp2_with fail
        refine (C11.out _).mono ?_
        rintro e w13 ⟨rfl, hb13⟩
        have c13 := c12.trans (hb13.mono c12.size)
        clear c12 hb13
        go_wp2_with fail
        go_ret
        exact ⟨rfl, c13⟩
    · have hne := Z.S_beq (Int.ne_of_gt hxy)
      rw [Z.cmpI_gt hxy] at C1 C2 C7 C11
      generalize Z.cmpI z 0 = k8 at *
      generalize Z.cmpI y z = k3 at *
      generalize Z.cmpI x z = k4 at *
      clear HB HA hxy
      generalize Z.S x = X at *
      generalize Z.S y = Y at *
      generalize Z.S z = Z' at *
      generalize Z.S s = S' at *
      generalize Z.S t = T' at *
      generalize Z.S p = P' at *
      generalize Z.S q = Q' at *
      simp only [Int.one_mul] at C11
      go_enter Try.func9, Try.ntmps9
      go_wp2_with fail
      refine (AL.out _).mono ?_
      rintro e w1 ⟨rfl, hb1⟩
      go_wp2_with fail
      have hal := (Below.refl w1.heap.size w1).alloc (Nat.le_refl _) (.cells #[.string X, .string Y, .string Z'] 22)
      refine (FT.out _ _ (ss_new w1 [X, Y, Z'] 22 (by simp))).mono ?_
      rintro e w2 ⟨rfl, hb2⟩
      have c2 := hb1.trans ((hal.trans (hb2.mono hal.size)).mono hb1.size)
      clear hb1 hal hb2 AL FT
      go_wp2_with fail
      refine (C1.out _).mono ?_
      rintro e w3 ⟨rfl, hb3⟩
      have c3 := c2.trans (hb3.mono c2.size)
      clear c2 hb3
      go_wp2_with fail
      refine (C2.out _).mono ?_
      rintro e w4 ⟨rfl, hb4⟩
      have c4 := c3.trans (hb4.mono c3.size)
      clear c3 hb4
      go_wp2_with fail
      refine (C3.out _).mono ?_
      rintro e w5 ⟨rfl, hb5⟩
      have c5 := c4.trans (hb5.mono c4.size)
      clear c4 hb5
      go_wp2_with fail
      refine (C4.out _).mono ?_
      rintro e w6 ⟨rfl, hb6⟩
      have c6 := c5.trans (hb6.mono c5.size)
      clear c5 hb6
      go_wp2_with fail
      refine (C5.out _).mono ?_
      rintro e w7 ⟨rfl, hb7⟩
      have c7 := c6.trans (hb7.mono c6.size)
      clear c6 hb7
      go_wp2_with fail
      refine (C6.out _).mono ?_
      rintro e w8 ⟨rfl, hb8⟩
      have c8 := c7.trans (hb8.mono c7.size)
      clear c7 hb8
      go_wp2_with fail
      refine (C7.out _).mono ?_
      rintro e w9 ⟨rfl, hb9⟩
      have c9 := c8.trans (hb9.mono c8.size)
      clear c8 hb9
      go_wp2_with fail
      refine (C8.out _).mono ?_
      rintro e w10 ⟨rfl, hb10⟩
      have c10 := c9.trans (hb10.mono c9.size)
      clear c9 hb10
      go_wp2_with fail
      refine (C9.out _).mono ?_
      rintro e w11 ⟨rfl, hb11⟩
      have c11 := c10.trans (hb11.mono c10.size)
      clear c10 hb11
      go_wp2_with fail
      refine (C10.out _).mono ?_
      rintro e w12 ⟨rfl, hb12⟩
      have c12 := c11.trans (hb12.mono c11.size)
      clear c11 hb12
      go_wp2_with fail
      refine (C11.out _).mono ?_
      rintro e w13 ⟨rfl, hb13⟩
      have c13 := c12.trans (hb13.mono c12.size)
      clear c12 hb13
      go_wp2_with fail
      go_ret
      exact ⟨rfl, c13⟩

set_option maxRecDepth 100000 in
theorem lifted (os : Os) (started : os.Started) (H : Type) (enc : TypeId × Value → H) :
    ReturnsInHanded {} Try.checked os 9 .any (Rows.integerOrderSpec.pre6 enc Try.prog Try.f9 Rows.integerOrderRow.domain false) (Rows.integerOrderSpec.post enc Try.prog Try.f9 false true false false) := by
  refine returnsInHanded_of_change (C := Try.checked) own started (by kernel_rfl) Try.func9
    (ChangeSpec.witness6 (enc := enc) (C := Try.checked) false ⟨#[], #[.string ByteArray.empty, .string ByteArray.empty, .string ByteArray.empty], []⟩ 8 (by kernel_rfl) (by kernel_rfl) (by kernel_rfl) (by kernel_rfl)) ?_
  intro W base args ds gs before hval0 hW hcnd _
  have hval : ∀ (j : Nat) t v, Try.f9.params[j]? = some t → args[j]? = some v → Value.okWide Try.prog W .any base t v := hval0
  have hW' := hW
  obtain ⟨p, q, hA0, hV, rfl, hfz, hnd⟩ := hW
  have hA : DataW.TrodAll enc Try.prog W 0 (fun _ => true) true Try.f9.params.toList args.toList ds p := hA0
  rw [Try.params9] at hA hval
  obtain ⟨v0, vs0, d0, ds0, p0, q0, hargs, rfl, rfl, h0, r0⟩ := trodAll_cons hA
  obtain ⟨v1, vs1, d1, ds1, p1, q1, rfl, rfl, rfl, h1, r1⟩ := trodAll_cons r0
  obtain ⟨v2, vs2, d2, ds2, p2, q2, rfl, rfl, rfl, h2, r2⟩ := trodAll_cons r1
  obtain ⟨rfl, rfl, rfl⟩ := trodAll_nil r2
  obtain rfl : args = #[v0, v1, v2] := by cases args; simp_all
  obtain ⟨rfl, rfl⟩ := trodVars_none hV
  obtain ⟨a0, rfl, rfl, rfl, w0⟩ := open_string Try.underlying22 (hval 0 22 v0 rfl rfl) h0
  obtain ⟨a1, rfl, rfl, rfl, w1⟩ := open_string Try.underlying22 (hval 1 22 v1 rfl rfl) h1
  obtain ⟨a2, rfl, rfl, rfl, w2⟩ := open_string Try.underlying22 (hval 2 22 v2 rfl rfl) h2
  clear hA0 hval0
  refine (walk a0 a1 a2 W).mono fun e W' ⟨he, bel⟩ => ?_
  subst he
  exact ⟨_, rfl, _, _, _, [], _, [], hW', trodAll_mk1 (shut_bool Try.underlying4 _), (trodAll_cons_mk (shut_string Try.underlying22 w0) (trodAll_cons_mk (shut_string Try.underlying22 w1) (trodAll_cons_mk (shut_string Try.underlying22 w2) trodAll_mk0))), rfl, bel.frame _, fun h => by cases h⟩

theorem over : Rows.integerOrderRow.holds Try.pinned (OpenSpec.ofChange Rows.integerOrderSpec) :=
  OpenClaim.holds_of_wide 9 Try.f9 rfl rfl rfl rfl rfl rfl rfl ⟨rfl, rfl, rfl, rfl, rfl⟩ rfl rfl rfl rfl rfl (by kernel_rfl) Try.func9 (by kernel_rfl)
    (of_decide_eq_true (by kernel_rfl)) (by unfold Func.isWrapper; first | (rw [if_pos (by decide +kernel)]; kernel_rfl) | (rw [if_neg (by decide +kernel)]; exact ⟨rfl, rfl⟩))
    (fun os started H enc _ => lifted os started H enc)

theorem proved : Rows.IntegerOrderSaid := over
#print axioms proved
