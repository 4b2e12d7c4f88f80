/-
  The quotient and the remainder that package integer returns give the integer back, and the remainder is not negative and less than the divisor's absolute value, whatever two strings; no condition (where a string is no canonical integer of at most 900 bytes, the statement is true by its first lines).
-/
import Derived.Test.YtajmdlelpkgppaaRows
import Derived.Test.YtajmdlelpkgppaaIlawb
import Derived.ProofKit
import Derived.OpenShut
import Derived.ShutString
namespace Go.Proofs.Ytajmdlelpkgppaa.lawDivision
open Go.ChangeShapes Go.WideShapes Go.ChangeAt Go.RowKit
open Go.ChangeMaps (open_string shut_string)

theorem own : ownKnob Try.prog.godebug = none := by kernel_rfl

set_option maxRecDepth 100000 in
set_option maxHeartbeats 4000000 in
theorem walk (a b : ByteArray) (w : World) :
    Calls Try.prog 8 #[.string a, .string b] w fun e w' => e = .returned (.bool true) ∧ Below w.heap.size w w' := by
  have AL := Lib.hid alive_any
  have FT := Lib.hid (fun W v hS => fits_any 900 v [a, b] W hS (by omega) (by simp))
  unfold FitsRet at FT
  cases hfit : fitsB 900 [a, b]
  · rw [hfit] at FT
    clear hfit
    go_enter Try.func8, Try.ntmps8
    go_wp2_with fail
    refine (AL.out _).mono ?_
    rintro e w1 ⟨rfl, hb1⟩
    go_wp2_with fail
    have hal := (Below.refl w1.heap.size w1).alloc (Nat.le_refl _) (.cells #[.string a, .string b] 22)
    refine (FT.out _ _ (ss_new w1 [a, b] 22 (by simp))).mono ?_
    rintro e w2 ⟨rfl, hb2⟩
    go_wp2_with fail
    go_ret
    exact ⟨rfl, hb1.trans ((hal.trans (hb2.mono hal.size)).mono hb1.size)⟩
  · obtain ⟨x, rfl, hx⟩ := fits_get hfit (s := a) (by simp)
    obtain ⟨y, rfl, hy⟩ := fits_get hfit (s := b) (by simp)
    rw [hfit] at FT
    clear hfit
    by_cases h0 : y = 0
    · subst h0
      have C0 := dmC0 hx (by omega) (by omega)
      rw [Z.S_zero] at FT ⊢
      clear hx hy
      generalize Z.S x = X at *
      go_enter Try.func8, Try.ntmps8
      go_wp2_with fail
      refine (AL.out _).mono ?_
      rintro e w1 ⟨rfl, hb1⟩
      go_wp2_with fail
      have hal := (Below.refl w1.heap.size w1).alloc (Nat.le_refl _) (.cells #[.string X, .string ⟨#[48]⟩] 22)
      refine (FT.out _ _ (ss_new w1 [X, ⟨#[48]⟩] 22 (by simp))).mono ?_
      rintro e w2 ⟨rfl, hb2⟩
      have c2 := hb1.trans ((hal.trans (hb2.mono hal.size)).mono hb1.size)
      clear hb1 hal hb2 AL FT
      go_wp2_with fail
      refine (C0.out _).mono ?_
      rintro e w3 ⟨rfl, hb3⟩
      go_wp2_with fail
      go_ret
      exact ⟨rfl, c2.trans (hb3.mono c2.size)⟩
    · obtain ⟨q, hq⟩ : ∃ q, x / y = q := ⟨_, rfl⟩
      obtain ⟨r, hr⟩ : ∃ r, x % y = r := ⟨_, rfl⟩
      have hr0 : 0 ≤ r := by rw [← hr]; exact Int.emod_nonneg x h0
      have hr1 : r < y.natAbs := by rw [← hr]; have := Int.emod_lt x h0; omega
      have lq : Z.Lt 900 q := by rw [← hq]; exact hx.of_le (Z.div_abs_le h0)
      have lr : Z.Lt 900 r := hy.of_le (by omega)
      have hqy : q * y + r = x := by rw [← hq, ← hr, Int.mul_comm]; exact Int.mul_ediv_add_emod x y
      have lqy : Z.Lt 901 (q * y) := (hx.mono (m := 900) (by omega)).sub lr |> fun h => by rw [show x + -r = q * y by omega] at h; exact h
      have C1 := dmC hx hy h0 hq hr (by omega) (by omega) (by omega) (by omega)
      have C2 := cmpC Z.lt_zero lr rfl (by omega) (by omega) (by omega) (by omega)
      have b2 := Z.le_cmpI hr0
      generalize Z.cmpI 0 r = k2 at *
      rw [Z.S_zero] at C2
      have C4 := opC_mul lq hy lqy rfl (by omega) (by omega) (by omega) (by omega) (by omega) (by omega)
      have C5 := opC_add lqy lr hx hqy (by omega) (by omega) (by omega) (by omega) (by omega) (by omega)
      have hb0 := Z.S_ne_zero h0
      have hps := Z.S_pos y
      have hhd := Z.S_headF y
      unfold OpStr at *
      by_cases hneg : y < 0
      · have C3 := cmpC lr (hy.neg) (Z.cmpI_lt (show r < -y by omega)) (by omega) (by omega) (by omega) (by omega)
        have htl := Lib.hid (Z.S_tail hneg)
        simp only [decide_eq_true hneg] at hhd
        clear hx hy lq lr lqy hq hr hr0 hr1 hqy hneg
        generalize Z.S x = X at *
        generalize Z.S (-y) = M at *
        generalize Z.S y = Y at *
        generalize Z.S q = Q' at *
        generalize Z.S r = R' at *
        generalize Z.S (q * y) = P' at *
        have hh2 : ((Y[0].toNat : Int) == 45) = true := hhd hps
        have hy1 : (1 : Int) ≤ (Y.size : Int) := by omega
        clear hhd
        go_enter Try.func8, Try.ntmps8
        go_wp2_with fail
        refine (AL.out _).mono ?_
        rintro e w1 ⟨rfl, hb1⟩
        go_wp2_with fail
        have hal := (Below.refl w1.heap.size w1).alloc (Nat.le_refl _) (.cells #[.string X, .string Y] 22)
        refine (FT.out _ _ (ss_new w1 [X, Y] 22 (by simp))).mono ?_
        rintro e w2 ⟨rfl, hb2⟩
        have c2 := hb1.trans ((hal.trans (hb2.mono hal.size)).mono hb1.size)
        clear hb1 hal hb2 AL FT
        go_wp2_with fail
        refine (C1.out _).mono ?_
        rintro e w3 ⟨rfl, hb3⟩
        have c3 := c2.trans (hb3.mono c2.size)
        clear c2 hb3
        go_wp2_with fail
        refine (C2.out _).mono ?_
        rintro e w4 ⟨rfl, hb4⟩
        have c4 := c3.trans (hb4.mono c3.size)
        clear c3 hb4
        go_wp2_with fail
        rw [htl.out]
        refine (C3.out _).mono ?_
        rintro e w5 ⟨rfl, hb5⟩
        have c5 := c4.trans (hb5.mono c4.size)
        clear c4 hb5
        go_wp2_with fail
        refine (C4.out _).mono ?_
        rintro e w6 ⟨rfl, hb6⟩
        have c6 := c5.trans (hb6.mono c5.size)
        clear c5 hb6
        go_wp2_with fail
        refine (C5.out _).mono ?_
        rintro e w7 ⟨rfl, hb7⟩
        have c7 := c6.trans (hb7.mono c6.size)
        clear c6 hb7
        go_wp2_with fail
        go_ret
        exact ⟨rfl, c7⟩
      · have C3 := cmpC lr hy (Z.cmpI_lt (show r < y by omega)) (by omega) (by omega) (by omega) (by omega)
        simp only [decide_eq_false hneg] at hhd
        clear hx hy lq lr lqy hq hr hr0 hr1 hqy hneg
        generalize Z.S x = X at *
        generalize Z.S y = Y at *
        generalize Z.S q = Q' at *
        generalize Z.S r = R' at *
        generalize Z.S (q * y) = P' at *
        have hh2 : ((Y[0].toNat : Int) == 45) = false := hhd hps
        clear hhd
        go_enter Try.func8, Try.ntmps8
        go_wp2_with fail
        refine (AL.out _).mono ?_
        rintro e w1 ⟨rfl, hb1⟩
        go_wp2_with fail
        have hal := (Below.refl w1.heap.size w1).alloc (Nat.le_refl _) (.cells #[.string X, .string Y] 22)
        refine (FT.out _ _ (ss_new w1 [X, Y] 22 (by simp))).mono ?_
        rintro e w2 ⟨rfl, hb2⟩
        have c2 := hb1.trans ((hal.trans (hb2.mono hal.size)).mono hb1.size)
        clear hb1 hal hb2 AL FT
        go_wp2_with fail
        refine (C1.out _).mono ?_
        rintro e w3 ⟨rfl, hb3⟩
        have c3 := c2.trans (hb3.mono c2.size)
        clear c2 hb3
        go_wp2_with fail
        refine (C2.out _).mono ?_
        rintro e w4 ⟨rfl, hb4⟩
        have c4 := c3.trans (hb4.mono c3.size)
        clear c3 hb4
        go_wp2_with fail
        refine (C3.out _).mono ?_
        rintro e w5 ⟨rfl, hb5⟩
        have c5 := c4.trans (hb5.mono c4.size)
        clear c4 hb5
        go_wp2_with fail
        refine (C4.out _).mono ?_
        rintro e w6 ⟨rfl, hb6⟩
        have c6 := c5.trans (hb6.mono c5.size)
        clear c5 hb6
        go_wp2_with fail
        refine (C5.out _).mono ?_
        rintro e w7 ⟨rfl, hb7⟩
        have c7 := c6.trans (hb7.mono c6.size)
        clear c6 hb7
        go_wp2_with fail
        go_ret
        exact ⟨rfl, c7⟩

set_option maxRecDepth 100000 in
theorem lifted (os : Os) (started : os.Started) (H : Type) (enc : TypeId × Value → H) :
    ReturnsInHanded {} Try.checked os 8 .any (Rows.integerDivisionSpec.pre6 enc Try.prog Try.f8 Rows.integerDivisionRow.domain false) (Rows.integerDivisionSpec.post enc Try.prog Try.f8 false true false false) := by
  refine returnsInHanded_of_change (C := Try.checked) own started (by kernel_rfl) Try.func8
    (ChangeSpec.witness6 (enc := enc) (C := Try.checked) false ⟨#[], #[.string ByteArray.empty, .string ByteArray.empty], []⟩ 8 (by kernel_rfl) (by kernel_rfl) (by kernel_rfl) (by kernel_rfl)) ?_
  intro W base args ds gs before hval0 hW hcnd _
  have hval : ∀ (j : Nat) t v, Try.f8.params[j]? = some t → args[j]? = some v → Value.okWide Try.prog W .any base t v := hval0
  have hW' := hW
  obtain ⟨p, q, hA0, hV, rfl, hfz, hnd⟩ := hW
  have hA : DataW.TrodAll enc Try.prog W 0 (fun _ => true) true Try.f8.params.toList args.toList ds p := hA0
  rw [Try.params8] at hA hval
  obtain ⟨v0, vs0, d0, ds0, p0, q0, hargs, rfl, rfl, h0, r0⟩ := trodAll_cons hA
  obtain ⟨v1, vs1, d1, ds1, p1, q1, rfl, rfl, rfl, h1, r1⟩ := trodAll_cons r0
  obtain ⟨rfl, rfl, rfl⟩ := trodAll_nil r1
  obtain rfl : args = #[v0, v1] := by cases args; simp_all
  obtain ⟨rfl, rfl⟩ := trodVars_none hV
  obtain ⟨a0, rfl, rfl, rfl, w0⟩ := open_string Try.underlying22 (hval 0 22 v0 rfl rfl) h0
  obtain ⟨a1, rfl, rfl, rfl, w1⟩ := open_string Try.underlying22 (hval 1 22 v1 rfl rfl) h1
  clear hA0 hval0
  refine (walk a0 a1 W).mono fun e W' ⟨he, bel⟩ => ?_
  subst he
  exact ⟨_, rfl, _, _, _, [], _, [], hW', trodAll_mk1 (shut_bool Try.underlying4 _), (trodAll_cons_mk (shut_string Try.underlying22 w0) (trodAll_cons_mk (shut_string Try.underlying22 w1) trodAll_mk0)), rfl, bel.frame _, fun h => by cases h⟩

theorem over : Rows.integerDivisionRow.holds Try.pinned (OpenSpec.ofChange Rows.integerDivisionSpec) :=
  OpenClaim.holds_of_wide 8 Try.f8 rfl rfl rfl rfl rfl rfl rfl ⟨rfl, rfl, rfl, rfl, rfl⟩ rfl rfl rfl rfl rfl (by kernel_rfl) Try.func8 (by kernel_rfl)
    (of_decide_eq_true (by kernel_rfl)) (by unfold Func.isWrapper; first | (rw [if_pos (by decide +kernel)]; kernel_rfl) | (rw [if_neg (by decide +kernel)]; exact ⟨rfl, rfl⟩))
    (fun os started H enc _ => lifted os started H enc)

theorem proved : Rows.IntegerDivisionSaid := over
#print axioms proved
