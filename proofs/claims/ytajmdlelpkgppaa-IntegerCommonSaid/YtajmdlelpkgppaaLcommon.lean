/-
  The greatest common divisor that package integer returns divides both integers, does not depend on their order and signs, and a common factor comes out, whatever three strings; no condition (where a string is no canonical integer of at most 200 bytes, the statement is true by its first lines).
-/
import Derived.Test.YtajmdlelpkgppaaRows
import Derived.Test.YtajmdlelpkgppaaIlawb
import Derived.ProofKit
import Derived.OpenShut
import Derived.ShutString
namespace Go.Proofs.Ytajmdlelpkgppaa.lawCommon
open Go.ChangeShapes Go.WideShapes Go.ChangeAt Go.RowKit
open Go.ChangeMaps (open_string shut_string)

theorem own : ownKnob Try.prog.godebug = none := by kernel_rfl

theorem gcd_swap (x y : Int) : Z.gcdI y (-x) = Z.gcdI x y := by unfold Z.gcdI; rw [Int.natAbs_neg, Nat.gcd_comm]
theorem gcd_zero {x y : Int} (h : Z.gcdI x y = 0) : x = 0 ∧ y = 0 := by
  unfold Z.gcdI at h
  have h1 : Nat.gcd x.natAbs y.natAbs = 0 := by omega
  have h2 := Nat.eq_zero_of_gcd_eq_zero_left h1
  have h3 := Nat.eq_zero_of_gcd_eq_zero_right h1
  omega
theorem gcd_left (x y : Int) : x % Z.gcdI x y = 0 := Int.emod_eq_zero_of_dvd (show ((Int.gcd x y : Nat) : Int) ∣ x from Int.gcd_dvd_left ..)
theorem gcd_right (x y : Int) : y % Z.gcdI x y = 0 := Int.emod_eq_zero_of_dvd (show ((Int.gcd x y : Nat) : Int) ∣ y from Int.gcd_dvd_right ..)
theorem gcd_mul (x y k : Int) : Z.gcdI (x * k) (y * k) = Z.gcdI x y * (k.natAbs : Int) := by
  unfold Z.gcdI
  rw [Int.natAbs_mul, Int.natAbs_mul, Nat.gcd_mul_right, Int.natCast_mul]
theorem gcd_nonneg (x y : Int) : ¬ Z.gcdI x y < 0 := by unfold Z.gcdI; omega
set_option maxRecDepth 100000 in
set_option maxHeartbeats 4000000 in
theorem walk (a b k : ByteArray) (w : World) :
    Calls Try.prog 7 #[.string a, .string b, .string k] w fun e w' => e = .returned (.bool true) ∧ Below w.heap.size w w' := by
  have AL := Lib.hid alive_any
  have FT := Lib.hid (fun W v hS => fits_any 200 v [a, b, k] W hS (by omega) (by simp))
  unfold FitsRet at FT
  cases hfit : fitsB 200 [a, b, k]
  · rw [hfit] at FT
    clear hfit
    go_enter Try.func7, Try.ntmps7
    go_wp2_with fail
    refine (AL.out _).mono ?_
    rintro e w1 ⟨rfl, hb1⟩
    go_wp2_with fail
    have hal := (Below.refl w1.heap.size w1).alloc (Nat.le_refl _) (.cells #[.string a, .string b, .string k] 22)
    refine (FT.out _ _ (ss_new w1 [a, b, k] 22 (by simp))).mono ?_
    rintro e w2 ⟨rfl, hb2⟩
    go_wp2_with fail
    go_ret
    exact ⟨rfl, hb1.trans ((hal.trans (hb2.mono hal.size)).mono hb1.size)⟩
  · obtain ⟨x, rfl, hx⟩ := fits_get hfit (s := a) (by simp)
    obtain ⟨y, rfl, hy⟩ := fits_get hfit (s := b) (by simp)
    obtain ⟨k, rfl, hk⟩ := fits_get hfit (s := k) (by simp)
    rw [hfit] at FT
    clear hfit
    obtain ⟨g, hg⟩ : ∃ g, Z.gcdI x y = g := ⟨_, rfl⟩
    obtain ⟨m, hm⟩ : ∃ m, -x = m := ⟨_, rfl⟩
    have lg : Z.Lt 200 g := by rw [← hg]; exact Z.gcdI_le hx hy
    have lm : Z.Lt 200 m := by rw [← hm]; exact hx.neg
    have hgn : ¬ g < 0 := by rw [← hg]; exact gcd_nonneg x y
    have C1 := gcdC hx hy hg (by omega) (by omega) (by omega) (by omega)
    have C2 := opC_sub Z.lt_zero hx lm (show (0 : Int) + -x = m by omega) (by omega) (by omega) (by omega) (by omega) (by omega) (by omega)
    rw [Z.S_zero] at C2
    have C3 := gcdC (g := g) hy lm (by rw [← hm, gcd_swap]; exact hg) (by omega) (by omega) (by omega) (by omega)
    have gne := Z.S_ne g
    have gps := Z.S_pos g
    have ghd := Z.S_headF g
    simp only [decide_eq_false hgn] at ghd
    by_cases h0 : g = 0
    · obtain ⟨rfl, rfl⟩ := gcd_zero (hg.trans h0)
      unfold OpStr at *
      subst h0
      rw [Z.S_zero] at C1 C2 C3 FT ⊢
      clear hg hm lg lm hgn hx hy hk gne gps ghd
      generalize Z.S k = K at *
      generalize Z.S m = M at *
      go_enter Try.func7, Try.ntmps7
      go_wp2_with fail
      refine (AL.out _).mono ?_
      rintro e w1 ⟨rfl, hb1⟩
      go_wp2_with fail
      have hal := (Below.refl w1.heap.size w1).alloc (Nat.le_refl _) (.cells #[.string ⟨#[48]⟩, .string ⟨#[48]⟩, .string K] 22)
      refine (FT.out _ _ (ss_new w1 [⟨#[48]⟩, ⟨#[48]⟩, K] 22 (by simp))).mono ?_
      rintro e w2 ⟨rfl, hb2⟩
      have c2 := hb1.trans ((hal.trans (hb2.mono hal.size)).mono hb1.size)
      clear hb1 hal hb2 AL FT
      go_wp2_with fail
      refine (C1.out _).mono ?_
      rintro e w3 ⟨rfl, hb3⟩
      have c3 := c2.trans (hb3.mono c2.size)
      clear c2 hb3
      go_wp2_with fail
      refine (C2.out _).mono ?_
      rintro e w4 ⟨rfl, hb4⟩
      have c4 := c3.trans (hb4.mono c3.size)
      clear c3 hb4
      go_wp2_with fail
      refine (C3.out _).mono ?_
      rintro e w5 ⟨rfl, hb5⟩
      have c5 := c4.trans (hb5.mono c4.size)
      clear c4 hb5
      go_wp2_with fail
      go_ret
      exact ⟨rfl, c5⟩
    · obtain ⟨q1, hq1⟩ : ∃ q, x / g = q := ⟨_, rfl⟩
      obtain ⟨q2, hq2⟩ : ∃ q, y / g = q := ⟨_, rfl⟩
      obtain ⟨p1, hp1⟩ : ∃ q, x * k = q := ⟨_, rfl⟩
      obtain ⟨p2, hp2⟩ : ∃ q, y * k = q := ⟨_, rfl⟩
      obtain ⟨p3, hp3⟩ : ∃ q, g * (k.natAbs : Int) = q := ⟨_, rfl⟩
      have l1 : Z.Lt 400 p1 := by rw [← hp1]; exact hx.mul hk
      have l2 : Z.Lt 400 p2 := by rw [← hp2]; exact hy.mul hk
      have lk : Z.Lt 200 (k.natAbs : Int) := by unfold Z.Lt at *; rw [Int.natAbs_natCast]; exact hk
      have l3 : Z.Lt 400 p3 := by rw [← hp3]; exact lg.mul lk
      have C4 := dmC (r := 0) hx lg h0 hq1 (by rw [← hg]; exact gcd_left x y) (by omega) (by omega) (by omega) (by omega)
      have C5 := dmC (r := 0) hy lg h0 hq2 (by rw [← hg]; exact gcd_right x y) (by omega) (by omega) (by omega) (by omega)
      rw [Z.S_zero] at C4 C5
      have C6 := opC_mul hx hk l1 hp1 (by omega) (by omega) (by omega) (by omega) (by omega) (by omega)
      have C7 := opC_mul hy hk l2 hp2 (by omega) (by omega) (by omega) (by omega) (by omega) (by omega)
      have C8 := gcdC l1 l2 (show Z.gcdI p1 p2 = p3 by rw [← hp1, ← hp2, gcd_mul, hg, hp3]) (by omega) (by omega) (by omega) (by omega)
      have hg0 := Z.S_ne_zero h0
      have kps := Z.S_pos k
      have khd := Z.S_headF k
      unfold OpStr at *
      by_cases hneg : k < 0
      · have C9 := opC_mul lg hk.neg l3 (by rw [← hp3]; congr 1; omega) (by omega) (by omega) (by omega) (by omega) (by omega) (by omega)
        have htl := Lib.hid (Z.S_tail hneg)
        unfold OpStr at C9
        simp only [decide_eq_true hneg] at khd
        clear hg hm lg lm hgn hx hy hk l1 l2 l3 lk hq1 hq2 hp1 hp2 hp3 h0 hneg
        generalize Z.S x = X at *
        generalize Z.S y = Y at *
        generalize Z.S (-k) = KN at *
        generalize Z.S k = K at *
        generalize Z.S g = G at *
        generalize Z.S m = M at *
        generalize Z.S q1 = Q1 at *
        generalize Z.S q2 = Q2 at *
        generalize Z.S p1 = P1 at *
        generalize Z.S p2 = P2 at *
        generalize Z.S p3 = P3 at *
        have gh2 := ghd gps
        have kh2 := khd kps
        have kp1 : (0 : Int) < (K.size : Int) := by omega
        have kp2 : (1 : Int) ≤ (K.size : Int) := by omega
        clear ghd khd
        go_enter Try.func7, Try.ntmps7
        go_wp2_with fail
        refine (AL.out _).mono ?_
        rintro e w1 ⟨rfl, hb1⟩
        go_wp2_with fail
        have hal := (Below.refl w1.heap.size w1).alloc (Nat.le_refl _) (.cells #[.string X, .string Y, .string K] 22)
        refine (FT.out _ _ (ss_new w1 [X, Y, K] 22 (by simp))).mono ?_
        rintro e w2 ⟨rfl, hb2⟩
        have c2 := hb1.trans ((hal.trans (hb2.mono hal.size)).mono hb1.size)
        clear hb1 hal hb2 AL FT
        go_wp2_with fail
        refine (C1.out _).mono ?_
        rintro e w3 ⟨rfl, hb3⟩
        have c3 := c2.trans (hb3.mono c2.size)
        clear c2 hb3
        go_wp2_with fail
        refine (C2.out _).mono ?_
        rintro e w4 ⟨rfl, hb4⟩
        have c4 := c3.trans (hb4.mono c3.size)
        clear c3 hb4
        go_wp2_with fail
        refine (C3.out _).mono ?_
        rintro e w5 ⟨rfl, hb5⟩
        have c5 := c4.trans (hb5.mono c4.size)
        clear c4 hb5
        go_wp2_with fail
        refine (C4.out _).mono ?_
        rintro e w6 ⟨rfl, hb6⟩
        have c6 := c5.trans (hb6.mono c5.size)
        clear c5 hb6
        go_wp2_with fail
        refine (C5.out _).mono ?_
        rintro e w7 ⟨rfl, hb7⟩
        have c7 := c6.trans (hb7.mono c6.size)
        clear c6 hb7
        go_wp2_with fail
        refine (C6.out _).mono ?_
        rintro e w8 ⟨rfl, hb8⟩
        have c8 := c7.trans (hb8.mono c7.size)
        clear c7 hb8
        go_wp2_with fail
        refine (C7.out _).mono ?_
        rintro e w9 ⟨rfl, hb9⟩
        have c9 := c8.trans (hb9.mono c8.size)
        clear c8 hb9
        go_wp2_with fail
        refine (C8.out _).mono ?_
        rintro e w10 ⟨rfl, hb10⟩
        have c10 := c9.trans (hb10.mono c9.size)
        clear c9 hb10
        go_wp2_with fail
        rw [htl.out]
        refine (C9.out _).mono ?_
        rintro e w11 ⟨rfl, hb11⟩
        have c11 := c10.trans (hb11.mono c10.size)
        clear c10 hb11
        go_wp2_with fail
        go_ret
        exact ⟨rfl, c11⟩
      · have C9 := opC_mul lg hk l3 (by rw [← hp3]; congr 1; omega) (by omega) (by omega) (by omega) (by omega) (by omega) (by omega)
        unfold OpStr at C9
        simp only [decide_eq_false hneg] at khd
        clear hg hm lg lm hgn hx hy hk l1 l2 l3 lk hq1 hq2 hp1 hp2 hp3 h0 hneg
        generalize Z.S x = X at *
        generalize Z.S y = Y at *
        generalize Z.S k = K at *
        generalize Z.S g = G at *
        generalize Z.S m = M at *
        generalize Z.S q1 = Q1 at *
        generalize Z.S q2 = Q2 at *
        generalize Z.S p1 = P1 at *
        generalize Z.S p2 = P2 at *
        generalize Z.S p3 = P3 at *
        have gh2 := ghd gps
        have kh2 := khd kps
        have kp1 : (0 : Int) < (K.size : Int) := by omega
        clear ghd khd
        go_enter Try.func7, Try.ntmps7
        go_wp2_with fail
        refine (AL.out _).mono ?_
        rintro e w1 ⟨rfl, hb1⟩
        go_wp2_with fail
        have hal := (Below.refl w1.heap.size w1).alloc (Nat.le_refl _) (.cells #[.string X, .string Y, .string K] 22)
        refine (FT.out _ _ (ss_new w1 [X, Y, K] 22 (by simp))).mono ?_
        rintro e w2 ⟨rfl, hb2⟩
        have c2 := hb1.trans ((hal.trans (hb2.mono hal.size)).mono hb1.size)
        clear hb1 hal hb2 AL FT
        go_wp2_with fail
        refine (C1.out _).mono ?_
        rintro e w3 ⟨rfl, hb3⟩
        have c3 := c2.trans (hb3.mono c2.size)
        clear c2 hb3
        go_wp2_with fail
        refine (C2.out _).mono ?_
        rintro e w4 ⟨rfl, hb4⟩
        have c4 := c3.trans (hb4.mono c3.size)
        clear c3 hb4
        go_wp2_with fail
        refine (C3.out _).mono ?_
        rintro e w5 ⟨rfl, hb5⟩
        have c5 := c4.trans (hb5.mono c4.size)
        clear c4 hb5
        go_wp2_with fail
        refine (C4.out _).mono ?_
        rintro e w6 ⟨rfl, hb6⟩
        have c6 := c5.trans (hb6.mono c5.size)
        clear c5 hb6
        go_wp2_with fail
        refine (C5.out _).mono ?_
        rintro e w7 ⟨rfl, hb7⟩
        have c7 := c6.trans (hb7.mono c6.size)
        clear c6 hb7
        go_wp2_with fail
        refine (C6.out _).mono ?_
        rintro e w8 ⟨rfl, hb8⟩
        have c8 := c7.trans (hb8.mono c7.size)
        clear c7 hb8
        go_wp2_with fail
        refine (C7.out _).mono ?_
        rintro e w9 ⟨rfl, hb9⟩
        have c9 := c8.trans (hb9.mono c8.size)
        clear c8 hb9
        go_wp2_with fail
        refine (C8.out _).mono ?_
        rintro e w10 ⟨rfl, hb10⟩
        have c10 := c9.trans (hb10.mono c9.size)
        clear c9 hb10
        go_wp2_with fail
        refine (C9.out _).mono ?_
        rintro e w11 ⟨rfl, hb11⟩
        have c11 := c10.trans (hb11.mono c10.size)
        clear c10 hb11
        go_wp2_with fail
        go_ret
        exact ⟨rfl, c11⟩

set_option maxRecDepth 100000 in
theorem lifted (os : Os) (started : os.Started) (H : Type) (enc : TypeId × Value → H) :
    ReturnsInHanded {} Try.checked os 7 .any (Rows.integerCommonSpec.pre6 enc Try.prog Try.f7 Rows.integerCommonRow.domain false) (Rows.integerCommonSpec.post enc Try.prog Try.f7 false true false false) := by
  refine returnsInHanded_of_change (C := Try.checked) own started (by kernel_rfl) Try.func7
    (ChangeSpec.witness6 (enc := enc) (C := Try.checked) false ⟨#[], #[.string ByteArray.empty, .string ByteArray.empty, .string ByteArray.empty], []⟩ 8 (by kernel_rfl) (by kernel_rfl) (by kernel_rfl) (by kernel_rfl)) ?_
  intro W base args ds gs before hval0 hW hcnd _
  have hval : ∀ (j : Nat) t v, Try.f7.params[j]? = some t → args[j]? = some v → Value.okWide Try.prog W .any base t v := hval0
  have hW' := hW
  obtain ⟨p, q, hA0, hV, rfl, hfz, hnd⟩ := hW
  have hA : DataW.TrodAll enc Try.prog W 0 (fun _ => true) true Try.f7.params.toList args.toList ds p := hA0
  rw [Try.params7] at hA hval
  obtain ⟨v0, vs0, d0, ds0, p0, q0, hargs, rfl, rfl, h0, r0⟩ := trodAll_cons hA
  obtain ⟨v1, vs1, d1, ds1, p1, q1, rfl, rfl, rfl, h1, r1⟩ := trodAll_cons r0
  obtain ⟨v2, vs2, d2, ds2, p2, q2, rfl, rfl, rfl, h2, r2⟩ := trodAll_cons r1
  obtain ⟨rfl, rfl, rfl⟩ := trodAll_nil r2
  obtain rfl : args = #[v0, v1, v2] := by cases args; simp_all
  obtain ⟨rfl, rfl⟩ := trodVars_none hV
  obtain ⟨a0, rfl, rfl, rfl, w0⟩ := open_string Try.underlying22 (hval 0 22 v0 rfl rfl) h0
  obtain ⟨a1, rfl, rfl, rfl, w1⟩ := open_string Try.underlying22 (hval 1 22 v1 rfl rfl) h1
  obtain ⟨a2, rfl, rfl, rfl, w2⟩ := open_string Try.underlying22 (hval 2 22 v2 rfl rfl) h2
  clear hA0 hval0
  refine (walk a0 a1 a2 W).mono fun e W' ⟨he, bel⟩ => ?_
  subst he
  exact ⟨_, rfl, _, _, _, [], _, [], hW', trodAll_mk1 (shut_bool Try.underlying4 _), (trodAll_cons_mk (shut_string Try.underlying22 w0) (trodAll_cons_mk (shut_string Try.underlying22 w1) (trodAll_cons_mk (shut_string Try.underlying22 w2) trodAll_mk0))), rfl, bel.frame _, fun h => by cases h⟩

theorem over : Rows.integerCommonRow.holds Try.pinned (OpenSpec.ofChange Rows.integerCommonSpec) :=
  OpenClaim.holds_of_wide 7 Try.f7 rfl rfl rfl rfl rfl rfl rfl ⟨rfl, rfl, rfl, rfl, rfl⟩ rfl rfl rfl rfl rfl (by kernel_rfl) Try.func7 (by kernel_rfl)
    (of_decide_eq_true (by kernel_rfl)) (by unfold Func.isWrapper; first | (rw [if_pos (by decide +kernel)]; kernel_rfl) | (rw [if_neg (by decide +kernel)]; exact ⟨rfl, rfl⟩))
    (fun os started H enc _ => lifted os started H enc)

theorem proved : Rows.IntegerCommonSaid := over
#print axioms proved
