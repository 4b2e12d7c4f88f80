/- Q5: Qp Qpw Qpv Qsm Qf -/
import Derived.Test.YthafdckomhdlbaaDoorQ4
import Derived.SliceStrings
import Derived.SizedLaws
import Derived.ProofKit
import Derived.OpenShut
import Derived.ShutString
import Derived.Lib.SmallJoins
/- Walks: raised of the package and of the reference. -/

namespace Go.Proofs.YthafdckomhdlbaaDoor
open Go.RowKit

namespace Z
/-- All products on the way to the n-th power fit. -/
def pwOk (x : Int) : Nat → Bool
  | 0 => true
  | k + 1 => pwOk x k && decide (resE (x ^ k * x) = 0)
theorem pwOk_le {x : Int} {k n : Nat} (h : k ≤ n) (hn : pwOk x n = true) : pwOk x k = true := by
  induction n with
  | zero =>
    obtain rfl : k = 0 := by omega
    rfl
  | succ n ih =>
    by_cases e : k = n + 1
    · rw [e]; exact hn
    · simp only [pwOk, Bool.and_eq_true] at hn
      exact ih (by omega) hn.1
theorem pwOk_chk {x : Int} {k : Nat} (h : pwOk x k = true) : chk (S (x ^ k)).data.toList = 0 := by
  cases k with
  | zero =>
    show chk (S (x ^ 0)).data.toList = 0
    rw [Int.pow_zero]; decide +kernel
  | succ k =>
    simp only [pwOk, Bool.and_eq_true, decide_eq_true_eq] at h
    rw [Int.pow_succ]
    exact (res_fit h.2).2
/-- How often raised multiplies. -/
def pwm (x : Int) (n : Nat) : Nat := if x = 0 ∨ x = 1 then min n 1 else n
def pwE (x : Int) (n : Nat) : Int := if pwOk x (pwm x n) = true then 0 else 14
def pwS (x : Int) (n : Nat) : ByteArray := if pwOk x (pwm x n) = true then S (x ^ pwm x n) else ⟨#[]⟩
theorem pw_ok {x : Int} {n : Nat} (h : pwOk x (pwm x n) = true) : pwS x n = S (x ^ pwm x n) ∧ pwE x n = 0 := by
  unfold pwS pwE; rw [if_pos h, if_pos h]; exact ⟨rfl, rfl⟩
theorem pw_bad {x : Int} {n k : Nat} (hk : k + 1 ≤ pwm x n) (h : resE (x ^ k * x) ≠ 0) : pwS x n = ⟨#[]⟩ ∧ pwE x n = 14 := by
  have : ¬ pwOk x (pwm x n) = true := by
    intro hh
    have := pwOk_le hk hh
    simp only [pwOk, Bool.and_eq_true, decide_eq_true_eq] at this
    exact h this.2
  unfold pwS pwE; rw [if_neg this, if_neg this]; exact ⟨rfl, rfl⟩
theorem S_one_lit : (⟨#[49]⟩ : ByteArray) = S 1 := S_one.symm
end Z
def PwRet (x : Int) (n : Nat) (w : World) (e : Ending) (w' : World) : Prop := e = .returned (.tuple #[.string (Z.pwS x n), .int .i64 (Z.pwE x n)]) ∧ Below w.heap.size w w'
set_option maxRecDepth 100000 in
set_option maxHeartbeats 1000000 in
theorem qraised_any (x : Int) (n : Nat) (w : World) (hx : Z.chk (Z.S x).data.toList = 0) (hn : n ≤ 1000) :
    Calls Tryd.prog 44 #[.string (Z.S x), .int .i64 n] w (PwRet x n w) := by
  have h48 := Z.e48 x
  have h49 := Z.e49 x
  have MU0 : ∀ (s : ByteArray) (k : Nat), Hid (s = Z.S (x ^ k) ∧ Z.pwOk x k = true) → Hid (OpC 41 s (Z.S x) (Z.resS (x ^ k * x)) (Z.resE (x ^ k * x))) := by
    intro s k HK
    rw [HK.out.1]
    exact Lib.hid (opC_mul2 (Z.pwOk_chk HK.out.2) hx)
  have BAD0 : ∀ k : Nat, k + 1 ≤ Z.pwm x n → Z.resE (x ^ k * x) ≠ 0 → Hid (Z.pwS x n = ⟨#[]⟩ ∧ Z.pwE x n = 14) := fun k h1 h2 => Lib.hid (Z.pw_bad h1 h2)
  have OKK0 : ∀ s : ByteArray, Hid (s = Z.S (x ^ Z.pwm x n) ∧ Z.pwOk x (Z.pwm x n) = true) → Hid (Z.pwS x n = Z.S (x ^ Z.pwm x n) ∧ Z.pwE x n = 0) := fun _ HK => Lib.hid (Z.pw_ok HK.out.2)
  have pm : Z.pwm x n = if x = 0 ∨ x = 1 then min n 1 else n := rfl
  unfold PwRet
  clear hx
  generalize Z.S x = sx at *
  have gm : ∃ m : Nat, m = Z.pwm x n := ⟨_, rfl⟩
  obtain ⟨m, hm⟩ := gm
  rw [← hm] at BAD0 OKK0
  have MU := Lib.hid MU0
  have BAD := Lib.hid BAD0
  have OKK := Lib.hid OKK0
  clear MU0 BAD0 OKK0
  by_cases h0 : x = 0 ∨ x = 1
  · rw [if_pos h0] at pm
    have hm1 : m = min n 1 := hm.trans pm
    clear hm pm
    by_cases hn1 : n ≤ 1
    · obtain rfl : m = n := by omega
      have hnn : ¬ (1 : Int) < (m : Int) := by omega
      clear hm1
      by_cases hz : x = 0
      · rw [decide_eq_true hz] at h48
        clear h49 h0 hz
        go_enter Tryd.func44, Tryd.ntmps44
        go_wp2_with fail
        go_loopw [6, 17] (fun sv iv wr => ∃ (k : Nat) (s : ByteArray), k ≤ m ∧ iv = .int .i64 k ∧ sv = .string s ∧ Below w.heap.size w wr ∧ Hid (s = Z.S (x ^ k) ∧ Z.pwOk x k = true)) (fun _ iv _ => m - (intOf iv).toNat)
        case atStart => exact ⟨0, _, by omega, rfl, rfl, Below.refl _ _, by rw [Int.pow_zero]; exact Z.S_one_lit, rfl⟩
        case round =>
          obtain ⟨k, s, hk, rfl, rfl, hb, HK⟩ := hrel
          by_cases hlt : k < m
          · have O := MU.out s k HK
            generalize hr : Z.resS (x ^ k * x) = r at *
            generalize he : Z.resE (x ^ k * x) = ek at *
            have HR := Lib.hid hr
            have HE := Lib.hid he
            clear hr he
            by_cases hz : ek = 0
            · subst hz
              go_wp2_with fail
              refine (O.out _).mono ?_
              rintro e w2 ⟨rfl, hb2⟩
              go_wp2_with fail
              go_roundw
              case rel =>
                refine ⟨k + 1, _, by omega, by go_num, rfl, hb.trans (hb2.mono hb.size), ?_, ?_⟩
                · rw [← HR.out, (Z.res_fit HE.out).1, Int.pow_succ]
                · simp only [Z.pwOk, Bool.and_eq_true, decide_eq_true_eq]; exact ⟨HK.out.2, HE.out⟩
              case measure => simp [intOf]; omega
            · have hzb : (ek != 0) = true := by simpa using hz
              have HB := BAD.out k (by omega) (fun h => hz (HE.out.symm.trans h))
              have H14 : Hid (ek = 14) := Lib.hid (HE.out.symm.trans (Z.res_14 (fun h => hz (HE.out.symm.trans h))))
              clear hz
              go_wp2_with fail
              refine (O.out _).mono ?_
              rintro e w2 ⟨rfl, hb2⟩
              go_wp2_with fail
              go_ret2
              rw [HB.out.1, HB.out.2, H14.out]
              exact ⟨rfl, hb.trans (hb2.mono hb.size)⟩
          · obtain rfl : k = m := by omega
            have HO := OKK.out _ HK
            go_wp2_with fail
            go_ret2
            rw [HO.out.1, HO.out.2, HK.out.1]
            exact ⟨rfl, hb⟩
      · have h1 : x = 1 := h0.resolve_left hz
        rw [decide_eq_false hz] at h48
        rw [decide_eq_true h1] at h49
        clear h0 hz h1
        go_enter Tryd.func44, Tryd.ntmps44
        go_wp2_with fail
        go_loopw [6, 17] (fun sv iv wr => ∃ (k : Nat) (s : ByteArray), k ≤ m ∧ iv = .int .i64 k ∧ sv = .string s ∧ Below w.heap.size w wr ∧ Hid (s = Z.S (x ^ k) ∧ Z.pwOk x k = true)) (fun _ iv _ => m - (intOf iv).toNat)
        case atStart => exact ⟨0, _, by omega, rfl, rfl, Below.refl _ _, by rw [Int.pow_zero]; exact Z.S_one_lit, rfl⟩
        case round =>
          obtain ⟨k, s, hk, rfl, rfl, hb, HK⟩ := hrel
          by_cases hlt : k < m
          · have O := MU.out s k HK
            generalize hr : Z.resS (x ^ k * x) = r at *
            generalize he : Z.resE (x ^ k * x) = ek at *
            have HR := Lib.hid hr
            have HE := Lib.hid he
            clear hr he
            by_cases hz : ek = 0
            · subst hz
              go_wp2_with fail
              refine (O.out _).mono ?_
              rintro e w2 ⟨rfl, hb2⟩
              go_wp2_with fail
              go_roundw
              case rel =>
                refine ⟨k + 1, _, by omega, by go_num, rfl, hb.trans (hb2.mono hb.size), ?_, ?_⟩
                · rw [← HR.out, (Z.res_fit HE.out).1, Int.pow_succ]
                · simp only [Z.pwOk, Bool.and_eq_true, decide_eq_true_eq]; exact ⟨HK.out.2, HE.out⟩
              case measure => simp [intOf]; omega
            · have hzb : (ek != 0) = true := by simpa using hz
              have HB := BAD.out k (by omega) (fun h => hz (HE.out.symm.trans h))
              have H14 : Hid (ek = 14) := Lib.hid (HE.out.symm.trans (Z.res_14 (fun h => hz (HE.out.symm.trans h))))
              clear hz
              go_wp2_with fail
              refine (O.out _).mono ?_
              rintro e w2 ⟨rfl, hb2⟩
              go_wp2_with fail
              go_ret2
              rw [HB.out.1, HB.out.2, H14.out]
              exact ⟨rfl, hb.trans (hb2.mono hb.size)⟩
          · obtain rfl : k = m := by omega
            have HO := OKK.out _ HK
            go_wp2_with fail
            go_ret2
            rw [HO.out.1, HO.out.2, HK.out.1]
            exact ⟨rfl, hb⟩
    · have hm2 : m = 1 := by omega
      have hnn : (1 : Int) < (n : Int) := by omega
      clear hm1
      by_cases hz : x = 0
      · rw [decide_eq_true hz] at h48
        clear h49 h0 hz
        go_enter Tryd.func44, Tryd.ntmps44
        go_wp2_with fail
        go_loopw [6, 17] (fun sv iv wr => ∃ (k : Nat) (s : ByteArray), k ≤ m ∧ iv = .int .i64 k ∧ sv = .string s ∧ Below w.heap.size w wr ∧ Hid (s = Z.S (x ^ k) ∧ Z.pwOk x k = true)) (fun _ iv _ => m - (intOf iv).toNat)
        case atStart => exact ⟨0, _, by omega, rfl, rfl, Below.refl _ _, by rw [Int.pow_zero]; exact Z.S_one_lit, rfl⟩
        case round =>
          obtain ⟨k, s, hk, rfl, rfl, hb, HK⟩ := hrel
          by_cases hlt : k < m
          · have O := MU.out s k HK
            generalize hr : Z.resS (x ^ k * x) = r at *
            generalize he : Z.resE (x ^ k * x) = ek at *
            have HR := Lib.hid hr
            have HE := Lib.hid he
            clear hr he
            by_cases hz : ek = 0
            · subst hz
              go_wp2_with fail
              refine (O.out _).mono ?_
              rintro e w2 ⟨rfl, hb2⟩
              go_wp2_with fail
              go_roundw
              case rel =>
                refine ⟨k + 1, _, by omega, by go_num, rfl, hb.trans (hb2.mono hb.size), ?_, ?_⟩
                · rw [← HR.out, (Z.res_fit HE.out).1, Int.pow_succ]
                · simp only [Z.pwOk, Bool.and_eq_true, decide_eq_true_eq]; exact ⟨HK.out.2, HE.out⟩
              case measure => simp [intOf]; omega
            · have hzb : (ek != 0) = true := by simpa using hz
              have HB := BAD.out k (by omega) (fun h => hz (HE.out.symm.trans h))
              have H14 : Hid (ek = 14) := Lib.hid (HE.out.symm.trans (Z.res_14 (fun h => hz (HE.out.symm.trans h))))
              clear hz
              go_wp2_with fail
              refine (O.out _).mono ?_
              rintro e w2 ⟨rfl, hb2⟩
              go_wp2_with fail
              go_ret2
              rw [HB.out.1, HB.out.2, H14.out]
              exact ⟨rfl, hb.trans (hb2.mono hb.size)⟩
          · obtain rfl : k = m := by omega
            have HO := OKK.out _ HK
            go_wp2_with fail
            go_ret2
            rw [HO.out.1, HO.out.2, HK.out.1]
            exact ⟨rfl, hb⟩
      · have h1 : x = 1 := h0.resolve_left hz
        rw [decide_eq_false hz] at h48
        rw [decide_eq_true h1] at h49
        clear h0 hz h1
        go_enter Tryd.func44, Tryd.ntmps44
        go_wp2_with fail
        go_loopw [6, 17] (fun sv iv wr => ∃ (k : Nat) (s : ByteArray), k ≤ m ∧ iv = .int .i64 k ∧ sv = .string s ∧ Below w.heap.size w wr ∧ Hid (s = Z.S (x ^ k) ∧ Z.pwOk x k = true)) (fun _ iv _ => m - (intOf iv).toNat)
        case atStart => exact ⟨0, _, by omega, rfl, rfl, Below.refl _ _, by rw [Int.pow_zero]; exact Z.S_one_lit, rfl⟩
        case round =>
          obtain ⟨k, s, hk, rfl, rfl, hb, HK⟩ := hrel
          by_cases hlt : k < m
          · have O := MU.out s k HK
            generalize hr : Z.resS (x ^ k * x) = r at *
            generalize he : Z.resE (x ^ k * x) = ek at *
            have HR := Lib.hid hr
            have HE := Lib.hid he
            clear hr he
            by_cases hz : ek = 0
            · subst hz
              go_wp2_with fail
              refine (O.out _).mono ?_
              rintro e w2 ⟨rfl, hb2⟩
              go_wp2_with fail
              go_roundw
              case rel =>
                refine ⟨k + 1, _, by omega, by go_num, rfl, hb.trans (hb2.mono hb.size), ?_, ?_⟩
                · rw [← HR.out, (Z.res_fit HE.out).1, Int.pow_succ]
                · simp only [Z.pwOk, Bool.and_eq_true, decide_eq_true_eq]; exact ⟨HK.out.2, HE.out⟩
              case measure => simp [intOf]; omega
            · have hzb : (ek != 0) = true := by simpa using hz
              have HB := BAD.out k (by omega) (fun h => hz (HE.out.symm.trans h))
              have H14 : Hid (ek = 14) := Lib.hid (HE.out.symm.trans (Z.res_14 (fun h => hz (HE.out.symm.trans h))))
              clear hz
              go_wp2_with fail
              refine (O.out _).mono ?_
              rintro e w2 ⟨rfl, hb2⟩
              go_wp2_with fail
              go_ret2
              rw [HB.out.1, HB.out.2, H14.out]
              exact ⟨rfl, hb.trans (hb2.mono hb.size)⟩
          · obtain rfl : k = m := by omega
            have HO := OKK.out _ HK
            go_wp2_with fail
            go_ret2
            rw [HO.out.1, HO.out.2, HK.out.1]
            exact ⟨rfl, hb⟩
  · rw [if_neg h0] at pm
    obtain rfl : m = n := hm.trans pm
    clear hm pm
    rw [decide_eq_false (fun h => h0 (.inl h))] at h48
    rw [decide_eq_false (fun h => h0 (.inr h))] at h49
    clear h0
    go_enter Tryd.func44, Tryd.ntmps44
    go_wp2_with fail
    go_loopw [6, 17] (fun sv iv wr => ∃ (k : Nat) (s : ByteArray), k ≤ m ∧ iv = .int .i64 k ∧ sv = .string s ∧ Below w.heap.size w wr ∧ Hid (s = Z.S (x ^ k) ∧ Z.pwOk x k = true)) (fun _ iv _ => m - (intOf iv).toNat)
    case atStart => exact ⟨0, _, by omega, rfl, rfl, Below.refl _ _, by rw [Int.pow_zero]; exact Z.S_one_lit, rfl⟩
    case round =>
      obtain ⟨k, s, hk, rfl, rfl, hb, HK⟩ := hrel
      by_cases hlt : k < m
      · have O := MU.out s k HK
        generalize hr : Z.resS (x ^ k * x) = r at *
        generalize he : Z.resE (x ^ k * x) = ek at *
        have HR := Lib.hid hr
        have HE := Lib.hid he
        clear hr he
        by_cases hz : ek = 0
        · subst hz
          go_wp2_with fail
          refine (O.out _).mono ?_
          rintro e w2 ⟨rfl, hb2⟩
          go_wp2_with fail
          go_roundw
          case rel =>
            refine ⟨k + 1, _, by omega, by go_num, rfl, hb.trans (hb2.mono hb.size), ?_, ?_⟩
            · rw [← HR.out, (Z.res_fit HE.out).1, Int.pow_succ]
            · simp only [Z.pwOk, Bool.and_eq_true, decide_eq_true_eq]; exact ⟨HK.out.2, HE.out⟩
          case measure => simp [intOf]; omega
        · have hzb : (ek != 0) = true := by simpa using hz
          have HB := BAD.out k (by omega) (fun h => hz (HE.out.symm.trans h))
          have H14 : Hid (ek = 14) := Lib.hid (HE.out.symm.trans (Z.res_14 (fun h => hz (HE.out.symm.trans h))))
          clear hz
          go_wp2_with fail
          refine (O.out _).mono ?_
          rintro e w2 ⟨rfl, hb2⟩
          go_wp2_with fail
          go_ret2
          rw [HB.out.1, HB.out.2, H14.out]
          exact ⟨rfl, hb.trans (hb2.mono hb.size)⟩
      · obtain rfl : k = m := by omega
        have HO := OKK.out _ HK
        go_wp2_with fail
        go_ret2
        rw [HO.out.1, HO.out.2, HK.out.1]
        exact ⟨rfl, hb⟩
end Go.Proofs.YthafdckomhdlbaaDoor
/- Walks: Power of the package and of the reference. -/

namespace Go.Proofs.YthafdckomhdlbaaDoor
open Go.RowKit

namespace Z
/-- What Power answers of the two bases and the exponent's size. -/
def p2E (x y : Int) (n : Nat) : Int := if pwE x n = 0 ∧ pwE y n = 0 then 0 else 14
def p2S (x y : Int) (n : Nat) : ByteArray := if pwE x n = 0 ∧ pwE y n = 0 then Q (Rat.divInt (x ^ pwm x n) (y ^ pwm y n)) else ⟨#[]⟩
def powE (a : ByteArray) (n : Int) : Int :=
  if n < -1000 ∨ 1000 < n then 2 else if rchk a ≠ 0 then rchk a else if n < 0 then (if rn a = 0 then 16 else p2E (rd a) (rn a) n.natAbs) else p2E (rn a) (rd a) n.natAbs
def powS (a : ByteArray) (n : Int) : ByteArray :=
  if n < -1000 ∨ 1000 < n then ⟨#[]⟩ else if rchk a ≠ 0 then ⟨#[]⟩ else if n < 0 then (if rn a = 0 then ⟨#[]⟩ else p2S (rd a) (rn a) n.natAbs) else p2S (rn a) (rd a) n.natAbs
theorem pw0 {x : Int} {n : Nat} (h : pwE x n = 0) : pwS x n = S (x ^ pwm x n) ∧ chk (S (x ^ pwm x n)).data.toList = 0 := by
  have hh : pwOk x (pwm x n) = true := by
    unfold pwE at h
    split at h
    · assumption
    · cases h
  exact ⟨(pw_ok hh).1, pwOk_chk hh⟩
end Z
def PowRet (a : ByteArray) (n : Int) (w : World) (e : Ending) (w' : World) : Prop := e = .returned (.tuple #[.string (Z.powS a n), .int .i64 (Z.powE a n)]) ∧ Below w.heap.size w w'
def RaiC (F : Nat) (x : ByteArray) (n : Nat) (r : ByteArray) (k : Int) : Prop := ∀ W : World, Calls Tryd.prog F #[.string x, .int .i64 n] W fun e w' => e = .returned (.tuple #[.string r, .int .i64 k]) ∧ Below W.heap.size W w'
def StrC2 (F : Nat) (x y r : ByteArray) (k : Int) : Prop := ∀ W : World, Calls Tryd.prog F #[.string x, .string y] W fun e w' => e = .returned (.tuple #[.string r, .int .i64 k]) ∧ Below W.heap.size W w'
def PartC (a x y : ByteArray) (k : Int) : Prop := ∀ W : World, HasV W → Calls Tryd.prog 21 #[.string a] W fun e w' => e = .returned (.tuple #[.string x, .string y, .int .i64 k]) ∧ Below W.heap.size W w'
theorem qpow_arg (a : ByteArray) (n : Int) (w : World) (h0 : -9223372036854775808 ≤ n) (h1 : n ≤ 9223372036854775807) (hn : n < -1000 ∨ 1000 < n) :
    Calls Tryd.prog 22 #[.string a, .int .i64 n] w fun e w' => e = .returned (.tuple #[.string ⟨#[]⟩, .int .i64 2]) ∧ Below w.heap.size w w' := by
  by_cases hlt : n < -1000
  · clear hn
    go_enter Tryd.func22, Tryd.ntmps22
    go_wp2_with fail
    go_ret2
    exact ⟨rfl, Below.refl _ _⟩
  · have hgt : 1000 < n := by omega
    clear hn
    go_enter Tryd.func22, Tryd.ntmps22
    go_wp2_with fail
    go_ret2
    exact ⟨rfl, Below.refl _ _⟩
theorem qpow_bad (a : ByteArray) (n k : Int) (w : World) (hlo : -1000 ≤ n) (hhi : n ≤ 1000) (PP : Hid (PartC a ⟨#[]⟩ ⟨#[]⟩ k)) (HV : Hid (HasV w)) (hk : (k != 0) = true) :
    Calls Tryd.prog 22 #[.string a, .int .i64 n] w fun e w' => e = .returned (.tuple #[.string ⟨#[]⟩, .int .i64 k]) ∧ Below w.heap.size w w' := by
  go_enter Tryd.func22, Tryd.ntmps22
  go_wp2_with fail
  refine (PP.out _ HV.out).mono ?_
  rintro e w1 ⟨rfl, h1⟩
  go_wp2_with fail
  go_ret2
  exact ⟨rfl, h1⟩
theorem qpow_zero (a x y : ByteArray) (n : Int) (w : World) (hlo : -1000 ≤ n) (hhi : n < 0) (PP : Hid (PartC a x y 0)) (HV : Hid (HasV w)) (hz : (x.toList == [48]) = true) :
    Calls Tryd.prog 22 #[.string a, .int .i64 n] w fun e w' => e = .returned (.tuple #[.string ⟨#[]⟩, .int .i64 16]) ∧ Below w.heap.size w w' := by
  go_enter Tryd.func22, Tryd.ntmps22
  go_wp2_with fail
  refine (PP.out _ HV.out).mono ?_
  rintro e w1 ⟨rfl, h1⟩
  have c0 := h1
  clear h1
  go_wp2_with fail
  go_ret2
  exact ⟨rfl, c0⟩
set_option maxRecDepth 100000 in
theorem qpow_neg (a x y r1 r2 r : ByteArray) (k1 k2 k : Int) (n : Int) (w : World) (hlo : -1000 ≤ n) (hhi : n < 0) (hz : (x.toList == [48]) = false) (PP : Hid (PartC a x y 0)) (HV : Hid (HasV w)) (m : Nat) (hm : Hid (-n = (m : Int))) (R1 : Hid (RaiC 44 y m r1 k1)) (R2 : Hid (RaiC 44 x m r2 k2)) (MK : Hid (k1 = 0 → k2 = 0 → StrC2 26 r1 r2 r k)) (hb : Hid (k1 ≠ 0 ∨ k2 ≠ 0 → r = ⟨#[]⟩ ∧ k = 14)) :
    Calls Tryd.prog 22 #[.string a, .int .i64 n] w fun e w' => e = .returned (.tuple #[.string r, .int .i64 k]) ∧ Below w.heap.size w w' := by
  have hm2 := hm.out
  obtain rfl : n = -(m : Int) := by omega
  clear hm
  have HK1 : k1 = 0 ∨ (k1 != 0) = true := by by_cases h : k1 = 0 <;> simp [h]
  have HK2 : k2 = 0 ∨ (k2 != 0) = true := by by_cases h : k2 = 0 <;> simp [h]
  rcases HK1 with h1 | h1
  · subst h1
    rcases HK2 with h2 | h2
    · subst h2
      have M := Lib.hid (MK.out rfl rfl)
      clear MK hb
      go_enter Tryd.func22, Tryd.ntmps22
      go_wp2_with fail
      refine (PP.out _ HV.out).mono ?_
      rintro e w1 ⟨rfl, h1⟩
      have c0 := h1
      clear h1
      go_wp2_with fail
      refine (R1.out _).mono ?_
      rintro e u1 ⟨rfl, g1⟩
      have c1 := c0.trans (g1.mono c0.size)
      clear c0 g1
      go_wp2_with fail
      refine (R2.out _).mono ?_
      rintro e u2 ⟨rfl, g2⟩
      have c2 := c1.trans (g2.mono c1.size)
      clear c1 g2
      go_wp2_with fail
      refine (M.out _).mono ?_
      rintro e u3 ⟨rfl, g3⟩
      have c3 := c2.trans (g3.mono c2.size)
      go_wp2_with fail
      go_ret2
      exact ⟨rfl, c3⟩
    · have hB := hb.out (.inr (by simpa using h2))
      clear hb MK
      go_enter Tryd.func22, Tryd.ntmps22
      go_wp2_with fail
      refine (PP.out _ HV.out).mono ?_
      rintro e w1 ⟨rfl, h1⟩
      have c0 := h1
      clear h1
      go_wp2_with fail
      refine (R1.out _).mono ?_
      rintro e u1 ⟨rfl, g1⟩
      have c1 := c0.trans (g1.mono c0.size)
      clear c0 g1
      go_wp2_with fail
      refine (R2.out _).mono ?_
      rintro e u2 ⟨rfl, g2⟩
      have c2 := c1.trans (g2.mono c1.size)
      clear c1 g2
      go_wp2_with fail
      go_ret2
      rw [hB.1, hB.2]
      exact ⟨rfl, c2⟩
  · have hB := hb.out (.inl (by simpa using h1))
    clear hb MK
    go_enter Tryd.func22, Tryd.ntmps22
    go_wp2_with fail
    refine (PP.out _ HV.out).mono ?_
    rintro e w1 ⟨rfl, h1⟩
    have c0 := h1
    clear h1
    go_wp2_with fail
    refine (R1.out _).mono ?_
    rintro e u1 ⟨rfl, g1⟩
    have c1 := c0.trans (g1.mono c0.size)
    clear c0 g1
    go_wp2_with fail
    refine (R2.out _).mono ?_
    rintro e u2 ⟨rfl, g2⟩
    have c2 := c1.trans (g2.mono c1.size)
    clear c1 g2
    go_wp2_with fail
    go_ret2
    rw [hB.1, hB.2]
    exact ⟨rfl, c2⟩
set_option maxRecDepth 100000 in
theorem qpow_pos (a x y r1 r2 r : ByteArray) (k1 k2 k : Int) (n : Int) (w : World) (hlo : 0 ≤ n) (hhi : n ≤ 1000) (PP : Hid (PartC a x y 0)) (HV : Hid (HasV w)) (m : Nat) (hm : Hid (n = (m : Int))) (R1 : Hid (RaiC 44 x m r1 k1)) (R2 : Hid (RaiC 44 y m r2 k2)) (MK : Hid (k1 = 0 → k2 = 0 → StrC2 26 r1 r2 r k)) (hb : Hid (k1 ≠ 0 ∨ k2 ≠ 0 → r = ⟨#[]⟩ ∧ k = 14)) :
    Calls Tryd.prog 22 #[.string a, .int .i64 n] w fun e w' => e = .returned (.tuple #[.string r, .int .i64 k]) ∧ Below w.heap.size w w' := by
  have hm2 := hm.out
  subst hm2
  clear hm
  have HK1 : k1 = 0 ∨ (k1 != 0) = true := by by_cases h : k1 = 0 <;> simp [h]
  have HK2 : k2 = 0 ∨ (k2 != 0) = true := by by_cases h : k2 = 0 <;> simp [h]
  rcases HK1 with h1 | h1
  · subst h1
    rcases HK2 with h2 | h2
    · subst h2
      have M := Lib.hid (MK.out rfl rfl)
      clear MK hb
      go_enter Tryd.func22, Tryd.ntmps22
      go_wp2_with fail
      refine (PP.out _ HV.out).mono ?_
      rintro e w1 ⟨rfl, h1⟩
      have c0 := h1
      clear h1
      go_wp2_with fail
      refine (R1.out _).mono ?_
      rintro e u1 ⟨rfl, g1⟩
      have c1 := c0.trans (g1.mono c0.size)
      clear c0 g1
      go_wp2_with fail
      refine (R2.out _).mono ?_
      rintro e u2 ⟨rfl, g2⟩
      have c2 := c1.trans (g2.mono c1.size)
      clear c1 g2
      go_wp2_with fail
      refine (M.out _).mono ?_
      rintro e u3 ⟨rfl, g3⟩
      have c3 := c2.trans (g3.mono c2.size)
      go_wp2_with fail
      go_ret2
      exact ⟨rfl, c3⟩
    · have hB := hb.out (.inr (by simpa using h2))
      clear hb MK
      go_enter Tryd.func22, Tryd.ntmps22
      go_wp2_with fail
      refine (PP.out _ HV.out).mono ?_
      rintro e w1 ⟨rfl, h1⟩
      have c0 := h1
      clear h1
      go_wp2_with fail
      refine (R1.out _).mono ?_
      rintro e u1 ⟨rfl, g1⟩
      have c1 := c0.trans (g1.mono c0.size)
      clear c0 g1
      go_wp2_with fail
      refine (R2.out _).mono ?_
      rintro e u2 ⟨rfl, g2⟩
      have c2 := c1.trans (g2.mono c1.size)
      clear c1 g2
      go_wp2_with fail
      go_ret2
      rw [hB.1, hB.2]
      exact ⟨rfl, c2⟩
  · have hB := hb.out (.inl (by simpa using h1))
    clear hb MK
    go_enter Tryd.func22, Tryd.ntmps22
    go_wp2_with fail
    refine (PP.out _ HV.out).mono ?_
    rintro e w1 ⟨rfl, h1⟩
    have c0 := h1
    clear h1
    go_wp2_with fail
    refine (R1.out _).mono ?_
    rintro e u1 ⟨rfl, g1⟩
    have c1 := c0.trans (g1.mono c0.size)
    clear c0 g1
    go_wp2_with fail
    refine (R2.out _).mono ?_
    rintro e u2 ⟨rfl, g2⟩
    have c2 := c1.trans (g2.mono c1.size)
    clear c1 g2
    go_wp2_with fail
    go_ret2
    rw [hB.1, hB.2]
    exact ⟨rfl, c2⟩
end Go.Proofs.YthafdckomhdlbaaDoor
/- What Power of the package and of the reference answers. -/

namespace Go.Proofs.YthafdckomhdlbaaDoor
open Go.RowKit

namespace Z
theorem p2_cases (x y : Int) (n : Nat) (hy : y ≠ 0) :
    (pwE x n = 0 → pwE y n = 0 → (pwS x n).size ≤ 1000000 ∧ (pwS y n).size ≤ 1000000 ∧ makeS (pwS x n) (pwS y n) = p2S x y n ∧ makeE (pwS x n) (pwS y n) = p2E x y n) ∧
    (pwE x n ≠ 0 ∨ pwE y n ≠ 0 → p2S x y n = ⟨#[]⟩ ∧ p2E x y n = 14) := by
  refine ⟨fun h1 h2 => ?_, fun h => ?_⟩
  · obtain ⟨s1, c1⟩ := pw0 h1
    obtain ⟨s2, c2⟩ := pw0 h2
    have h0 : y ^ pwm y n ≠ 0 := Int.pow_ne_zero hy
    obtain ⟨m1, m2⟩ := make_S c1 c2 h0
    unfold p2S p2E
    rw [if_pos ⟨h1, h2⟩, if_pos ⟨h1, h2⟩, s1, s2]
    exact ⟨chk_mil c1, chk_mil c2, m2, m1⟩
  · have : ¬ (pwE x n = 0 ∧ pwE y n = 0) := by omega
    unfold p2S p2E
    rw [if_neg this, if_neg this]; exact ⟨rfl, rfl⟩
theorem pow_arg {a : ByteArray} {n : Int} (h : n < -1000 ∨ 1000 < n) : powS a n = ⟨#[]⟩ ∧ powE a n = 2 := by unfold powS powE; rw [if_pos h, if_pos h]; exact ⟨rfl, rfl⟩
theorem pow_bad {a : ByteArray} {n : Int} (h : ¬ (n < -1000 ∨ 1000 < n)) (hk : rchk a ≠ 0) : powS a n = ⟨#[]⟩ ∧ powE a n = rchk a := by unfold powS powE; rw [if_neg h, if_neg h, if_pos hk, if_pos hk]; exact ⟨rfl, rfl⟩
theorem pow_zero {a : ByteArray} {n : Int} (h : ¬ (n < -1000 ∨ 1000 < n)) (hk : rchk a = 0) (hn : n < 0) (hz : rn a = 0) : powS a n = ⟨#[]⟩ ∧ powE a n = 16 := by
  have hk2 : ¬ (rchk a ≠ 0) := by omega
  unfold powS powE; rw [if_neg h, if_neg h, if_neg hk2, if_neg hk2, if_pos hn, if_pos hn, if_pos hz, if_pos hz]; exact ⟨rfl, rfl⟩
theorem pow_neg {a : ByteArray} {n : Int} (h : ¬ (n < -1000 ∨ 1000 < n)) (hk : rchk a = 0) (hn : n < 0) (hz : rn a ≠ 0) : powS a n = p2S (rd a) (rn a) n.natAbs ∧ powE a n = p2E (rd a) (rn a) n.natAbs := by
  have hk2 : ¬ (rchk a ≠ 0) := by omega
  unfold powS powE; rw [if_neg h, if_neg h, if_neg hk2, if_neg hk2, if_pos hn, if_pos hn, if_neg hz, if_neg hz]; exact ⟨rfl, rfl⟩
theorem pow_pos {a : ByteArray} {n : Int} (h : ¬ (n < -1000 ∨ 1000 < n)) (hk : rchk a = 0) (hn : ¬ n < 0) : powS a n = p2S (rn a) (rd a) n.natAbs ∧ powE a n = p2E (rn a) (rd a) n.natAbs := by
  have hk2 : ¬ (rchk a ≠ 0) := by omega
  unfold powS powE; rw [if_neg h, if_neg h, if_neg hk2, if_neg hk2, if_neg hn, if_neg hn]; exact ⟨rfl, rfl⟩
end Z
theorem raiQ {x : Int} {n : Nat} (hx : Z.chk (Z.S x).data.toList = 0) (hn : n ≤ 1000) : Hid (RaiC 44 (Z.S x) n (Z.pwS x n) (Z.pwE x n)) := Lib.hid fun W => qraised_any x n W hx hn
theorem partS {a : ByteArray} (ha : a.size ≤ 100000) (h : Z.rchk a = 0) : Hid (PartC a (Z.S (Z.rn a)) (Z.S (Z.rd a)) 0) := Lib.hid fun W hv => by
  have := parts_ok a W hv ha h
  obtain ⟨_, _, e1, e2⟩ := (Z.rok h).chks
  rwa [e1, e2] at this
theorem mkQ {x y : Int} {n : Nat} (hy : y ≠ 0) : Hid (Z.pwE x n = 0 → Z.pwE y n = 0 → StrC2 26 (Z.pwS x n) (Z.pwS y n) (Z.p2S x y n) (Z.p2E x y n)) := Lib.hid fun h1 h2 W => by
  obtain ⟨s1, s2, m1, m2⟩ := (Z.p2_cases x y n hy).1 h1 h2
  have := make_any (Z.pwS x n) (Z.pwS y n) W (by unfold maxLen; omega) (by unfold maxLen; omega)
  unfold MakeRet at this
  rwa [m1, m2] at this
theorem ckR {a : ByteArray} (ha : a.size ≤ 100000) {k : Int} (h : Z.rchk a = k) : Hid (∀ W : World, Calls Tryd.prog 32 #[.string a] W fun e w' => e = .returned (.int .i64 k) ∧ Below W.heap.size W w') := Lib.hid fun W => by
  have := rqcheck_any a W ha
  unfold QchkRet at this
  rwa [h] at this
theorem wrR {a : ByteArray} (ha : a.size ≤ 100000) (h : Z.rchk a = 0) : Hid (∀ W : World, Calls Tryd.prog 33 #[.string a] W fun e w' => e = .returned (.tuple #[.string (Z.S (Z.rn a)), .string (Z.S (Z.rd a))]) ∧ Below W.heap.size W w') := Lib.hid fun W => by
  have := written_any a W ha
  obtain ⟨_, _, e1, e2⟩ := (Z.rok h).chks
  unfold WrRet at this
  rw [e1, e2] at this
  exact this.mono fun e w' ⟨h1, n, h2⟩ => ⟨h1, by rw [h2]; exact below_of_drewN _ n _⟩
theorem qpower_any (a : ByteArray) (n : Int) (w : World) (hv : HasV w) (ha : a.size ≤ 100000) (h0 : -9223372036854775808 ≤ n) (h1 : n ≤ 9223372036854775807) :
    Calls Tryd.prog 22 #[.string a, .int .i64 n] w (PowRet a n w) := by
  unfold PowRet
  by_cases hr : n < -1000 ∨ 1000 < n
  · rw [(Z.pow_arg hr).1, (Z.pow_arg hr).2]
    exact qpow_arg a n w h0 h1 hr
  by_cases hk : Z.rchk a = 0
  · have ok := Z.rok hk
    obtain ⟨c1, c2, _, _⟩ := ok.chks
    have hd : Z.rd a ≠ 0 := by have := ok.pos; omega
    by_cases hn : n < 0
    · by_cases hz : Z.rn a = 0
      · rw [(Z.pow_zero hr hk hn hz).1, (Z.pow_zero hr hk hn hz).2]
        exact qpow_zero a (Z.S (Z.rn a)) (Z.S (Z.rd a)) n w (by omega) hn (partS ha hk) (Lib.hid hv) (by rw [Z.rn_eq48, hz]; rfl)
      · rw [(Z.pow_neg hr hk hn hz).1, (Z.pow_neg hr hk hn hz).2]
        exact qpow_neg a (Z.S (Z.rn a)) (Z.S (Z.rd a)) _ _ _ _ _ _ n w (by omega) hn (by rw [Z.rn_eq48]; simpa using hz) (partS ha hk) (Lib.hid hv) n.natAbs (Lib.hid (by omega)) (raiQ c2 (by omega)) (raiQ c1 (by omega)) (mkQ hz) (Lib.hid (Z.p2_cases _ _ _ hz).2)
    · rw [(Z.pow_pos hr hk hn).1, (Z.pow_pos hr hk hn).2]
      exact qpow_pos a (Z.S (Z.rn a)) (Z.S (Z.rd a)) _ _ _ _ _ _ n w (by omega) (by omega) (partS ha hk) (Lib.hid hv) n.natAbs (Lib.hid (by omega)) (raiQ c1 (by omega)) (raiQ c2 (by omega)) (mkQ hd) (Lib.hid (Z.p2_cases _ _ _ hd).2)
  · rw [(Z.pow_bad hr hk).1, (Z.pow_bad hr hk).2]
    exact qpow_bad a n (Z.rchk a) w (by omega) (by omega) (Lib.hid fun W hv => parts_bad a W hv ha hk) (Lib.hid hv) (by simpa using hk)
end Go.Proofs.YthafdckomhdlbaaDoor
/- Walks: Sum of the package and of the reference. -/

namespace Go.Proofs.YthafdckomhdlbaaDoor
open Go.RowKit

namespace Z
theorem lt_of_res {x : Int} (h : resE x = 0) : Lt 1000 x := by
  obtain ⟨z, e, hl⟩ := int_of (res_fit h).2
  have : ival (S x).data.toList = ival (S z).data.toList := by rw [e]
  rw [ival_S, ival_S] at this
  rw [this]; exact hl
theorem fit_div {x y : Int} (hx : resE x = 0) (hy : resE y = 0) (h0 : 0 < y) : Fit (Rat.divInt x y) := by
  obtain ⟨h1, h2⟩ := div_num_pos (x := x) h0
  have l1 : Lt 1000 (Rat.divInt x y).num := by rw [h1]; exact (lt_of_res hx).of_le (Int.natAbs_ediv_le_natAbs _ _)
  have l2 : Lt 1000 ((Rat.divInt x y).den : Int) := by rw [h2]; exact (lt_of_res hy).of_le (Int.natAbs_ediv_le_natAbs _ _)
  have r1 := (resS_ok (l1.res (by decide) (by decide)).1).2
  have r2 := (resS_ok (l2.res (by decide) (by decide)).1).2
  exact ⟨r1, by simpa using r2⟩
theorem add_size {a b : ByteArray} (h : ropE (lAdd a b) a b = 0) : (ropS (lAdd a b) (rq a + rq b) a b).size ≤ 100000 := by
  have e : ropS (lAdd a b) (rq a + rq b) a b = Q (rq a + rq b) := by unfold ropS; rw [if_pos h]
  unfold ropE at h
  split at h
  · rename_i hb
    obtain ⟨oa, ob⟩ := rbothE_ok hb
    split at h
    · rename_i hf
      unfold lAdd at hf
      rw [fit4] at hf
      simp at hf
      have hda : Z.rd a ≠ 0 := by have := oa.pos; omega
      have hdb : Z.rd b ≠ 0 := by have := ob.pos; omega
      have ef : Fit (rq a + rq b) := by
        rw [oa.self, ob.self, Rat.divInt_add_divInt _ _ hda hdb]
        exact fit_div hf.2.2.1 hf.2.2.2 (Int.mul_pos oa.pos ob.pos)
      rw [e]
      have := Q_size ef
      omega
    · cases h
  · rename_i hb
    exact absurd h hb
theorem drop_cons {l : List ByteArray} {k : Nat} {s : ByteArray} (hs : l[k]? = some s) : l.drop k = s :: l.drop (k + 1) := by
  obtain ⟨h, e⟩ := List.getElem?_eq_some_iff.1 hs
  rw [List.drop_eq_getElem_cons h, e]
/-- The first error of a list. -/
def chkL : List ByteArray → Int
  | [] => 0
  | b :: l => if rchk b = 0 then chkL l else rchk b
theorem chkL_cons (b : ByteArray) (l : List ByteArray) : chkL (b :: l) = if rchk b = 0 then chkL l else rchk b := rfl
/-- The sum of a list, from a sum so far. -/
def sumF (acc : ByteArray) : List ByteArray → ByteArray × Int
  | [] => (acc, 0)
  | b :: l => if ropE (lAdd acc b) acc b = 0 then sumF (ropS (lAdd acc b) (rq acc + rq b) acc b) l else (⟨#[]⟩, ropE (lAdd acc b) acc b)
def sumR (l : List ByteArray) : ByteArray × Int := if 1000 < l.length then (⟨#[]⟩, 4) else if chkL l = 0 then sumF ⟨#[48]⟩ l else (⟨#[]⟩, chkL l)
theorem sumR_many {l : List ByteArray} (h : 1000 < l.length) : sumR l = (⟨#[]⟩, 4) := by unfold sumR; rw [if_pos h]
theorem sumR_bad {l : List ByteArray} {k : Nat} {s : ByteArray} (h : l.length ≤ 1000) (hs : l[k]? = some s) (he : chkL (l.drop k) = chkL l) (hz : rchk s ≠ 0) : sumR l = (⟨#[]⟩, rchk s) := by
  have e : l.drop k = s :: l.drop (k + 1) := drop_cons hs
  rw [e] at he
  rw [chkL_cons, if_neg hz] at he
  unfold sumR
  rw [if_neg (by omega), ← he, if_neg hz]
theorem chkL_next {l : List ByteArray} {k : Nat} {s : ByteArray} (hs : l[k]? = some s) (he : chkL (l.drop k) = chkL l) (hz : rchk s = 0) : chkL (l.drop (k + 1)) = chkL l := by
  rw [← he, drop_cons hs, chkL_cons, if_pos hz]
theorem sumR_go {l : List ByteArray} (h : l.length ≤ 1000) (he : chkL (l.drop l.length) = chkL l) : sumF ⟨#[48]⟩ (l.drop 0) = sumR l := by
  rw [List.drop_length] at he
  have he' : chkL l = 0 := he.symm
  unfold sumR
  rw [if_neg (by omega), if_pos he', List.drop_zero]
theorem sumF_bad {l : List ByteArray} {k : Nat} {s acc : ByteArray} {R : ByteArray × Int} (hs : l[k]? = some s) (he : sumF acc (l.drop k) = R) (hz : ropE (lAdd acc s) acc s ≠ 0) : R = (⟨#[]⟩, ropE (lAdd acc s) acc s) := by
  rw [← he, drop_cons hs]
  unfold sumF
  rw [if_neg hz]
theorem sumF_next {l : List ByteArray} {k : Nat} {s acc : ByteArray} {R : ByteArray × Int} (hs : l[k]? = some s) (he : sumF acc (l.drop k) = R) (hz : ropE (lAdd acc s) acc s = 0) : sumF (ropS (lAdd acc s) (rq acc + rq s) acc s) (l.drop (k + 1)) = R := by
  rw [← he, drop_cons hs]
  conv => rhs; unfold sumF
  rw [if_pos hz]
theorem sumF_end {l : List ByteArray} {acc : ByteArray} {R : ByteArray × Int} (he : sumF acc (l.drop l.length) = R) : R = (acc, 0) := by
  rw [← he, List.drop_length]; rfl
end Z
def SumRet (l : List ByteArray) (w : World) (e : Ending) (w' : World) : Prop := e = .returned (.tuple #[.string (Z.sumR l).1, .int .i64 (Z.sumR l).2]) ∧ Below w.heap.size w w'
theorem sum_ret {l : List ByteArray} {r : ByteArray} {k : Int} {w w' : World} (h : Z.sumR l = (r, k)) (hb : Below w.heap.size w w') : SumRet l w (.returned (.tuple #[.string r, .int .i64 k])) w' := by
  unfold SumRet; rw [h]; exact ⟨rfl, hb⟩
set_option maxRecDepth 100000 in
set_option maxHeartbeats 1000000 in
theorem qsum_any (v : Value) (ss : List ByteArray) (w : World) (hv : HasV w) (hS : SS w v ss) (hs : ss.length ≤ 1000 → ∀ s ∈ ss, s.size ≤ 100000) :
    Calls Tryd.prog 27 #[v] w (SumRet ss w) := by
  obtain ⟨A, c, rfl, hc, hm, hcell⟩ := hS
  have HV := Lib.hid hv
  clear hv
  by_cases hmany : 1000 < ss.length
  · have hmi : 1000 < (ss.length : Int) := by omega
    have HS := Z.sumR_many hmany
    clear hcell hs hmany
    go_enter Tryd.func27, Tryd.ntmps27
    go_wp2_with fail
    go_ret2
    exact sum_ret HS (Below.refl _ _)
  have hle : ss.length ≤ 1000 := by omega
  have hmi : ¬ 1000 < (ss.length : Int) := by omega
  have HC0 := Lib.hid hcell
  have HZ := Lib.hid (hs hle)
  clear hcell hs
  go_enter Tryd.func27, Tryd.ntmps27
  go_wp2_with fail
  go_loopw [16] (fun iv wr => ∃ k : Nat, k ≤ ss.length ∧ iv = .int .i64 k ∧ Below w.heap.size w wr ∧ Hid (Z.chkL (ss.drop k) = Z.chkL ss)) (fun iv _ => ss.length - (intOf iv).toNat)
  case atStart => exact ⟨0, by omega, rfl, Below.refl _ _, Lib.hid (by rw [List.drop_zero])⟩
  case round =>
    obtain ⟨k, hk, rfl, hb, HK⟩ := hrel
    by_cases hlt : k < ss.length
    · obtain ⟨g, o, rfl, hg, hcl⟩ := HC0.out (by omega)
      obtain ⟨s, hs⟩ : ∃ s, ss[k]? = some s := ⟨_, List.getElem?_eq_getElem (by omega)⟩
      have hr := (hb.cell (p := ⟨g, o + k, none⟩) hg).trans (hcl _ _ hs)
      have HS := Lib.hid hs
      have hsz := HZ.out s (List.mem_of_getElem? hs)
      have C := Lib.hid (fun (W : World) (h : HasV W) => qcheck_any s W h hsz)
      clear hcl hs hsz
      unfold QchkRet at C
      by_cases hz : Z.rchk s = 0
      · have HN := Lib.hid (Z.chkL_next HS.out HK.out hz)
        rw [hz] at C
        clear hz
        go_wp2_with fail
        refine (C.out _ (HV.out.below hb)).mono ?_
        rintro e w2 ⟨rfl, hb2⟩
        go_wp2_with fail
        go_roundw
        case rel => exact ⟨k + 1, by omega, by go_num, hb.trans (hb2.mono hb.size), HN⟩
        case measure => simp [intOf]; omega
      · have HB := Lib.hid (Z.sumR_bad hle HS.out HK.out hz)
        generalize Z.rchk s = kk at *
        have hkb : (kk != 0) = true := by simpa using hz
        clear hz
        go_wp2_with fail
        refine (C.out _ (HV.out.below hb)).mono ?_
        rintro e w2 ⟨rfl, hb2⟩
        have hb := hb.trans (hb2.mono hb.size)
        go_wp2_with fail
        go_ret2
        exact sum_ret HB.out hb
    · obtain rfl : k = ss.length := by omega
      have HG := Lib.hid (Z.sumR_go hle HK.out)
      go_wp2_with fail
      go_loopw [7, 28] (fun sv iv wr => ∃ (j : Nat) (acc : ByteArray), j ≤ ss.length ∧ iv = .int .i64 j ∧ sv = .string acc ∧ Below w.heap.size w wr ∧ Hid (Z.sumF acc (ss.drop j) = Z.sumR ss ∧ acc.size ≤ 100000)) (fun _ iv _ => ss.length - (intOf iv).toNat)
      case atStart => exact ⟨0, _, by omega, rfl, rfl, hb, HG.out, by decide⟩
      case round =>
        obtain ⟨j, acc, hj, rfl, rfl, hb, HJ⟩ := hrel
        by_cases hlt : j < ss.length
        · obtain ⟨g, o, rfl, hg, hcl⟩ := HC0.out (by omega)
          obtain ⟨s, hs⟩ : ∃ s, ss[j]? = some s := ⟨_, List.getElem?_eq_getElem (by omega)⟩
          have hr := (hb.cell (p := ⟨g, o + j, none⟩) hg).trans (hcl _ _ hs)
          have HS := Lib.hid hs
          have hsz := HZ.out s (List.mem_of_getElem? hs)
          have hacc := HJ.out.2
          have C := Lib.hid (fun (W : World) (h : HasV W) => qadd_any acc s W h hacc hsz)
          clear hcl hs hsz hacc
          unfold RopRet at C
          have HSZ := Lib.hid (fun h => Z.add_size (a := acc) (b := s) h)
          have HN := Lib.hid (fun h => Z.sumF_next HS.out HJ.out.1 h)
          have HB := Lib.hid (fun h => Z.sumF_bad HS.out HJ.out.1 h)
          generalize Z.ropS (Z.lAdd acc s) (Z.rq acc + Z.rq s) acc s = r at *
          generalize Z.ropE (Z.lAdd acc s) acc s = kk at *
          by_cases hz : kk = 0
          · subst hz
            have HN2 : Hid (Z.sumF r (ss.drop (j + 1)) = Z.sumR ss) := HN.out rfl
            have HSZ2 : Hid (r.size ≤ 100000) := HSZ.out rfl
            clear HN HSZ HB
            go_wp2_with fail
            refine (C.out _ (HV.out.below hb)).mono ?_
            rintro e w2 ⟨rfl, hb2⟩
            go_wp2_with fail
            go_roundw
            case rel => exact ⟨j + 1, r, by omega, by go_num, rfl, hb.trans (hb2.mono hb.size), HN2.out, HSZ2.out⟩
            case measure => simp [intOf]; omega
          · have hkb : (kk != 0) = true := by simpa using hz
            have HB := Lib.hid (HB.out hz)
            clear hz
            go_wp2_with fail
            refine (C.out _ (HV.out.below hb)).mono ?_
            rintro e w2 ⟨rfl, hb2⟩
            go_wp2_with fail
            go_ret2
            exact sum_ret HB.out (hb.trans (hb2.mono hb.size))
        · obtain rfl : j = ss.length := by omega
          have HE := Lib.hid (Z.sumF_end HJ.out.1)
          go_wp2_with fail
          go_ret2
          exact sum_ret HE.out hb
end Go.Proofs.YthafdckomhdlbaaDoor
/- Words for slices of strings: append of a whole slice behind an empty literal; a slice that came in; sizes. -/

namespace Go.Proofs.YthafdckomhdlbaaDoor
open Go.ChangeShapes Go.WideShapes Go.ChangeAt Go.RowKit Go.Joins

def ElemStr (P : Program) (e : TypeId) (by_ : Nat) : Prop := (P.info? e).map (fun i => (i.zero, i.size, i.bytes)) = some (some (.string ByteArray.empty), 1, by_)
theorem info_partsS {P : Program} {e : TypeId} {by_ : Nat} (h : ElemStr P e by_) : ∃ i, P.info? e = some i ∧ i.zero = some (.string ByteArray.empty) ∧ i.size = 1 ∧ i.bytes = by_ := by
  unfold ElemStr at h
  cases hi : P.info? e with
  | none => rw [hi] at h; cases h
  | some i =>
    rw [hi] at h
    simp only [Option.map_some, Option.some.injEq, Prod.mk.injEq] at h
    exact ⟨i, rfl, h.1, h.2.1, h.2.2⟩
theorem elemRat : ElemStr Tryd.prog 22 16 := by unfold ElemStr; kernel_rfl
theorem ss_of_owns {w : World} {e : TypeId} {B : Nat} {v : Value} {ss : List ByteArray} {n : Nat} (hn : n = ss.length) (h : w.ownsRow B e 1 v n (ss.map Value.string)) : SS w v ss := by
  subst hn
  have hk := h
  rcases h.2 with ⟨rfl, h0⟩ | ⟨g, cap, cur, rfl, hg, hh, hl, hm, hcs, htk⟩
  · have : ss = [] := List.eq_nil_of_length_eq_zero h0
    subst this
    exact ⟨none, 0, rfl, by simp, by simp [maxLen], fun h => by simp at h⟩
  · refine ⟨_, cap, rfl, hl, hm, fun hp => ⟨g, 0, rfl, (Array.getElem?_eq_some_iff.1 hh).1, fun i s hi => ?_⟩⟩
    have hi' := (List.getElem?_eq_some_iff.1 hi).1
    rw [Nat.zero_add, World.ownsRow.cellAt hk i (by omega)]
    simp [hi]
section
variable {P : Program}
theorem appSS {ops : Array Oper} {rest : List Oper} {o : Oper} {a : Act} {Q : Exit → Act → World → Prop} (hgd : o.guard = none) (s x : Operand) (t : TypeId)
    (ho : o.op = .call { callee := .builtin .append, args := #[s, x], argTypes := #[t, t] }) {e : TypeId} (hE : ElemStr P e 16) (ht : P.underlying t = some (.slice e))
    (w : World) (hs : a.eval s = .slice (some ⟨w.heap.size, 0, none⟩) 0 0) (A : Option Addr) (c : Nat) (ss : List ByteArray) (hx : a.eval x = .slice A ss.length c) (hA : A = none → c = 0) (hS : SS w (.slice A ss.length c) ss) (hlen : ss.length ≤ 1100)
    (h : ∀ v' w', SS w' v' ss → Below w.heap.size w w' → wpList P ops Q rest (a.put o.dst v') w') :
    wpList P ops Q (o :: rest) a (w.alloc (.cells #[] e)) := by
  obtain ⟨i, hi, hz, h1, h2⟩ := info_partsS hE
  have hown : (w.alloc (.cells #[] e)).ownsRow w.heap.size e 1 (.slice (some ⟨w.heap.size, 0, none⟩) 0 0) 0 [] := World.ownsRow_lit w #[] 0 (Nat.le_refl _) (by simp) rfl
  obtain ⟨A', c', hv, hc1, hc2, hc3⟩ := hS
  injection hv with e1 _ e2
  subst e1; subst e2
  have hbl : Below w.heap.size w (w.alloc (.cells #[] e)) := (Below.refl _ _).alloc (Nat.le_refl _) _
  cases A with
  | none =>
    obtain rfl : c = 0 := hA rfl
    have : ss = [] := List.eq_nil_of_length_eq_zero (by omega)
    subst this
    refine wpList_append_own_none hgd s x t ho w.heap.size e i 1 ht hi (.slice (some ⟨w.heap.size, 0, none⟩) 0 0) 0 [] hs hown hx ?_
    exact h _ _ (ss_of_owns (B := w.heap.size) (e := e) rfl hown) hbl
  | some ad =>
    refine wpList_append_own _ hgd s x t ho w.heap.size e i (.string ByteArray.empty) 1 16 ht hi hz h1 h2 rfl (by omega) _ 0 [] hs hown ad ss.length c (ss.map Value.string) hx (by simp) ?_ (by
      intro y hy
      simp only [List.mem_map] at hy
      obtain ⟨z, _, rfl⟩ := hy
      rfl) (by unfold maxLen; omega) (by omega) (by simp) ?_
    · intro j y hj
      rw [List.getElem?_map, Option.map_eq_some_iff] at hj
      obtain ⟨u, hu, rfl⟩ := hj
      have hjl := (List.getElem?_eq_some_iff.1 hu).1
      obtain ⟨b, off, hbo, hlt, hcl⟩ := hc3 (by omega)
      injection hbo with hbo
      subst hbo
      have := hcl j u hu
      have e := (hbl.cell (p := ⟨b, off + j, none⟩) hlt).trans this
      rw [Go.WideShapes.add_plain]
      exact e
    · intro v' w' hown' hg _
      rw [List.nil_append] at hown'
      refine h v' w' (ss_of_owns (Nat.zero_add _) hown') (hbl.grown hg (by simp) (fun k hk => (World.ownsRow.lt hown k hk).1))
end
namespace Z
/-- The bytes of the first k strings. -/
def tot (ss : List ByteArray) (k : Nat) : Nat := ((ss.take k).map ByteArray.size).sum
theorem tot_zero (ss : List ByteArray) : tot ss 0 = 0 := by simp [tot]
theorem tot_succ {ss : List ByteArray} {k : Nat} {s : ByteArray} (h : ss[k]? = some s) : tot ss (k + 1) = tot ss k + s.size := by
  obtain ⟨hl, e⟩ := List.getElem?_eq_some_iff.1 h
  unfold tot
  rw [List.take_succ_eq_append_getElem hl, List.map_append, List.sum_append, e]
  simp
theorem le_sum : ∀ {l : List Nat} {x : Nat}, x ∈ l → x ≤ l.sum
  | y :: l, x, h => by
    rw [List.sum_cons]
    rcases List.mem_cons.1 h with rfl | h
    · omega
    · have := le_sum h; omega
theorem le_tot {ss : List ByteArray} {k : Nat} (hk : ss.length ≤ k) : ∀ s ∈ ss, s.size ≤ tot ss k := by
  intro s hs
  unfold tot
  rw [List.take_of_length_le hk]
  exact le_sum (List.mem_map_of_mem hs)
end Z
theorem cells_rat : Tryd.prog.cellsOf 22 = 1 := by kernel_rfl
theorem mem_weights {H : Type} {P : Program} {e : TypeId} : ∀ {ss : List ByteArray} {s : ByteArray}, s ∈ ss → s.size ∈ DataW.weightsAll P e (strs (H := H) ss)
  | x :: ss, s, h => by
    unfold strs
    rw [List.map_cons, DataW.weightsAll, List.mem_append]
    rcases List.mem_cons.1 h with rfl | h
    · left; rw [Lib.size_eq]; simp [DataW.weights]
    · right; exact mem_weights h
theorem laidOut : laidOutB Tryd.prog = true := by kernel_rfl
theorem arg_stays {H : Type} {enc : TypeId × Value → H} {W W' : World} {t : TypeId} {v : Value} {d : DataW H} {p : List MemPlace} (hr : Tryd.prog.readableRec t = true) (hrow : t < Tryd.prog.types.size)
    (h : DataW.Trod enc Tryd.prog W 0 (fun _ => true) true t v d p) (hb : Below W.heap.size W W') : DataW.Trod enc Tryd.prog W' 0 (fun b => decide (b < W.heap.size)) true t v d p := by
  have h2 := h
  obtain ⟨n, hn⟩ := h
  exact Below.trod laidOut hr hrow h2 hb (DataW.trod_lt n t _ _ hn)
set_option maxRecDepth 100000 in
/-- A slice of strings that came in: its strings, and that each is within the reach. -/
theorem ss_open {H : Type} {enc : TypeId × Value → H} {W : World} {r : Reach} {b0 : Nat} {v : Value} {d : DataW H} {p : List MemPlace} (hv : Value.okWide Tryd.prog W r b0 24 v)
    (h : DataW.Trod enc Tryd.prog W 0 (fun _ => true) true 24 v d p) :
    ∃ (A : Option Addr) (c : Nat) (ss : List ByteArray), v = .slice A ss.length c ∧ (A = none → c = 0) ∧ SS W (.slice A ss.length c) ss ∧ ∀ s ∈ ss, s.size ∈ d.weights Tryd.prog 24 := by
  obtain ⟨a0, len, cap, rfl⟩ := okWide_slice Tryd.underlying24 hv
  obtain ⟨n, hn⟩ := h
  have hpl := DataW.trod_lt n 24 _ _ hn
  rcases open_strings Tryd.underlying24 Tryd.underlying22 cells_rat hn with ⟨hcs, hx⟩ | ⟨a, len', cap', zs, hcs, _, hl, hm, hz, hx, hcell, _⟩
  · injection hcs with hcs _
    injection hcs with e1 e2 e3
    subst e1; subst e2; subst e3
    exact ⟨none, 0, [], rfl, fun _ => rfl, ⟨none, 0, rfl, by simp, by simp [maxLen], fun h => by simp at h⟩, fun s h => by simp at h⟩
  · injection hcs with hcs _
    injection hcs with e1 e2 e3
    subst e1; subst e2; subst e3
    simp only [if_true] at hz
    have hlen : (zs.take len).length = len := by rw [List.length_take]; omega
    injection hx with hd hp
    refine ⟨some a, cap, zs.take len, by rw [hlen], fun h => by simp at h, ⟨some a, cap, rfl, by omega, hm, fun hpos => ?_⟩, fun s hs => ?_⟩
    · obtain ⟨b, off, spot⟩ := a
      have hspot : spot = none := by simpa [Addr.add] using World.cell?_spot (hcell 0 (by omega))
      subst hspot
      refine ⟨b, off, rfl, ?_, fun i s hs => ?_⟩
      · rw [hp] at hpl
        exact hpl (.cell b off) (MemPlace.mem_row.2 ⟨0, by omega, by simp⟩)
      · have hi : i < (zs.take len).length := (List.getElem?_eq_some_iff.1 hs).1
        have := hcell i (by omega)
        rw [Go.WideShapes.add_plain] at this
        rw [List.getElem?_take_of_lt (by omega)] at hs
        rw [this]
        simp [List.getD_eq_getElem?_getD, hs]
    · subst hd
      unfold DataW.weights
      rw [Tryd.underlying24]
      simp only [List.mem_cons, List.mem_append]
      exact .inr (.inl (mem_weights hs))
end Go.Proofs.YthafdckomhdlbaaDoor
