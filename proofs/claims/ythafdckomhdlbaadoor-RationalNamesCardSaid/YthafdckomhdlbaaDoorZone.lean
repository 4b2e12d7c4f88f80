/- Rationals with a denominator of many ones: plain facts, and the statements' helper ones. -/
import Derived.Test.YthafdckomhdlbaaDoorZrt
import Derived.Test.YthafdckomhdlbaaDoorQ5
import Derived.Test.YthafdckomhdlbaaDoorInin
namespace Go.Proofs.YthafdckomhdlbaaDoor
open Go.RowKit
/-- A string of n ones. -/
def one (n : Nat) : ByteArray := ⟨(List.replicate n 49).toArray⟩
/-- A text and a slash ahead of a string of n ones. -/
def over (c : UInt8) (n : Nat) : ByteArray := ⟨(c :: 47 :: List.replicate n 49).toArray⟩
namespace Z
theorem one_data (n : Nat) : (one n).data.toList = List.replicate n 49 := by simp [one]
theorem over_data (c : UInt8) (n : Nat) : (over c n).data.toList = [c] ++ 47 :: List.replicate n 49 := by simp [over]
theorem natOf_one (n : Nat) : 9 * natOf (List.replicate n (49 : UInt8)) + 1 = 10 ^ n := by
  induction n with
  | zero => rfl
  | succ n ih =>
    rw [List.replicate_succ', natOf_snoc, Nat.pow_succ]
    have : dval 49 = 1 := rfl
    omega
theorem isNeg_one (n : Nat) : isNeg (List.replicate n (49 : UInt8)) = false := by
  cases n with
  | zero => rfl
  | succ n => rfl
theorem mags_one (n : Nat) : mags (List.replicate n (49 : UInt8)) = List.replicate n 49 := by unfold mags; rw [isNeg_one]; rfl
theorem all_one (n : Nat) : (List.replicate n (49 : UInt8)).all isDig = true := by
  rw [List.all_eq_true]
  intro c hc
  rw [List.eq_of_mem_replicate hc]; rfl
theorem head_one (n : Nat) : (List.replicate n (49 : UInt8)).head? ≠ some 48 := by
  cases n with
  | zero => simp
  | succ n => simp [List.replicate_succ]
theorem canon_one {n : Nat} (h : 0 < n) : canon (List.replicate n (49 : UInt8)) = true := by
  refine canon_mk ?_ ?_ ?_
  · rw [mags_one]; intro e; have := congrArg List.length e; simp at this; omega
  · rw [mags_one]; exact all_one n
  · rw [mags_one]; intro e; exact absurd e (head_one n)
theorem chk_one {n : Nat} (h : 0 < n) (h' : n ≤ 1000) : chk (List.replicate n (49 : UInt8)) = 0 :=
  chk_ok (canon_one h) (by rw [mags_one, List.length_replicate]; exact h')
theorem chk_one_big {n : Nat} (h : 1000 < n) : chk (List.replicate n (49 : UInt8)) = 14 :=
  chk_big (canon_one (by omega)) (by rw [mags_one, List.length_replicate]; exact h)
theorem ival_one (n : Nat) : ival (List.replicate n (49 : UInt8)) = (natOf (List.replicate n 49) : Int) := by
  rw [ival_pos _ (isNeg_one n), mags_one]
theorem over_cut {c : UInt8} (hc : c ≠ 47) (n : Nat) : cutR (over c n).data.toList = ([c], List.replicate n 49, true) := by
  rw [over_data]
  exact cutR_some (by intro d hd; rw [List.mem_singleton.1 hd]; exact hc)
theorem over_parts {c : UInt8} (hc : c ≠ 47) (n : Nat) : (rN (over c n)).data.toList = [c] ∧ (rD (over c n)).data.toList = List.replicate n 49 ∧ rF (over c n) = true ∧ rn (over c n) = ival [c] ∧ rd (over c n) = (natOf (List.replicate n 49) : Int) := by
  have h := over_cut hc n
  have h1 : (rN (over c n)).data.toList = [c] := by unfold rN; rw [h, data_ofL]
  have h2 : (rD (over c n)).data.toList = List.replicate n 49 := by unfold rD; rw [h, data_ofL]
  have h3 : rF (over c n) = true := by unfold rF; rw [h]
  refine ⟨h1, h2, h3, ?_, ?_⟩
  · unfold rn; rw [h1]
  · unfold rd; rw [h3, if_pos rfl, h2, ival_one]
theorem natOf_big {n : Nat} (h : 2 ≤ n) : 11 ≤ natOf (List.replicate n (49 : UInt8)) := by
  have h1 := natOf_one n
  have h2 : 10 ^ 2 ≤ 10 ^ n := Nat.pow_le_pow_right (by omega) h
  have h3 : (10 : Nat) ^ 2 = 100 := by decide
  generalize (10 : Nat) ^ n = P at *
  omega
theorem over_bad {n : Nat} {c : UInt8} (h : 2 ≤ n) (hc : c ≠ 47) (hk : canon [c] = true) : rbad (over c n) = false := by
  obtain ⟨h1, h2, h3, h4, h5⟩ := over_parts hc n
  have hb := natOf_big h
  unfold rbad
  rw [h1, h2, h3, h5, hk, canon_one (by omega), isNeg_one]
  have e1 : ((natOf (List.replicate n 49) : Nat) : Int) ≠ 1 := by omega
  simp [e1]
  omega
theorem over_ok {n : Nat} (h : n = 1000) : rchk (over 49 n) = 0 := by
  obtain ⟨h1, h2, h3, h4, h5⟩ := over_parts (c := 49) (by decide) n
  unfold rchk rbig
  rw [over_bad (by omega) (by decide) (by decide +kernel), h1, h2, h3, h4, chk_one (by omega) (by omega)]
  have e1 : chk [49] = 0 := by decide +kernel
  have e2 : ival [49] = 1 := by decide +kernel
  have e3 : ∀ y : Int, gcdI 1 y = 1 := by intro y; unfold gcdI; simp
  rw [e1, e2, e3]
  simp
theorem over_big {n : Nat} (h : n = 1001) : rchk (over 50 n) = 14 := by
  obtain ⟨h1, h2, h3, h4, h5⟩ := over_parts (c := 50) (by decide) n
  unfold rchk rbig
  rw [over_bad (by omega) (by decide) (by decide +kernel), h1, h2, h3, chk_one_big (by omega)]
  simp
theorem one_strOf (n : Nat) : strOf (List.replicate n 49) = one n := by
  unfold strOf one
  rw [List.map_replicate]
  rfl
theorem over_of (n : Nat) : (⟨#[49, 47]⟩ : ByteArray) ++ one n = over 49 n := by
  apply ba_ext
  rw [ByteArray.data_append, Array.toList_append, one_data, over_data]
  rfl
theorem over_next (n : Nat) : (⟨#[50, 47]⟩ : ByteArray) ++ (over 49 n).extract 2 (over 49 n).size ++ ⟨#[49]⟩ = over 50 (n + 1) := by
  apply ba_ext
  have hs : (over 49 n).size = n + 2 := by rw [Lib.size_eq, over_data]; simp
  rw [ByteArray.data_append, Array.toList_append, ByteArray.data_append, Array.toList_append, Lib.extract_data, over_data, over_data, hs, List.replicate_succ']
  simp
theorem over_size (c : UInt8) (n : Nat) : (over c n).size = n + 2 := by rw [Lib.size_eq, over_data]; simp
/-- What the operations answer. -/
theorem fit_no {l : List Int} {z : Int} (h : z ∈ l) (hz : resE z = 14) : fitL l = false := by
  unfold fitL
  rw [List.all_eq_false]
  exact ⟨z, h, by rw [hz]; decide⟩
theorem ropE_no {l : List Int} {a b : ByteArray} (hb : rbothE a b = 0) (hf : fitL l = false) : ropE l a b = 14 := by
  unfold ropE; rw [if_pos hb, hf]; rfl
theorem wide_facts {n : Nat} (h : n = 1000) : ropE (lMul (over 49 n) ⟨#[49, 47, 49, 49]⟩) (over 49 n) ⟨#[49, 47, 49, 49]⟩ = 14 ∧ ropE (lAdd (over 49 n) ⟨#[49, 47, 49, 49]⟩) (over 49 n) ⟨#[49, 47, 49, 49]⟩ = 14 ∧ rcmpE (over 49 n) ⟨#[49, 49, 47, 51]⟩ = 14 := by
  obtain ⟨h1, h2, h3, h4, h5⟩ := over_parts (c := 49) (by decide) n
  have e1 : rchk ⟨#[49, 47, 49, 49]⟩ = 0 := by decide +kernel
  have e2 : rchk ⟨#[49, 49, 47, 51]⟩ = 0 := by decide +kernel
  have d1 : rd ⟨#[49, 47, 49, 49]⟩ = 11 := by decide +kernel
  have d2 : rn ⟨#[49, 49, 47, 51]⟩ = 11 := by decide +kernel
  have b1 : rbothE (over 49 n) ⟨#[49, 47, 49, 49]⟩ = 0 := by unfold rbothE; rw [if_pos (over_ok h), e1]
  have b2 : rbothE (over 49 n) ⟨#[49, 49, 47, 51]⟩ = 0 := by unfold rbothE; rw [if_pos (over_ok h), e2]
  have hv := natOf_one n
  have hge : resE (rd (over 49 n) * 11) = 14 := by
    rw [h5]
    refine resE_ge (k := n) (by omega) ?_
    generalize natOf (List.replicate n 49) = v at *
    have hp : 1 ≤ 10 ^ n := Nat.pow_pos (by omega)
    have hp3 : 10 ^ 2 ≤ 10 ^ n := Nat.pow_le_pow_right (by omega) (by omega)
    have hp4 : (10 : Nat) ^ 2 = 100 := by decide
    generalize (10 : Nat) ^ n = P at *
    omega
  refine ⟨ropE_no b1 (fit_no (z := rd (over 49 n) * 11) ?_ hge), ropE_no b1 (fit_no (z := rd (over 49 n) * 11) ?_ hge), ropE_no b2 (fit_no (z := rd (over 49 n) * 11) ?_ hge)⟩
  · unfold lMul; rw [d1]; simp
  · unfold lAdd; rw [d1]; simp
  · unfold lCmp; rw [d2]; simp [Int.mul_comm]
theorem pow_big {k : Nat} (h : k = 999) : powE ⟨#[49, 48]⟩ (k + 1 : Nat) = 14 := by
  have e1 : rchk ⟨#[49, 48]⟩ = 0 := by decide +kernel
  have e2 : rn ⟨#[49, 48]⟩ = 10 := by decide +kernel
  have hge : resE ((10 : Int) ^ k * 10) = 14 := by
    refine resE_ge (k := k + 1) (by omega) ?_
    rw [← Int.pow_succ, Int.natAbs_pow]
    exact Nat.le_refl _
  have hm : pwm 10 (k + 1) = k + 1 := by unfold pwm; rw [if_neg (by decide)]
  have hp := pw_bad (x := 10) (n := k + 1) (k := k) (by rw [hm]; omega) (by rw [hge]; decide)
  unfold powE
  rw [if_neg (by omega), e1, if_neg (by decide), if_neg (by omega), e2]
  unfold p2E
  rw [Int.natAbs_natCast, if_neg (by rw [hp.2]; simp)]
end Z
end Go.Proofs.YthafdckomhdlbaaDoor
