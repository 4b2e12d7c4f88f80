/- Integers of many nines: plain facts, and the statements' helper nines. -/
import Derived.Test.YthafdckomhdlbaaDoorIl
namespace Go.Proofs.YthafdckomhdlbaaDoor
open Go.RowKit

/-- A string of n nines. -/
def nin (n : Nat) : ByteArray := ⟨(List.replicate n 57).toArray⟩
namespace Z
theorem nin_data (n : Nat) : (nin n).data.toList = List.replicate n 57 := by simp [nin]
theorem nin_size (n : Nat) : (nin n).size = n := by rw [Lib.size_eq, nin_data, List.length_replicate]
theorem natOf_nin (n : Nat) : natOf (List.replicate n (57 : UInt8)) + 1 = 10 ^ n := by
  induction n with
  | zero => rfl
  | succ n ih =>
    rw [List.replicate_succ', natOf_snoc, Nat.pow_succ]
    have : dval 57 = 9 := rfl
    omega
theorem isNeg_nin (n : Nat) : isNeg (List.replicate n (57 : UInt8)) = false := by
  cases n with
  | zero => rfl
  | succ n => rfl
theorem mags_nin (n : Nat) : mags (List.replicate n (57 : UInt8)) = List.replicate n 57 := by unfold mags; rw [isNeg_nin]; rfl
theorem all_nin (n : Nat) : (List.replicate n (57 : UInt8)).all isDig = true := by
  rw [List.all_eq_true]
  intro c hc
  rw [List.eq_of_mem_replicate hc]; rfl
theorem head_nin (n : Nat) : (List.replicate n (57 : UInt8)).head? ≠ some 48 := by
  cases n with
  | zero => simp
  | succ n => simp [List.replicate_succ]
theorem canon_nin {n : Nat} (h : 0 < n) : canon (List.replicate n (57 : UInt8)) = true := by
  refine canon_mk ?_ ?_ ?_
  · rw [mags_nin]; intro e; have := congrArg List.length e; simp at this; omega
  · rw [mags_nin]; exact all_nin n
  · rw [mags_nin]; intro e; exact absurd e (head_nin n)
theorem chk_nin {n : Nat} (h : 0 < n) (h' : n ≤ 1000) : chk (nin n).data.toList = 0 := by
  rw [nin_data]
  exact chk_ok (canon_nin h) (by rw [mags_nin, List.length_replicate]; exact h')
theorem chk_nin_big {n : Nat} (h : 1000 < n) : chk (nin n).data.toList = 14 := by
  rw [nin_data]
  exact chk_big (canon_nin (by omega)) (by rw [mags_nin, List.length_replicate]; exact h)
theorem ival_nin (n : Nat) : ival (nin n).data.toList = (natOf (List.replicate n 57) : Int) := by
  rw [nin_data, ival_pos _ (isNeg_nin n), mags_nin]
/-- The same with a minus sign. -/
def mnin (n : Nat) : ByteArray := ⟨#[45]⟩ ++ nin n
theorem mnin_data (n : Nat) : (mnin n).data.toList = 45 :: List.replicate n 57 := by
  unfold mnin
  rw [ByteArray.data_append, Array.toList_append, nin_data]
  rfl
theorem isNeg_mnin (n : Nat) : isNeg (mnin n).data.toList = true := by rw [mnin_data]; rfl
theorem mags_mnin (n : Nat) : mags (mnin n).data.toList = List.replicate n 57 := by
  have h := isNeg_mnin n
  unfold mags
  rw [h, mnin_data]; rfl
theorem canon_mnin {n : Nat} (h : 0 < n) : canon (mnin n).data.toList = true := by
  refine canon_mk ?_ ?_ ?_
  · rw [mags_mnin]; intro e; have := congrArg List.length e; simp at this; omega
  · rw [mags_mnin]; exact all_nin n
  · rw [mags_mnin]; intro e; exact absurd e (head_nin n)
theorem chk_mnin {n : Nat} (h : 0 < n) (h' : n ≤ 1000) : chk (mnin n).data.toList = 0 :=
  chk_ok (canon_mnin h) (by rw [mags_mnin, List.length_replicate]; exact h')
theorem ival_mnin (n : Nat) : ival (mnin n).data.toList = -(natOf (List.replicate n 57) : Int) := by
  rw [ival_neg _ (isNeg_mnin n), mags_mnin]
theorem resE_ge {k : Nat} {z : Int} (hk : 1000 ≤ k) (h : 10 ^ k ≤ z.natAbs) : resE z = 14 := by
  have hp : 0 < z.natAbs := Nat.lt_of_lt_of_le (Nat.pow_pos (by omega)) h
  unfold resE
  rw [if_pos]
  rw [decB_len _ hp]
  have h1 := ofDg_lt 10 (by omega) _ (dg_lt 10 (by omega) z.natAbs)
  rw [ofDg_dg 10 (by omega)] at h1
  rcases Nat.lt_or_ge k (dg 10 z.natAbs).length with h2 | h2
  · omega
  · have : 10 ^ (dg 10 z.natAbs).length ≤ 10 ^ k := Nat.pow_le_pow_right (by omega) h2
    omega
theorem ival1 : ival (⟨#[49]⟩ : ByteArray).data.toList = 1 := by decide +kernel
theorem ival2 : ival (⟨#[50]⟩ : ByteArray).data.toList = 2 := by decide +kernel
theorem chk1 : chk (⟨#[49]⟩ : ByteArray).data.toList = 0 := by decide +kernel
theorem chk2 : chk (⟨#[50]⟩ : ByteArray).data.toList = 0 := by decide +kernel
theorem nines_facts {k : Nat} (hk : k = 1000) : opE (fun x y => x + y) (nin k) ⟨#[49]⟩ = 14 ∧ opE (fun x y => x + -y) (nin k) ⟨#[49]⟩ = 0 ∧ ((opS (fun x y => x + -y) (nin k) ⟨#[49]⟩).toList == (nin k).toList) = false ∧
    opE (fun x y => x + -y) (mnin k) ⟨#[49]⟩ = 14 ∧ opE (fun x y => x * y) (nin k) ⟨#[50]⟩ = 14 := by
  have h1 := natOf_nin k
  have hv := ival_nin k
  have hm := ival_mnin k
  have hp : 1 ≤ 10 ^ k := Nat.pow_pos (by omega)
  have hp2 : 10 ≤ 10 ^ k := by
    have : 10 ^ 1 ≤ 10 ^ k := Nat.pow_le_pow_right (by omega) (by omega)
    omega
  have b1 : bothE (nin k) ⟨#[49]⟩ = 0 := bothE_ok (chk_nin (by omega) (by omega)) chk1
  have b2 : bothE (mnin k) ⟨#[49]⟩ = 0 := bothE_ok (chk_mnin (by omega) (by omega)) chk1
  have b3 : bothE (nin k) ⟨#[50]⟩ = 0 := bothE_ok (chk_nin (by omega) (by omega)) chk2
  generalize natOf (List.replicate k 57) = v at *
  have lv : Lt k ((v : Int) + -1) := by unfold Lt; omega
  obtain ⟨r1, r2⟩ := lv.res (by omega) (by omega)
  have hs : nin k = S (v : Int) := by
    rw [← hv]
    refine (S_of ?_).symm
    rw [nin_data]; exact canon_nin (by omega)
  refine ⟨?_, ?_, ?_, ?_, ?_⟩
  · unfold opE; rw [if_pos b1, hv, ival1]; exact resE_ge (k := k) (by omega) (by show 10 ^ k ≤ ((v : Int) + 1).natAbs; omega)
  · unfold opE; rw [if_pos b1, hv, ival1]; exact r1
  · unfold opS; rw [if_pos b1, hv, ival1, r2, hs]; exact S_beq (by omega)
  · unfold opE; rw [if_pos b2, hm, ival1]; exact resE_ge (k := k) (by omega) (by show 10 ^ k ≤ (-(v : Int) + -1).natAbs; omega)
  · unfold opE; rw [if_pos b3, hv, ival2]; exact resE_ge (k := k) (by omega) (by show 10 ^ k ≤ ((v : Int) * 2).natAbs; omega)
theorem strOf_nin (n : Nat) : strOf (List.replicate n 57) = nin n := by
  unfold strOf nin
  rw [List.map_replicate]
  rfl
end Z
def StrIs (r : ByteArray) (w : World) (e : Ending) (w' : World) : Prop := e = .returned (.string r) ∧ Below w.heap.size w w'
end Go.Proofs.YthafdckomhdlbaaDoor
