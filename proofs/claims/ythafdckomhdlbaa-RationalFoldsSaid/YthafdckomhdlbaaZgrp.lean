/- Plain: the groups of nine digits of a text. -/
import Derived.Test.YthafdckomhdlbaaZdec
import Derived.Test.YthafdckomhdlbaaZcmp
namespace Go.Proofs.Ythafdckomhdlbaa
namespace Z
theorem natOf_fold (b : List UInt8) : ∀ x : Nat, b.foldl (fun n c => 10 * n + dval c) x = x * 10 ^ b.length + natOf b := by
  induction b with
  | nil => intro x; simp [natOf]
  | cons c b ih =>
    intro x
    have h1 := ih (10 * x + dval c)
    have h2 := ih (dval c)
    show b.foldl _ (10 * x + dval c) = _
    have e : natOf (c :: b) = b.foldl (fun n c => 10 * n + dval c) (dval c) := by simp [natOf]
    rw [h1, e, h2, List.length_cons, Nat.pow_succ, Nat.add_mul]
    have : 10 * x * 10 ^ b.length = x * (10 ^ b.length * 10) := by rw [Nat.mul_comm 10 x, Nat.mul_assoc, Nat.mul_comm 10]
    omega
theorem natOf_append (a b : List UInt8) : natOf (a ++ b) = natOf a * 10 ^ b.length + natOf b := by
  rw [← natOf_fold]; simp [natOf]
/-- The k-th group from the end. -/
def grp (l : List UInt8) (k : Nat) : List UInt8 := (l.take (l.length - 9 * k)).drop (l.length - 9 * k - 9)
def grps (l : List UInt8) (k : Nat) : List Nat := (List.range k).map fun j => natOf (grp l j)
theorem grps_succ (l : List UInt8) (k : Nat) : grps l (k + 1) = grps l k ++ [natOf (grp l k)] := by simp [grps, List.range_succ]
theorem grps_length (l : List UInt8) (k : Nat) : (grps l k).length = k := by simp [grps]
theorem grps_inv (l : List UInt8) (B : Nat) (hB : B = 10 ^ 9) : ∀ k, natOf l = ofDg B (grps l k) + B ^ k * natOf (l.take (l.length - 9 * k))
  | 0 => by simp [grps, ofDg]
  | k + 1 => by
    rw [grps_inv l B hB k, grps_succ, ofDg_snoc, grps_length]
    have hm : natOf (l.take (l.length - 9 * k)) = B * natOf (l.take (l.length - 9 * (k + 1))) + natOf (grp l k) := by
      generalize hm : l.length - 9 * k = m
      have e : l.length - 9 * (k + 1) = m - 9 := by omega
      have hml : m ≤ l.length := by omega
      rw [e]
      have e2 : l.take m = l.take (m - 9) ++ (l.take m).drop (m - 9) := by
        have := List.take_append_drop (m - 9) (l.take m)
        rw [List.take_take, Nat.min_eq_left (by omega)] at this
        exact this.symm
      rw [e2, natOf_append]
      have e3 : ((l.take m).drop (m - 9)).length = m - (m - 9) := by
        rw [List.length_drop, List.length_take, Nat.min_eq_left hml]
      rw [e3]
      unfold grp
      rw [hm]
      rcases Nat.lt_or_ge m 9 with h | h
      · have : m - 9 = 0 := by omega
        rw [this]
        simp [natOf]
      · have : m - (m - 9) = 9 := by omega
        rw [this, hB, Nat.mul_comm]
    rw [hm, Nat.mul_add, Nat.pow_succ, Nat.mul_assoc]
    omega
theorem grps_all (l : List UInt8) (B : Nat) (hB : B = 10 ^ 9) (K : Nat) (hK : l.length ≤ 9 * K) : ofDg B (grps l K) = natOf l := by
  have := grps_inv l B hB K
  have e : l.length - 9 * K = 0 := by omega
  rw [e] at this
  simp [natOf] at this
  simp [natOf, this]
end Z
end Go.Proofs.Ythafdckomhdlbaa
