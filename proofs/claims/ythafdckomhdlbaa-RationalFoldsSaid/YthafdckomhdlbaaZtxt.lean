/- Plain lists and integers: canonical decimal texts, what Check says of them, and what they stand for. -/
import Derived.Test.YthafdckomhdlbaaZnum
namespace Go.Proofs.Ythafdckomhdlbaa
namespace Z

def isDig (c : UInt8) : Bool := decide (48 ≤ c.toNat) && decide (c.toNat ≤ 57)
def dval (c : UInt8) : Nat := c.toNat - 48
def natOf (l : List UInt8) : Nat := l.foldl (fun n c => 10 * n + dval c) 0
def isNeg (l : List UInt8) : Bool := l.head? == some 45
def mags (l : List UInt8) : List UInt8 := if isNeg l then l.tail else l
def canon (l : List UInt8) : Bool := !(mags l).isEmpty && (mags l).all isDig && (!((mags l).head? == some 48) || ((mags l).length == 1 && !isNeg l))
/-- What Check returns. -/
def chk (l : List UInt8) : Int := if canon l then if (mags l).length ≤ 1000 then 0 else 14 else 12
/-- What a canonical text stands for. -/
def ival (l : List UInt8) : Int := if isNeg l then - (natOf (mags l) : Int) else natOf (mags l)

theorem chk_empty {l : List UInt8} (h : mags l = []) : chk l = 12 := by simp [chk, canon, h]
theorem chk_minus_zero {l : List UInt8} (hn : isNeg l = true) (h : (mags l).head? = some 48) : chk l = 12 := by simp [chk, canon, h, hn]
theorem chk_lead {l : List UInt8} (h : (mags l).head? = some 48) (h1 : 1 < (mags l).length) : chk l = 12 := by
  have : ((mags l).length == 1) = false := by simp; omega
  simp [chk, canon, h, this]
theorem chk_bad {l : List UInt8} {k : Nat} {c : UInt8} (h : (mags l)[k]? = some c) (hc : isDig c = false) : chk l = 12 := by
  have : (mags l).all isDig = false := by
    rw [List.all_eq_false]
    exact ⟨c, List.mem_of_getElem? h, by simp [hc]⟩
  simp [chk, canon, this]
theorem all_of {l : List UInt8} (h : ∀ (k : Nat) (c : UInt8), l[k]? = some c → isDig c = true) : l.all isDig = true := by
  rw [List.all_eq_true]
  intro c hc
  obtain ⟨k, hk⟩ := List.mem_iff_getElem?.1 hc
  exact h k c hk
theorem canon_mk {l : List UInt8} (h0 : mags l ≠ []) (h : (mags l).all isDig = true) (hz : (mags l).head? = some 48 → (mags l).length = 1 ∧ isNeg l = false) : canon l = true := by
  have h1 : (mags l).isEmpty = false := by simpa using h0
  unfold canon
  rw [h1, h]
  by_cases hh : (mags l).head? = some 48
  · simp [hh, (hz hh).1, (hz hh).2]
  · simp [hh]
theorem chk_ok {l : List UInt8} (h : canon l = true) (h1 : (mags l).length ≤ 1000) : chk l = 0 := by simp [chk, h, h1]
theorem chk_big {l : List UInt8} (h : canon l = true) (h1 : 1000 < (mags l).length) : chk l = 14 := by
  have : ¬ (mags l).length ≤ 1000 := by omega
  simp [chk, h, this]
theorem chk_zero_iff {l : List UInt8} : chk l = 0 ↔ canon l = true ∧ (mags l).length ≤ 1000 := by
  unfold chk
  by_cases h : canon l <;> by_cases h1 : (mags l).length ≤ 1000 <;> simp [h, h1]
end Z
end Go.Proofs.Ythafdckomhdlbaa
