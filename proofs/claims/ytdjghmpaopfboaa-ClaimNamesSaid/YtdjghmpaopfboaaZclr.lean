/- Plain: the steps of the test of claims. -/
import Derived.Test.YtdjghmpaopfboaaZclm
namespace Go.Proofs.Ytdjghmpaopfboaa
namespace Z
/-- The claim's own test, without its reversal. -/
def c1B (l : List Cl) (i : Nat) (x : Cl) : Bool := decide (x.n = i + 1) && decide (0 ≤ x.e) && decide (x.e ≤ 1125899906842624) && decide (prevE l i ≤ x.e) && decide (flE [x.fl] = 0)
theorem clOk_eq (l : List Cl) (i : Nat) (x : Cl) : clOk l i x = (c1B l i x && revOk l i x) := rfl
theorem revOk_zero {l : List Cl} {i : Nat} {x : Cl} (h : x.r = 0) : revOk l i x = true := by unfold revOk; rw [decide_eq_true h]; rfl
theorem revOk_far {l : List Cl} {i : Nat} {x : Cl} (h : ¬ x.r = 0) (h2 : x.r < 0 ∨ (i : Int) < x.r ∨ gone (l.take i) x.r = true) : revOk l i x = false := by
  unfold revOk
  rw [decide_eq_false h]
  rcases h2 with h2 | h2 | h2
  · rw [decide_eq_false (by omega : ¬ 1 ≤ x.r)]; rfl
  · rw [decide_eq_false (by omega : ¬ x.r ≤ i)]; simp
  · rw [h2]; simp
theorem revOk_near {l : List Cl} {i : Nat} {x y : Cl} (h : 1 ≤ x.r) (h2 : x.r ≤ i) (h3 : gone (l.take i) x.r = false) (hy : l[(x.r - 1).toNat]? = some y) : revOk l i x = (decide (y.r = 0) && decide (y.fl = opp x.fl)) := by
  unfold revOk
  rw [decide_eq_false (by omega : ¬ x.r = 0), decide_eq_true h, decide_eq_true h2, h3, hy]
  rfl
/-- Which numbers the first i claims reverse. -/
def outL (l : List Cl) (i : Nat) : List Bool := (List.range (l.length + 1)).map fun j : Nat => !decide (j = 0) && gone (l.take i) (j : Int)
theorem outL_len (l : List Cl) (i : Nat) : (outL l i).length = l.length + 1 := by simp [outL]
theorem outL_at {l : List Cl} {i j : Nat} (hj : j ≤ l.length) (h0 : 0 < j) : (outL l i)[j]? = some (gone (l.take i) j) := by
  unfold outL
  rw [List.getElem?_map, List.getElem?_range (by omega)]
  simp only [Option.map_some]
  rw [decide_eq_false (by omega)]; rfl
theorem outL_zero (l : List Cl) : outL l 0 = List.replicate (l.length + 1) false := by
  unfold outL
  apply List.ext_getElem (by simp)
  intro j h1 h2
  simp [gone]
theorem outL_same {l : List Cl} {i : Nat} {x : Cl} (h : l[i]? = some x) (h0 : x.r = 0) : outL l (i + 1) = outL l i := by
  unfold outL
  apply List.map_congr_left
  intro j _
  rw [gone_snoc h, h0]
  by_cases e : j = 0
  · subst e; rfl
  · rw [decide_eq_false (by omega : ¬ (0 : Int) = j), Bool.or_false]
theorem outL_set {l : List Cl} {i r : Nat} {x : Cl} (h : l[i]? = some x) (hr : x.r = r) (h0 : 0 < r) : outL l (i + 1) = (outL l i).set r true := by
  apply List.ext_getElem (by simp [outL])
  intro j h1 h2
  rw [List.getElem_set]
  simp only [outL, List.getElem_map, List.getElem_range]
  rw [gone_snoc h, hr]
  by_cases e : r = j
  · subst e
    rw [if_pos rfl, decide_eq_false (by omega : ¬ r = 0), decide_eq_true rfl]
    simp
  · rw [if_neg e, decide_eq_false (by omega : ¬ (r : Int) = j), Bool.or_false]
end Z
end Go.Proofs.Ytdjghmpaopfboaa
