/- Walks: integer.groups (an iterator). -/
import Derived.RangeFuncNested
import Derived.RangeFuncBound
import Derived.RangeFuncCalls
import Derived.RangeFuncLeaves
import Derived.Shelf.Abstract
import Derived.Shelf.RegionOpen
import Derived.WalkKit
import Derived.OwnWalkIn
import Derived.TacticsInMore
import Derived.LoopNIn
import Derived.LoopIn
import Derived.Test.YthafdckomhdlbaaIchk
import Derived.Test.YthafdckomhdlbaaBlk
namespace Go.Proofs.Ythafdckomhdlbaa
open Go.RowKit Go.Shelf
attribute [local go_sem] Oper.semAt_some

/-- What has come when k rounds are over. -/
def upto {α : Type} (f : Nat → α) (k : Nat) : List α := (List.range k).map f
theorem upto_succ {α : Type} (f : Nat → α) (k : Nat) : upto f (k + 1) = upto f k ++ [f k] := by simp [upto, List.range_succ]
theorem upto_length {α : Type} (f : Nat → α) (k : Nat) : (upto f k).length = k := by simp [upto]
/-- These blocks are as they were. -/
def Same (S : Nat → Prop) (A B : World) : Prop := ∀ k, S k → B.heap[k]? = A.heap[k]?
theorem Same.refl (S : Nat → Prop) (A : World) : Same S A A := fun _ _ => rfl
theorem Same.trans {S : Nat → Prop} {A B C : World} (h : Same S A B) (k : Same S B C) : Same S A C := fun j hj => (k j hj).trans (h j hj)
theorem Same.put {S : Nat → Prop} {n : Nat} (hS : ∀ k, S k → k < n) (W : World) (l : Nat) (o o' : Obj) (hl : n ≤ l) (_ : W.heap[l]? = some o) (_ : o.isCells = false) (_ : o.isWalk = false) : Same S W (W.putObj l o') :=
  fun k hk => World.putObj_heap_other (fun e => by have := hS k hk; omega)
theorem Same.below {S : Nat → Prop} {n : Nat} {A B : World} (hS : ∀ k, S k → k < n) (h : Below n A B) : Same S A B := fun k hk => h.block k (hS k hk)
/-- A group of digits. -/
abbrev Grp := { x : ByteArray // x.size ≤ 9 ∧ ∀ k, (h : k < x.size) → Z.isDig x[k] = true }

set_option maxRecDepth 100000 in
set_option maxHeartbeats 1000000 in
theorem groups1_in (F : Fence) (n : Nat) (hf : F.fn 90) (hro : F.round = none) (hn : 1 ≤ n) (l Bs : Nat) (s : ByteArray) (hs : s.size ≤ 1000000) (f : Nat → Grp)
    (hfv : ∀ k : Nat, 9 * k < s.size → (f k).1 = s.extract (s.size - 9 * k - 9) (s.size - 9 * k)) (J Jx : List Grp → World → Prop)
    (hY : ∀ pre (x : Grp) W, J pre W → pre.length < (s.size + 8) / 9 → YieldAt F (n - 1) Try.prog l #[.string x.1] W fun e W' =>
      (e = .returned (.bool true) ∧ J (pre ++ [x]) W' ∧ Same (· = Bs) W W') ∨ (e = .returned (.bool false) ∧ Jx (pre ++ [x]) W'))
    (W : World) (hBs : Blk W Bs 9 #[.string s]) (h0 : J [] W) :
    CallsIn F n Try.prog 90 #[.func (.yield l) #[] #[], .pointer (some ⟨Bs, 0, none⟩)] W fun e W' => (∃ v, e = .returned v) ∧
      ((∃ ys, ys = upto f ((s.size + 8) / 9) ∧ J ys W') ∨ (∃ pre, True ∧ Jx pre W')) := by
  have hc0 := hBs.cell 0
  refine callsIn_of_wp Try.func90 rfl hf ?_ hro
  simp only [Try.ntmps90, List.size_toArray, List.length_cons, List.length_nil, Nat.reduceAdd, Nat.reduceSub, Array.replicate_succ, Array.replicate_zero, List.push_toArray, List.append_toArray, List.nil_append, List.cons_append]
  gi_wp2
  gi_loopw [3] (fun iv wr => ∃ k : Nat, 9 * k < s.size + 9 ∧ iv = .int .i64 ((s.size : Int) - 9 * k) ∧ J (upto f k) wr ∧ Same (· = Bs) W wr) (fun iv _ => (intOf iv).toNat)
  case atStart => exact ⟨0, by omega, by simp, h0, Same.refl _ _⟩
  case round =>
    obtain ⟨k, hk, rfl, hJs, hS⟩ := hrel
    have hcx : wr.cell? ⟨Bs, 0, none⟩ = some (.string s) := (show Blk wr Bs _ _ from (hS Bs rfl).trans hBs).cell 0
    by_cases hlt : 9 * k < s.size
    · obtain ⟨fn, tmps, assign, body, hy, hR⟩ := hY _ (f k) wr hJs (by rw [upto_length]; omega)
      rw [hfv k hlt] at hy
      by_cases h9 : s.size - 9 * k ≤ 9
      · have e : s.size - 9 * k - 9 = 0 := by omega
        rw [e] at hy
        gi_wp2
        refine hR.mono ?_
        rintro e W3 (⟨rfl, hJ3, hk3⟩ | ⟨rfl, hJx3⟩)
        · gi_wp2
          go_roundw
          case rel => exact ⟨k + 1, by omega, ret_v (by omega), by rw [upto_succ]; exact hJ3, hS.trans hk3⟩
          case measure => simp [intOf]; omega
        · gi_wp2
          refine bodyPost_ret (results_none rfl _ _ _) rfl ?_
          exact ⟨⟨_, rfl⟩, .inr ⟨_, trivial, hJx3⟩⟩
      · have e : s.size - 9 * k - 9 = ((s.size : Int) - 9 * k - 9).toNat := by omega
        rw [e] at hy
        gi_wp2
        refine hR.mono ?_
        rintro e W3 (⟨rfl, hJ3, hk3⟩ | ⟨rfl, hJx3⟩)
        · gi_wp2
          go_roundw
          case rel => exact ⟨k + 1, by omega, ret_v (by omega), by rw [upto_succ]; exact hJ3, hS.trans hk3⟩
          case measure => simp [intOf]; omega
        · gi_wp2
          refine bodyPost_ret (results_none rfl _ _ _) rfl ?_
          exact ⟨⟨_, rfl⟩, .inr ⟨_, trivial, hJx3⟩⟩
    · have hK : k = (s.size + 8) / 9 := by omega
      gi_wp2
      go_end0
      exact ⟨⟨_, rfl⟩, .inl ⟨_, by rw [hK], hJs⟩⟩

set_option maxHeartbeats 1000000 in
theorem groups_in (F : Fence) (n : Nat) (hf : F.fn 88) (hro : F.round = none) (s : ByteArray) (w : World) :
    CallsIn F n Try.prog 88 #[.string s] w fun e w' => e = .returned (.func (.func 90) #[] #[.pointer (some ⟨w.heap.size, 0, none⟩)]) ∧ w' = w.alloc (.cells #[.string s] 9) := by
  refine callsIn_of_wp Try.func88 rfl hf ?_ hro
  simp only [Try.ntmps88, List.size_toArray, List.length_cons, List.length_nil, Nat.reduceAdd, Nat.reduceSub, Array.replicate_succ, Array.replicate_zero, List.push_toArray, List.append_toArray, List.nil_append, List.cons_append]
  gi_wp2
  go_ret
  exact ⟨rfl, rfl⟩
theorem groups_stops (F : Fence) (n : Nat) (hf : F.fn 90) (hro : F.round = none) (hn : 1 ≤ n) (Bs : Nat) (s : ByteArray) (hs : s.size ≤ 1000000) (f : Nat → Grp)
    (hfv : ∀ k : Nat, 9 * k < s.size → (f k).1 = s.extract (s.size - 9 * k - 9) (s.size - 9 * k)) (w : World) (hBs : Blk w Bs 9 #[.string s]) :
    SeqStopsK F n Try.prog 90 #[.pointer (some ⟨Bs, 0, none⟩)] (fun x : Grp => #[Value.string x.1]) (Same (· = Bs)) (fun ys => ys = upto f ((s.size + 8) / 9)) (fun _ => True) ((s.size + 8) / 9) w := fun l J Jx W hW _ _ hY h0 =>
  groups1_in F n hf hro hn l Bs s hs f hfv J Jx hY W (hBs.below hW) h0
end Go.Proofs.Ythafdckomhdlbaa
