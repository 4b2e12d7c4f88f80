/- Walks: the iterator calendar.days. -/
import Derived.RangeFuncNested
import Derived.RangeFuncBound
import Derived.RangeFuncCalls
import Derived.RangeFuncLeaves
import Derived.Shelf.Abstract
import Derived.Shelf.RegionOpen
import Derived.WalkKit
import Derived.OwnWalkIn
import Derived.TacticsInMore
import Derived.LoopNIn
import Derived.LoopIn
import Derived.Test.YtmbbpimihnojeaaCopen
namespace Go.Proofs.Ytmbbpimihnojeaa
open Go.RowKit Go.Shelf
attribute [local go_sem] Oper.semAt_some

/-- These blocks are as they were. -/
def Same (S : Nat → Prop) (A B : World) : Prop := ∀ k, S k → B.heap[k]? = A.heap[k]?
theorem Same.refl (S : Nat → Prop) (A : World) : Same S A A := fun _ _ => rfl
theorem Same.trans {S : Nat → Prop} {A B C : World} (h : Same S A B) (k : Same S B C) : Same S A C := fun j hj => (k j hj).trans (h j hj)
theorem Same.put {S : Nat → Prop} {n : Nat} (hS : ∀ k, S k → k < n) (W : World) (l : Nat) (o o' : Obj) (hl : n ≤ l) (_ : W.heap[l]? = some o) (_ : o.isCells = false) (_ : o.isWalk = false) : Same S W (W.putObj l o') :=
  fun k hk => World.putObj_heap_other (fun e => by have := hS k hk; omega)
theorem Same.below {S : Nat → Prop} {n : Nat} {A B : World} (hS : ∀ k, S k → k < n) (h : Below n A B) : Same S A B := fun k hk => h.block k (hS k hk)
theorem Same.set {S : Nat → Prop} {b j : Nat} (hS : ¬ S b) (A : World) (v : Value) : Same S A (A.setCell ⟨b, j, none⟩ v) :=
  fun k hk => Below.heap_setCell _ _ _ k (fun e => hS (by rw [e] at hk; exact hk))
theorem Blk.same {S : Nat → Prop} {A B : World} {b : Nat} {t : TypeId} {cs : Array Value} (h : Blk A b t cs) (hS : S b) (hs : Same S A B) : Blk B b t cs := (hs b hS).trans h
theorem SI.same {A B : World} {v : Value} {zs : List Int} (h : SI A v zs) (hs : ∀ k, k < A.heap.size → B.heap[k]? = A.heap[k]?) : SI B v zs := by
  obtain ⟨a, c, hv, h1, h2, h3⟩ := h
  refine ⟨a, c, hv, h1, h2, fun hp => ?_⟩
  obtain ⟨b, o, hA, hlt, hc⟩ := h3 hp
  have e := hs b hlt
  have hlt2 : b < B.heap.size := by
    rw [Array.getElem?_eq_getElem hlt] at e
    exact (Array.getElem?_eq_some_iff.1 e).1
  refine ⟨b, o, hA, hlt2, fun i d hd => ?_⟩
  rw [← hc i d hd]
  simp [World.cell?, e]

theorem dk_facts {a s : Int} {k : Nat} (hs : s = 1 ∨ s = -1) (h1 : s = 1 → 0 ≤ a ∧ a ≤ 100000) (h2 : s = -1 → -1 ≤ a ∧ a ≤ 99999) (hk : k ≤ Z.room a s) :
    (-1 ≤ Z.dk a s k ∧ Z.dk a s k ≤ 100000) ∧ (Z.inR (Z.dk a s k) = decide (k < Z.room a s)) ∧ Z.dk a s (k + 1) = Z.dk a s k + s := by
  unfold Z.room at *
  unfold Z.dk Z.inR
  rcases hs with rfl | rfl
  · have := h1 rfl
    simp only [if_true] at hk ⊢
    refine ⟨by omega, ?_, by omega⟩
    rw [Bool.eq_iff_iff]; simp; omega
  · have := h2 rfl
    simp only [show ¬ ((-1 : Int) = 1) by omega, if_false] at hk ⊢
    refine ⟨by omega, ?_, by omega⟩
    rw [Bool.eq_iff_iff]; simp; omega
theorem pre_len (P : Int → Bool) (a s : Int) (k : Nat) : (Z.pre P a s k).length ≤ k := by
  unfold Z.pre
  have := List.length_filter_le P ((List.range k).map (Z.dk a s))
  simpa using this

def isV (Bc : Nat) : Value := .func (.func 48) #[] #[.pointer (some ⟨Bc, 0, none⟩)]
/-- What the iterator reads. -/
structure DaysAt (W : World) (Bf Bs Bis Bc : Nat) (wk : Int) (v : Value) (hs : List Int) (a s : Int) : Prop where
  bf : Blk W Bf 3 #[.int .i64 a]
  bs : Blk W Bs 3 #[.int .i64 s]
  bis : Blk W Bis 51 #[isV Bc]
  bc : Blk W Bc 24 #[.int .u8 wk, v]
  si : SI W v hs

set_option maxRecDepth 100000 in
set_option maxHeartbeats 1000000 in
theorem days1_in (n : Nat) (hn : 1 ≤ n) (l Bf Bs Bis Bc : Nat) (wk : Int) (v : Value) (hs : List Int) (a s : Int) (hk : Z.calB wk hs = true) (hk0 : 0 ≤ wk)
    (hss : s = 1 ∨ s = -1) (h1 : s = 1 → 0 ≤ a ∧ a ≤ 100000) (h2 : s = -1 → -1 ≤ a ∧ a ≤ 99999) (S : Nat → Prop) (W0 : World) (hD : ∀ W, Same S W0 W → DaysAt W Bf Bs Bis Bc wk v hs a s) (J Jx : List Int → World → Prop)
    (hJd : ∀ p W q, J p W → J p (W.drewN q))
    (hY : ∀ pre (x : Int) W, J pre W → pre.length < Z.room a s → YieldAt Fence.wide (n - 1) Try.prog l #[.int .i64 x] W fun e W' =>
      (e = .returned (.bool true) ∧ J (pre ++ [x]) W' ∧ Same S W W') ∨ (e = .returned (.bool false) ∧ Jx (pre ++ [x]) W'))
    (W : World) (hW : Same S W0 W) (h0 : J [] W) :
    CallsIn Fence.wide n Try.prog 45 #[.func (.yield l) #[] #[], .pointer (some ⟨Bf, 0, none⟩), .pointer (some ⟨Bs, 0, none⟩), .pointer (some ⟨Bis, 0, none⟩)] W fun e W' => (∃ v, e = .returned v) ∧
      ((∃ ys, ys = Z.bday (Z.opn wk hs) a s ∧ J ys W') ∨ (∃ p, p <+: Z.bday (Z.opn wk hs) a s ∧ Jx p W')) := by
  have hcf := (hD W hW).bf.cell 0
  refine callsIn_of_wp Try.func45 rfl trivial ?_ rfl
  simp only [Try.ntmps45, List.size_toArray, List.length_cons, List.length_nil, Nat.reduceAdd, Nat.reduceSub, Array.replicate_succ, Array.replicate_zero, List.push_toArray, List.append_toArray, List.nil_append, List.cons_append]
  have hsb : -1 ≤ s ∧ s ≤ 1 := by omega
  gi_wp2
  gi_loopw [5] (fun iv wr => ∃ (k : Nat) (d : Int), iv = .int .i64 d ∧ Hid (d = Z.dk a s k) ∧ k ≤ Z.room a s ∧ J (Z.pre (Z.opn wk hs) a s k) wr ∧ Same S W0 wr) (fun iv _ => if s = 1 then (100000 - intOf iv).toNat else (intOf iv + 1).toNat)
  case atStart => exact ⟨0, a, rfl, Lib.hid (by simp [Z.dk]), Nat.zero_le _, h0, hW⟩
  case round =>
    obtain ⟨k, d, rfl, HD, hkr, hJs, hS⟩ := hrel
    have hF := dk_facts (k := k) hss h1 h2 hkr
    have HE := Lib.hid HD.out
    rw [← HD.out] at hF
    obtain ⟨⟨hd0, hd1⟩, hin, hnx⟩ := hF
    have D := hD wr hS
    have hcs := D.bs.cell 0
    have hcis := D.bis.cell 0
    unfold isV at hcis
    have HN := Lib.hid hnx.symm
    clear hnx
    by_cases hlt : k < Z.room a s
    · rw [decide_eq_true hlt] at hin
      have hdr : 0 ≤ d ∧ d ≤ 99999 := by unfold Z.inR at hin; simpa using hin
      have HI := Lib.hid hin
      have hm : ∀ x : Int, x = d + s → (if s = 1 then (100000 - x).toNat else (x + 1).toNat) < (if s = 1 then (100000 - d).toNat else (d + 1).toNat) := by
        rintro x rfl
        rcases hss with rfl | rfl
        · simp; omega
        · simp; omega
      have HM := Lib.hid hm
      clear hin hm
      gi_wp2_with fail
      refine ⟨trivial, (callsIn_wide.2 (cinside_any _ _)).mono ?_⟩
      rintro e w2 ⟨rfl, rfl⟩
      rw [HI.out]
      gi_wp2_with fail
      refine ⟨trivial, (callsIn_wide.2 (open1_any wk v hs d Bc _ D.bc D.si hk hk0 hdr.1 hdr.2)).mono ?_⟩
      rintro e w2 ⟨rfl, q, rfl⟩
      cases hP : Z.opn wk hs d
      · have HP := Lib.hid hP
        clear hP
        gi_wp2_with fail
        refine ⟨fun _ h => (by cases h), ?_⟩
        gi_wp2_with fail
        go_roundw
        case rel => exact ⟨k + 1, d + s, rfl, HN, by omega, by rw [Z.pre_no (by rw [← HD.out]; exact HP.out)]; exact hJd _ _ _ hJs, hS⟩
        case measure => simp only [intOf]; exact HM.out _ rfl
      · have HP := Lib.hid hP
        clear hP
        have hle := pre_len (Z.opn wk hs) a s k
        obtain ⟨fn, tmps, assign, body, hy, hR⟩ := hY _ d (wr.drewN q) (hJd _ _ q hJs) (by omega)
        gi_wp2_with fail
        refine hR.mono ?_
        rintro e W3 (⟨rfl, hJ3, hk3⟩ | ⟨rfl, hJx3⟩)
        · have D3 := hD W3 (hS.trans hk3)
          have hcs3 := D3.bs.cell 0
          gi_wp2_with fail
          go_roundw
          case rel => exact ⟨k + 1, d + s, rfl, HN, by omega, by rw [Z.pre_yes (by rw [← HD.out]; exact HP.out), ← HD.out]; exact hJ3, hS.trans hk3⟩
          case measure => simp only [intOf]; exact HM.out _ rfl
        · gi_wp2_with fail
          refine bodyPost_ret (results_none rfl _ _ _) rfl ?_
          refine ⟨⟨_, rfl⟩, .inr ⟨_, ?_, hJx3⟩⟩
          have e1 : Z.pre (Z.opn wk hs) a s (k + 1) = Z.pre (Z.opn wk hs) a s k ++ [d] := by rw [Z.pre_yes (by rw [← HD.out]; exact HP.out), ← HD.out]
          rw [← e1]
          exact Z.pre_prefix _ _ (by omega)
    · rw [decide_eq_false hlt] at hin
      have HI := Lib.hid hin
      clear hin
      obtain rfl : k = Z.room a s := by omega
      gi_wp2_with fail
      refine ⟨trivial, (callsIn_wide.2 (cinside_any _ _)).mono ?_⟩
      rintro e w2 ⟨rfl, rfl⟩
      rw [HI.out]
      gi_wp2_with fail
      go_end0
      exact ⟨⟨_, rfl⟩, .inl ⟨_, rfl, hJs⟩⟩
end Go.Proofs.Ytmbbpimihnojeaa
