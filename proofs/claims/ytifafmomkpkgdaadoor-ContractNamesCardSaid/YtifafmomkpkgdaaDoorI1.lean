/- I1: Ichk Irng Imag Iadd Isub Imul -/
import Derived.Test.YtifafmomkpkgdaaDoorProg
import Derived.Test.YtifafmomkpkgdaaDoorZi
import Derived.Test.YtifafmomkpkgdaaDoorMi
import Derived.WalkKit
import Derived.WalkSpells
import Derived.WalkLawsBesides
import Derived.Deep.DeepCutAuto
import Derived.Deep.QuietTactic
import Derived.BigQuiet
import Derived.Lib.Strings
import Derived.Lib.Hide
import Derived.RangeFuncNested
import Derived.RangeFuncBound
import Derived.RangeFuncCalls
import Derived.RangeFuncLeaves
import Derived.Shelf.Abstract
import Derived.Shelf.RegionOpen
import Derived.OwnWalkIn
import Derived.TacticsInMore
import Derived.LoopNIn
import Derived.LoopIn
/- Walks: integer.Check. -/

namespace Go.Proofs.YtifafmomkpkgdaaDoor
open Go.RowKit

namespace Z
theorem head_of (s : ByteArray) (h : 0 < s.size) : s.data.toList.head? = some s[0] := by
  rw [List.head?_eq_getElem?]
  simp only [Array.getElem?_toList]
  rw [Array.getElem?_eq_getElem (by simpa using h)]
  rfl
theorem at_of (s : ByteArray) (k : Nat) (h : k < s.size) : s.data.toList[k]? = some s[k] := by
  simp only [Array.getElem?_toList]
  rw [Array.getElem?_eq_getElem (by simpa using h)]
  rfl
theorem neg_of (s : ByteArray) (h : 0 < s.size) : isNeg s.data.toList = ((s[0].toNat : Int) == 45) := by
  unfold isNeg
  rw [head_of s h, Bool.eq_iff_iff]
  simp [← UInt8.toNat_inj]
  omega
theorem mags_neg {s : ByteArray} (h : isNeg s.data.toList = true) : mags s.data.toList = (s.extract 1 s.size).data.toList := by
  unfold mags
  rw [if_pos h, Lib.extract_data]
  rw [List.take_of_length_le (by rw [List.length_drop, ← Lib.size_eq]; omega), List.drop_one]
theorem mags_pos {s : ByteArray} (h : isNeg s.data.toList = false) : mags s.data.toList = s.data.toList := by
  unfold mags
  rw [if_neg (by simp [h])]
theorem empty_of {t : ByteArray} (h : ¬ 0 < t.size) : t.data.toList = [] := by
  apply List.eq_nil_of_length_eq_zero
  rw [← Lib.size_eq]; omega
theorem dig_of (c : UInt8) : isDig c = (!decide ((c.toNat : Int) < 48) && !decide ((57 : Int) < (c.toNat : Int))) := by
  unfold isDig
  rw [Bool.eq_iff_iff]; simp; omega
end Z

theorem nonempty_of {t : ByteArray} (h : 0 < t.size) : t.toList.isEmpty = false := by
  rw [Lib.toList_data]
  cases e : t.data.toList with
  | nil => rw [Lib.size_eq, e] at h; simp at h
  | cons => rfl
theorem isempty_of {t : ByteArray} (h : ¬ 0 < t.size) : t.toList.isEmpty = true := by
  rw [Lib.toList_data, Z.empty_of h]; rfl
def lead (t : ByteArray) (h : 0 < t.size) : Bool := ((t[0].toNat : Int) == 48) && decide (1 < (t.size : Int))
def ChkTail (s t : ByteArray) : Prop := Z.mags s.data.toList = t.data.toList ∧ (Z.isNeg s.data.toList = true → t.data.toList.head? = some 48 → 1 < t.size)

namespace Z
theorem minus_zero_of {s : ByteArray} (h0 : 0 < s.size) (hn : ((s[0].toNat : Int) == 45) = true) (h : ((s.extract 1 s.size).toList == [48]) = true) : chk s.data.toList = 12 := by
  have hn' : isNeg s.data.toList = true := by rw [neg_of s h0, hn]
  refine chk_minus_zero hn' ?_
  rw [mags_neg hn', ← Lib.toList_data, eq_of_beq h]
  rfl
theorem tail_neg {s : ByteArray} (h0 : 0 < s.size) (hn : ((s[0].toNat : Int) == 45) = true) (h : ((s.extract 1 s.size).toList == [48]) = false) : ChkTail s (s.extract 1 s.size) := by
  have hn' : isNeg s.data.toList = true := by rw [neg_of s h0, hn]
  refine ⟨mags_neg hn', fun _ hh => ?_⟩
  rcases Nat.lt_or_ge 1 (s.extract 1 s.size).size with h1 | h1
  · exact h1
  · exfalso
    rw [Lib.toList_data] at h
    have hl : (s.extract 1 s.size).data.toList.length ≤ 1 := by rw [← Lib.size_eq]; exact h1
    cases e : (s.extract 1 s.size).data.toList with
    | nil => rw [e] at hh; simp at hh
    | cons c r =>
      rw [e] at hh hl h
      have : r = [] := List.eq_nil_of_length_eq_zero (by simpa using hl)
      subst this
      simp at hh
      subst hh
      simp at h
theorem tail_pos {s : ByteArray} (h0 : 0 < s.size) (hn : ((s[0].toNat : Int) == 45) = false) : ChkTail s s := by
  have hn' : isNeg s.data.toList = false := by rw [neg_of s h0, hn]
  exact ⟨mags_pos hn', fun h => by rw [hn'] at h; cases h⟩
theorem lead_yes {s t : ByteArray} (hT : ChkTail s t) (ht : 0 < t.size) (h : lead t ht = true) : chk s.data.toList = 12 := by
  unfold lead at h
  simp at h
  refine chk_lead ?_ ?_
  · rw [hT.1, head_of t ht]
    congr 1
    apply UInt8.toNat_inj.1
    show t[0].toNat = 48
    omega
  · rw [hT.1, ← Lib.size_eq]; have := h.2; omega
theorem bad_of {s t : ByteArray} (hT : ChkTail s t) {k : Nat} (hk : k < t.size) (h : (t[k].toNat : Int) < 48 ∨ (57 : Int) < t[k].toNat) : chk s.data.toList = 12 := by
  refine chk_bad (k := k) (c := t[k]) (by rw [hT.1, at_of t k hk]) ?_
  unfold isDig
  rw [Bool.and_eq_false_iff]
  simp
  omega
theorem canon_of {s t : ByteArray} (hT : ChkTail s t) (ht : 0 < t.size) (hl : lead t ht = false) (hd : ∀ j, j < t.size → ∀ (h : j < t.size), isDig t[j] = true) : canon s.data.toList = true := by
  refine canon_mk ?_ ?_ ?_
  · rw [hT.1]
    intro e
    rw [Lib.size_eq, e] at ht; simp at ht
  · rw [hT.1]
    refine all_of fun k c hk => ?_
    have hlt : k < t.size := by
      rw [Lib.size_eq]; exact (List.getElem?_eq_some_iff.1 hk).1
    rw [at_of t k hlt] at hk
    injection hk with hk
    rw [← hk]; exact hd k hlt hlt
  · rw [hT.1]
    intro hh
    have h1 : ¬ 1 < t.size := by
      intro h1
      unfold lead at hl
      rw [head_of t ht] at hh
      injection hh with hh
      rw [hh] at hl
      simp at hl
      omega
    refine ⟨by rw [← Lib.size_eq]; omega, ?_⟩
    cases hn : isNeg s.data.toList
    · rfl
    · exact absurd (hT.2 hn hh) h1
end Z

set_option maxHeartbeats 400000 in
theorem check_any (s : ByteArray) (w : World) (hs : s.size ≤ maxLen) :
    Calls Tryd.prog 88 #[.string s] w fun e w' => e = .returned (.int .i64 (Z.chk s.data.toList)) ∧ w = w' := by
  unfold maxLen at hs
  by_cases h0 : 0 < s.size
  · go_enter Tryd.func88, Tryd.ntmps88
    go_upto_if 13 with fail
    go_cut [3] (fun v wx => ∃ t : ByteArray, v = .string t ∧ t.size ≤ s.size ∧ ChkTail s t ∧ w = wx)
    case first =>
      go_wp2_with fail
      · go_ret
        exact ⟨ret_int (Z.minus_zero_of h0 (by assumption) (by assumption)).symm, rfl⟩
      · go_meet
        exact ⟨_, rfl, by simp, Z.tail_neg h0 (by assumption) (by assumption), rfl⟩
      · go_meet
        exact ⟨_, rfl, by omega, Z.tail_pos h0 (by assumption), rfl⟩
    case rest =>
      obtain ⟨t, rfl, htl, hT, rfl⟩ := hcut
      by_cases ht : 0 < t.size
      · have hte := nonempty_of ht
        go_upto_region 6 with fail
        go_cut [29] (fun v wx => v = .bool (lead t ht) ∧ w = wx)
        case first =>
          go_wp2_with fail
          · go_meet
            exact ⟨by simp [lead, *], rfl⟩
          · go_meet
            exact ⟨by simp [lead, *], rfl⟩
        case rest =>
          obtain ⟨rfl, rfl⟩ := hcut
          cases hl : lead t ht
          · have HL := Lib.hid hl
            clear hl
            go_wp2_with fail
            go_loop [32] (fun i => ∃ k : Nat, k ≤ t.size ∧ i = .int .i64 k ∧ ∀ j, j < k → ∀ (h : j < t.size), Z.isDig t[j] = true) (fun i => t.size - (intOf i).toNat)
            case atStart => exact ⟨0, by omega, rfl, by omega⟩
            case round =>
              obtain ⟨k, hk, rfl, hd⟩ := hrel
              have HD := Lib.hid hd
              clear hd
              by_cases hlt : k < t.size
              · go_wp2_with fail
                · go_ret
                  exact ⟨ret_int (Z.bad_of hT hlt (by assumption)).symm, rfl⟩
                · go_round
                  case rel =>
                    have h1 : (48 : Int) ≤ t[k].toNat ∧ (t[k].toNat : Int) ≤ 57 := by assumption
                    refine ⟨k + 1, by omega, by go_num, fun j hj h => ?_⟩
                    by_cases e : j = k
                    · subst e
                      simp [Z.isDig]; omega
                    · exact HD.out j (by omega) h
                  case measure => simp [intOf]; omega
                · go_ret
                  exact ⟨ret_int (Z.bad_of hT hlt (.inl (by assumption))).symm, rfl⟩
              · obtain rfl : k = t.size := by omega
                go_wp2_with fail
                · go_ret
                  have h1 : (1000 : Int) < t.size := by assumption
                  exact ⟨ret_int (Z.chk_big (Z.canon_of hT ht HL.out HD.out) (by rw [hT.1, ← Lib.size_eq]; omega)).symm, rfl⟩
                · go_ret
                  have h1 : (t.size : Int) ≤ 1000 := by assumption
                  exact ⟨ret_int (Z.chk_ok (Z.canon_of hT ht HL.out HD.out) (by rw [hT.1, ← Lib.size_eq]; omega)).symm, rfl⟩
          · go_wp2_with fail
            go_ret
            exact ⟨ret_int (Z.lead_yes hT ht hl).symm, rfl⟩
      · have hte := isempty_of ht
        go_wp2_with fail
        go_ret
        exact ⟨ret_int (Z.chk_empty (by rw [hT.1, Z.empty_of ht])).symm, rfl⟩
  · have hte := isempty_of h0
    go_enter Tryd.func88, Tryd.ntmps88
    go_wp2_with fail
    go_ret
    exact ⟨ret_int (Z.chk_empty (by rw [Z.empty_of h0]; rfl)).symm, rfl⟩
end Go.Proofs.YtifafmomkpkgdaaDoor
/- Walks: integer.groups (an iterator). -/

namespace Go.Proofs.YtifafmomkpkgdaaDoor
open Go.RowKit Go.Shelf
attribute [local go_sem] Oper.semAt_some

/-- What has come when k rounds are over. -/
def upto {α : Type} (f : Nat → α) (k : Nat) : List α := (List.range k).map f
theorem upto_succ {α : Type} (f : Nat → α) (k : Nat) : upto f (k + 1) = upto f k ++ [f k] := by simp [upto, List.range_succ]
theorem upto_length {α : Type} (f : Nat → α) (k : Nat) : (upto f k).length = k := by simp [upto]
/-- These blocks are as they were. -/
def Same (S : Nat → Prop) (A B : World) : Prop := ∀ k, S k → B.heap[k]? = A.heap[k]?
theorem Same.refl (S : Nat → Prop) (A : World) : Same S A A := fun _ _ => rfl
theorem Same.trans {S : Nat → Prop} {A B C : World} (h : Same S A B) (k : Same S B C) : Same S A C := fun j hj => (k j hj).trans (h j hj)
theorem Same.put {S : Nat → Prop} {n : Nat} (hS : ∀ k, S k → k < n) (W : World) (l : Nat) (o o' : Obj) (hl : n ≤ l) (_ : W.heap[l]? = some o) (_ : o.isCells = false) (_ : o.isWalk = false) : Same S W (W.putObj l o') :=
  fun k hk => World.putObj_heap_other (fun e => by have := hS k hk; omega)
theorem Same.below {S : Nat → Prop} {n : Nat} {A B : World} (hS : ∀ k, S k → k < n) (h : Below n A B) : Same S A B := fun k hk => h.block k (hS k hk)
/-- A group of digits. -/
abbrev Grp := { x : ByteArray // x.size ≤ 9 ∧ ∀ k, (h : k < x.size) → Z.isDig x[k] = true }

set_option maxRecDepth 100000 in
set_option maxHeartbeats 1000000 in
theorem groups1_in (F : Fence) (n : Nat) (hf : F.fn 139) (hro : F.round = none) (hn : 1 ≤ n) (l Bs : Nat) (s : ByteArray) (hs : s.size ≤ 1000000) (f : Nat → Grp)
    (hfv : ∀ k : Nat, 9 * k < s.size → (f k).1 = s.extract (s.size - 9 * k - 9) (s.size - 9 * k)) (J Jx : List Grp → World → Prop)
    (hY : ∀ pre (x : Grp) W, J pre W → pre.length < (s.size + 8) / 9 → YieldAt F (n - 1) Tryd.prog l #[.string x.1] W fun e W' =>
      (e = .returned (.bool true) ∧ J (pre ++ [x]) W' ∧ Same (· = Bs) W W') ∨ (e = .returned (.bool false) ∧ Jx (pre ++ [x]) W'))
    (W : World) (hBs : Blk W Bs 9 #[.string s]) (h0 : J [] W) :
    CallsIn F n Tryd.prog 139 #[.func (.yield l) #[] #[], .pointer (some ⟨Bs, 0, none⟩)] W fun e W' => (∃ v, e = .returned v) ∧
      ((∃ ys, ys = upto f ((s.size + 8) / 9) ∧ J ys W') ∨ (∃ pre, True ∧ Jx pre W')) := by
  have hc0 := hBs.cell 0
  refine callsIn_of_wp Tryd.func139 rfl hf ?_ hro
  simp only [Tryd.ntmps139, List.size_toArray, List.length_cons, List.length_nil, Nat.reduceAdd, Nat.reduceSub, Array.replicate_succ, Array.replicate_zero, List.push_toArray, List.append_toArray, List.nil_append, List.cons_append]
  gi_wp2
  gi_loopw [3] (fun iv wr => ∃ k : Nat, 9 * k < s.size + 9 ∧ iv = .int .i64 ((s.size : Int) - 9 * k) ∧ J (upto f k) wr ∧ Same (· = Bs) W wr) (fun iv _ => (intOf iv).toNat)
  case atStart => exact ⟨0, by omega, by simp, h0, Same.refl _ _⟩
  case round =>
    obtain ⟨k, hk, rfl, hJs, hS⟩ := hrel
    have hcx : wr.cell? ⟨Bs, 0, none⟩ = some (.string s) := (show Blk wr Bs _ _ from (hS Bs rfl).trans hBs).cell 0
    by_cases hlt : 9 * k < s.size
    · obtain ⟨fn, tmps, assign, body, hy, hR⟩ := hY _ (f k) wr hJs (by rw [upto_length]; omega)
      rw [hfv k hlt] at hy
      by_cases h9 : s.size - 9 * k ≤ 9
      · have e : s.size - 9 * k - 9 = 0 := by omega
        rw [e] at hy
        gi_wp2
        refine hR.mono ?_
        rintro e W3 (⟨rfl, hJ3, hk3⟩ | ⟨rfl, hJx3⟩)
        · gi_wp2
          go_roundw
          case rel => exact ⟨k + 1, by omega, ret_v (by omega), by rw [upto_succ]; exact hJ3, hS.trans hk3⟩
          case measure => simp [intOf]; omega
        · gi_wp2
          refine bodyPost_ret (results_none rfl _ _ _) rfl ?_
          exact ⟨⟨_, rfl⟩, .inr ⟨_, trivial, hJx3⟩⟩
      · have e : s.size - 9 * k - 9 = ((s.size : Int) - 9 * k - 9).toNat := by omega
        rw [e] at hy
        gi_wp2
        refine hR.mono ?_
        rintro e W3 (⟨rfl, hJ3, hk3⟩ | ⟨rfl, hJx3⟩)
        · gi_wp2
          go_roundw
          case rel => exact ⟨k + 1, by omega, ret_v (by omega), by rw [upto_succ]; exact hJ3, hS.trans hk3⟩
          case measure => simp [intOf]; omega
        · gi_wp2
          refine bodyPost_ret (results_none rfl _ _ _) rfl ?_
          exact ⟨⟨_, rfl⟩, .inr ⟨_, trivial, hJx3⟩⟩
    · have hK : k = (s.size + 8) / 9 := by omega
      gi_wp2
      go_end0
      exact ⟨⟨_, rfl⟩, .inl ⟨_, by rw [hK], hJs⟩⟩

set_option maxHeartbeats 1000000 in
theorem groups_in (F : Fence) (n : Nat) (hf : F.fn 131) (hro : F.round = none) (s : ByteArray) (w : World) :
    CallsIn F n Tryd.prog 131 #[.string s] w fun e w' => e = .returned (.func (.func 139) #[] #[.pointer (some ⟨w.heap.size, 0, none⟩)]) ∧ w' = w.alloc (.cells #[.string s] 9) := by
  refine callsIn_of_wp Tryd.func131 rfl hf ?_ hro
  simp only [Tryd.ntmps131, List.size_toArray, List.length_cons, List.length_nil, Nat.reduceAdd, Nat.reduceSub, Array.replicate_succ, Array.replicate_zero, List.push_toArray, List.append_toArray, List.nil_append, List.cons_append]
  gi_wp2
  go_ret
  exact ⟨rfl, rfl⟩
theorem groups_stops (F : Fence) (n : Nat) (hf : F.fn 139) (hro : F.round = none) (hn : 1 ≤ n) (Bs : Nat) (s : ByteArray) (hs : s.size ≤ 1000000) (f : Nat → Grp)
    (hfv : ∀ k : Nat, 9 * k < s.size → (f k).1 = s.extract (s.size - 9 * k - 9) (s.size - 9 * k)) (w : World) (hBs : Blk w Bs 9 #[.string s]) :
    SeqStopsK F n Tryd.prog 139 #[.pointer (some ⟨Bs, 0, none⟩)] (fun x : Grp => #[Value.string x.1]) (Same (· = Bs)) (fun ys => ys = upto f ((s.size + 8) / 9)) (fun _ => True) ((s.size + 8) / 9) w := fun l J Jx W hW _ _ hY h0 =>
  groups1_in F n hf hro hn l Bs s hs f hfv J Jx hY W (hBs.below hW) h0
end Go.Proofs.YtifafmomkpkgdaaDoor
/- Walks: magnitudes: trim, compare. -/

namespace Go.Proofs.YtifafmomkpkgdaaDoor
open Go.RowKit

theorem ret_slice {A A' : Option Addr} {n n' c c' : Nat} (h : n = n') (ha : A = A') (hc : c = c') : Ending.returned (.slice A n c) = .returned (.slice A' n' c') := by rw [h, ha, hc]

/-- What trim returns: the same slice, shorter: the digits of the number. -/
def TrimRet (w : World) (A : Option Addr) (c : Nat) (ms : List Nat) (e : Ending) (w' : World) : Prop :=
  ∃ k, k ≤ ms.length ∧ e = .returned (.slice A k c) ∧ (∀ b, 2 ≤ b → (∀ d ∈ ms, d < b) → ms.take k = Z.dg b (Z.ofDg b ms)) ∧ w = w'
def lenOf : Value → Nat | .slice _ k _ => k | _ => 0

set_option maxHeartbeats 400000 in
theorem trim_any (A : Option Addr) (c : Nat) (ms : List Nat) (w : World) (hS : SN .u32 w (.slice A ms.length c) ms) (hl : ms.length ≤ 1000000000) :
    Calls Tryd.prog 120 #[.slice A ms.length c] w (TrimRet w A c ms) := by
  obtain ⟨A', c', hv, hc, hm, hcell⟩ := hS
  simp only [Value.slice.injEq, true_and] at hv
  obtain ⟨rfl, rfl⟩ := hv
  go_enter Tryd.func120, Tryd.ntmps120
  go_wp2_with fail
  go_loop [0] (fun v => ∃ k : Nat, k ≤ ms.length ∧ v = .slice A k c ∧ ∀ i, k ≤ i → i < ms.length → ms[i]? = some 0) (fun v => lenOf v)
  case atStart => exact ⟨_, Nat.le_refl _, rfl, fun i h1 h2 => by omega⟩
  case round =>
    obtain ⟨k, hk, rfl, ht⟩ := hrel
    have HT := Lib.hid ht
    clear ht
    by_cases h0 : 0 < k
    · obtain ⟨b, o, rfl, hb, hcl⟩ := hcell (by omega)
      obtain ⟨d, hd⟩ : ∃ d, ms[k - 1]? = some d := ⟨_, List.getElem?_eq_getElem (by omega)⟩
      have hc0 := hcl _ _ hd
      have HD := Lib.hid hd
      clear hcl hd
      go_wp2_with fail
      · go_round
        case rel =>
          have h1 : ((d : Int) == 0) = true := by assumption
          have h2 : d = 0 := by simpa using h1
          refine ⟨k - 1, by omega, rfl, fun i hi hlt => ?_⟩
          by_cases e : i = k - 1
          · subst e; rw [HD.out, h2]
          · exact HT.out i (by omega) hlt
        case measure => simp [lenOf]; omega
      · go_ret
        have h1 : ((d : Int) == 0) = false := by assumption
        have h2 : d ≠ 0 := by simpa using h1
        exact ⟨k, hk, ret_slice rfl rfl rfl, fun b hb hlt => Z.trim_is b hb ms hlt k hk HT.out (.inr (by rw [HD.out]; simpa using h2)), rfl⟩
    · obtain rfl : k = 0 := by omega
      go_wp2_with fail
      go_ret
      exact ⟨0, hk, ret_slice rfl rfl rfl, fun b hb hlt => Z.trim_is b hb ms hlt 0 hk HT.out (.inl rfl), rfl⟩

theorem drew3 (w : World) (a b c : Nat) : ∃ m, ((w.drewN a).drewN b).drewN c = w.drewN m := ⟨a + b + c, by simp only [World.drewN_drewN]⟩
def CmpRet (w : World) (c : Int) (e : Ending) (w' : World) : Prop := e = .returned (.int .i64 c) ∧ ∃ n, w' = w.drewN n

set_option maxHeartbeats 400000 in
theorem compare_any (v u : Value) (b : Nat) (hb2 : 2 ≤ b) (xs ys : List Nat) (w : World) (hS : SN .u32 w v xs) (hT : SN .u32 w u ys) (hx : Z.Can b xs) (hy : Z.Can b ys)
    (hl : xs.length ≤ 1000000000) (hl' : ys.length ≤ 1000000000) :
    Calls Tryd.prog 118 #[v, u] w (CmpRet w (Z.cmp (Z.ofDg b xs) (Z.ofDg b ys))) := by
  obtain ⟨A, c, rfl, hc, hm, hcell⟩ := hS
  obtain ⟨A', c', rfl, hc', hm', hcell'⟩ := hT
  by_cases hlen : xs.length = ys.length
  · have hne : ((xs.length : Int) != ys.length) = false := by simp [hlen]
    have HL := Lib.hid hlen
    have hle : xs.length ≤ ys.length := by omega
    have hge : ys.length ≤ xs.length := by omega
    clear hlen
    go_enter Tryd.func118, Tryd.ntmps118
    go_wp2_with fail
    go_loopw [5] (fun i wr => ∃ k n : Nat, k ≤ xs.length ∧ i = .int .i64 ((k : Int) - 1) ∧ wr = w.drewN n ∧ Hid (Z.ofDg b (xs.drop k) = Z.ofDg b (ys.drop k))) (fun i _ => (intOf i + 1).toNat)
    case atStart => exact ⟨xs.length, 0, Nat.le_refl _, rfl, rfl, by show _ = _; rw [List.drop_of_length_le (Nat.le_refl _), List.drop_of_length_le (by omega)]⟩
    case round =>
      obtain ⟨k, n, hk, rfl, rfl, HV⟩ := hrel
      by_cases h0 : 0 < k
      · obtain ⟨k, rfl⟩ : ∃ j, k = j + 1 := ⟨k - 1, by omega⟩
        obtain ⟨g, o, rfl, hb, hcl⟩ := hcell (by omega)
        obtain ⟨g', o', rfl, hb', hcl'⟩ := hcell' (by omega)
        obtain ⟨d, hd⟩ : ∃ d, xs[k]? = some d := ⟨_, List.getElem?_eq_getElem (by omega)⟩
        obtain ⟨d', hd'⟩ : ∃ d, ys[k]? = some d := ⟨_, List.getElem?_eq_getElem (by omega)⟩
        have hc0 := hcl _ _ hd
        have hc1 := hcl' _ _ hd'
        have HD := Lib.hid hd
        have HD' := Lib.hid hd'
        have hi : ((k + 1 : Nat) : Int) - 1 = (k : Int) := by omega
        have h1 : (k : Int) < xs.length := by omega
        have h2 : (k : Int) < ys.length := by omega
        have h3 : (0 : Int) ≤ (k : Int) := by omega
        rw [hi]
        clear hcl hcl' hd hd' hi
        go_wp2_with fail
        go_quiet (fail)
        go_wp2_with fail
        · have h4 : ((d : Int) != d') = true := by assumption
          have h5 : d ≠ d' := by have := ne_of_bne h4; omega
          go_quiet (fail)
          go_wp2_with fail
          · go_ret
            have h6 : d < d' := by assumption
            refine ⟨ret_int ?_, drew3 _ _ _ _⟩
            rw [Z.cmp_lt (Z.lt_of_digit b (by omega) xs ys hx.1 k HV.out (by rw [Z.dAt_some HD.out, Z.dAt_some HD'.out]; omega))]
          · go_ret
            have h6 : ¬ d < d' := by assumption
            refine ⟨ret_int ?_, drew3 _ _ _ _⟩
            rw [Z.cmp_gt (Z.lt_of_digit b (by omega) ys xs hy.1 k HV.out.symm (by rw [Z.dAt_some HD.out, Z.dAt_some HD'.out]; omega))]
        · have h4 : ((d : Int) != d') = false := by assumption
          have h5 : d = d' := by have := eq_of_bne h4; omega
          go_roundw
          case rel => exact ⟨k, _, by omega, rfl, rfl, Z.eq_step b xs ys k HV.out (by rw [Z.dAt_some HD.out, Z.dAt_some HD'.out, h5])⟩
          case measure => simp [intOf]
      · obtain rfl : k = 0 := by omega
        go_wp2_with fail
        go_ret
        exact ⟨ret_int (Z.cmp_eq (by simpa using HV.out)).symm, _, rfl⟩
  · have hne : ((xs.length : Int) != ys.length) = true := by simp; omega
    go_enter Tryd.func118, Tryd.ntmps118
    go_wp2_with fail
    all_goals
      go_ret
      refine ⟨ret_int ?_, 0, rfl⟩
      rcases Nat.lt_or_ge xs.length ys.length with h | h
      · rw [Z.cmp_lt (Z.lt_of_shorter b hb2 xs ys hx hy h)]
        try omega
      · rw [Z.cmp_gt (Z.lt_of_shorter b hb2 ys xs hy hx (by omega))]
        try omega
end Go.Proofs.YtifafmomkpkgdaaDoor
/- Walks: magnitudes: plus. -/

namespace Go.Proofs.YtifafmomkpkgdaaDoor
open Go.RowKit

theorem elem32 : ElemInt Tryd.prog .u32 103 4 := by unfold ElemInt; kernel_rfl

/-- A new slice of the call's own reads as the digits of a number. -/
def MagRet (w : World) (n : Nat) (e : Ending) (w' : World) : Prop := ∃ v, e = .returned v ∧ Ow .u32 103 w' w.heap.size v (Z.dg 1000000000 n) ∧ Below w.heap.size w w'

def TrimOwn (w : World) (B n : Nat) (e : Ending) (w' : World) : Prop := ∃ v, e = .returned v ∧ Ow .u32 103 w B v (Z.dg 1000000000 n) ∧ w = w'
theorem trim_own (v : Value) (ms : List Nat) (w : World) (B : Nat) (hown : Ow .u32 103 w B v ms) (hb : ∀ d ∈ ms, d < 1000000000) (hl : ms.length ≤ 1000000000) :
    Calls Tryd.prog 120 #[v] w (TrimOwn w B (Z.ofDg 1000000000 ms)) := by
  have hS := hown.sn
  by_cases h0 : 0 < ms.length
  · obtain ⟨g, cap, rfl, _, _, _, _⟩ := hown.form h0
    refine (trim_any _ _ _ _ hS hl).mono ?_
    rintro e w' ⟨k, hk, rfl, ht, rfl⟩
    refine ⟨_, rfl, ?_, rfl⟩
    rw [← ht 1000000000 (by omega) hb]
    exact hown.cut hk
  · have hms : ms = [] := List.eq_nil_of_length_eq_zero (by omega)
    subst hms
    rcases hown.2 with ⟨rfl, _⟩ | ⟨g, cap, cur, rfl, h⟩
    · refine (trim_any _ _ [] _ hS hl).mono ?_
      rintro e w' ⟨k, hk, rfl, ht, rfl⟩
      obtain rfl : k = 0 := by simpa using hk
      exact ⟨_, rfl, Ow.nil_ _, rfl⟩
    · refine (trim_any _ _ [] _ hS hl).mono ?_
      rintro e w' ⟨k, hk, rfl, ht, rfl⟩
      obtain rfl : k = 0 := by simpa using hk
      exact ⟨_, rfl, hown, rfl⟩

end Go.Proofs.YtifafmomkpkgdaaDoor
/- Walks: magnitudes: minus. -/

namespace Go.Proofs.YtifafmomkpkgdaaDoor
open Go.RowKit

theorem Z.mem_snoc {P : Nat → Prop} {os : List Nat} {d : Nat} (h : ∀ x ∈ os, P x) (hd : P d) : ∀ x ∈ os ++ [d], P x := by
  intro x hx
  rcases List.mem_append.1 hx with hx | hx
  · exact h x hx
  · have : x = d := by simpa using hx
    rw [this]; exact hd

set_option maxHeartbeats 400000 in
theorem minus_any (v u : Value) (xs ys : List Nat) (w : World) (hS : SN .u32 w v xs) (hT : SN .u32 w u ys) (hx : Z.Can 1000000000 xs) (hy : Z.Can 1000000000 ys)
    (hl : xs.length ≤ 100000000) (hge : Z.ofDg 1000000000 ys ≤ Z.ofDg 1000000000 xs) :
    Calls Tryd.prog 123 #[v, u] w (MagRet w (Z.ofDg 1000000000 xs - Z.ofDg 1000000000 ys)) := by
  have hle : ys.length ≤ xs.length := by
    rcases Nat.lt_or_ge xs.length ys.length with h | h
    · have := Z.lt_of_shorter 1000000000 (by omega) xs ys hx hy h
      omega
    · exact h
  have HG := Lib.hid hge
  clear hge
  obtain ⟨A, c, rfl, hc, hm, hcell⟩ := hS
  obtain ⟨A', c', rfl, hc', hm', hcell'⟩ := hT
  go_enter Tryd.func123, Tryd.ntmps123
  go_wp2_with (at_make; refine mk0 rfl _ _ _ rfl elem32 Tryd.underlying109 (by omega) w w.heap.size _ xs.length rfl rfl (by omega) (by omega) (Nat.le_refl _) ?_; intro w1 hown1 hb1 hs1)
  go_loopw [5, 6, 15] (fun out ca i wr => ∃ (k cy : Nat) (os : List Nat), k ≤ xs.length ∧ i = .int .i64 k ∧ ca = .int .u32 cy ∧ cy ≤ 1 ∧ Ow .u32 103 wr w.heap.size out os ∧ Below w.heap.size w wr ∧
      Hid (os.length = k ∧ (∀ d ∈ os, d < 1000000000) ∧ Z.ofDg 1000000000 os + Z.ofDg 1000000000 (ys.take k) = Z.ofDg 1000000000 (xs.take k) + 1000000000 ^ k * cy)) (fun _ _ i _ => xs.length - (intOf i).toNat)
  case atStart => exact ⟨0, 0, [], by omega, rfl, rfl, by omega, hown1, hb1, ⟨rfl, by simp, by simp [Z.ofDg]⟩⟩
  case round =>
    obtain ⟨k, cy, os, hk, rfl, rfl, hcy, hown, hb, HI⟩ := hrel
    clear hown1 hb1
    have hos : os.length ≤ k := by rw [HI.out.1]; omega
    by_cases hlt : k < xs.length
    · obtain ⟨g, o, rfl, hg, hcl⟩ := hcell (by omega)
      obtain ⟨d, hd⟩ : ∃ d, xs[k]? = some d := ⟨_, List.getElem?_eq_getElem (by omega)⟩
      have hr0 : wr.cell? ⟨g, o + k, none⟩ = some (.int .u32 (d : Int)) := (hb.cell (p := ⟨g, o + k, none⟩) hg).trans (hcl _ _ hd)
      have hd1 : d < 1000000000 := hx.1 d (List.mem_of_getElem? hd)
      have HD := Lib.hid hd
      clear hcl hd hcell
      by_cases hlt' : k < ys.length
      · obtain ⟨g', o', rfl, hg', hcl'⟩ := hcell' (by omega)
        obtain ⟨d', hd'⟩ : ∃ d, ys[k]? = some d := ⟨_, List.getElem?_eq_getElem (by omega)⟩
        have hr1 : wr.cell? ⟨g', o' + k, none⟩ = some (.int .u32 (d' : Int)) := (hb.cell (p := ⟨g', o' + k, none⟩) hg').trans (hcl' _ _ hd')
        have hd1' : d' < 1000000000 := hy.1 d' (List.mem_of_getElem? hd')
        have HD' := Lib.hid hd'
        clear hcl' hd' hcell'
        by_cases hlow : d < cy + d'
        · go_wp2_with (at_builtin; refine app1 rfl _ _ _ rfl elem32 Tryd.underlying109 (by omega) wr w.heap.size u5 os _ (d + 1000000000 - (cy + d')) (by omega) rfl hown rfl (by omega) hb.size ?_; intro v2 w2 hown2 hb2 hs2)
          go_roundw
          case rel =>
            exact ⟨k + 1, 1, _, by omega, by go_num, rfl, by omega, hown2, hb.trans hb2, by simp [HI.out.1], Z.mem_snoc HI.out.2.1 (by omega),
              Z.minus_step 1000000000 xs ys os k cy _ 1 HI.out.1 HI.out.2.2 (by rw [Z.dAt_some HD.out, Z.dAt_some HD'.out]; omega)⟩
          case measure => simp [intOf]; omega
        · go_wp2_with (at_builtin; refine app1 rfl _ _ _ rfl elem32 Tryd.underlying109 (by omega) wr w.heap.size u5 os _ (d - (cy + d')) (by omega) rfl hown rfl (by omega) hb.size ?_; intro v2 w2 hown2 hb2 hs2)
          go_roundw
          case rel =>
            exact ⟨k + 1, 0, _, by omega, by go_num, rfl, by omega, hown2, hb.trans hb2, by simp [HI.out.1], Z.mem_snoc HI.out.2.1 (by omega),
              Z.minus_step 1000000000 xs ys os k cy _ 0 HI.out.1 HI.out.2.2 (by rw [Z.dAt_some HD.out, Z.dAt_some HD'.out]; omega)⟩
          case measure => simp [intOf]; omega
      · have HD' : Hid (Z.dAt ys k = 0) := Z.dAt_none (by omega)
        by_cases hlow : d < cy
        · go_wp2_with (at_builtin; refine app1 rfl _ _ _ rfl elem32 Tryd.underlying109 (by omega) wr w.heap.size u5 os _ (d + 1000000000 - cy) (by omega) rfl hown rfl (by omega) hb.size ?_; intro v2 w2 hown2 hb2 hs2)
          go_roundw
          case rel =>
            exact ⟨k + 1, 1, _, by omega, by go_num, rfl, by omega, hown2, hb.trans hb2, by simp [HI.out.1], Z.mem_snoc HI.out.2.1 (by omega),
              Z.minus_step 1000000000 xs ys os k cy _ 1 HI.out.1 HI.out.2.2 (by rw [Z.dAt_some HD.out, HD'.out]; omega)⟩
          case measure => simp [intOf]; omega
        · go_wp2_with (at_builtin; refine app1 rfl _ _ _ rfl elem32 Tryd.underlying109 (by omega) wr w.heap.size u5 os _ (d - cy) (by omega) rfl hown rfl (by omega) hb.size ?_; intro v2 w2 hown2 hb2 hs2)
          go_roundw
          case rel =>
            exact ⟨k + 1, 0, _, by omega, by go_num, rfl, by omega, hown2, hb.trans hb2, by simp [HI.out.1], Z.mem_snoc HI.out.2.1 (by omega),
              Z.minus_step 1000000000 xs ys os k cy _ 0 HI.out.1 HI.out.2.2 (by rw [Z.dAt_some HD.out, HD'.out]; omega)⟩
          case measure => simp [intOf]; omega
    · obtain rfl : k = xs.length := by omega
      go_wp2_with fail
      refine (trim_own _ _ _ _ hown HI.out.2.1 (by omega)).mono ?_
      rintro e w3 ⟨v3, rfl, hown3, rfl⟩
      go_wp2_with fail
      go_ret
      refine ⟨v3, rfl, ?_, hb⟩
      rw [← Z.minus_end 1000000000 (by omega) xs ys os cy HI.out.2.1 HI.out.1 HG.out hle HI.out.2.2]
      exact hown3
end Go.Proofs.YtifafmomkpkgdaaDoor
/- Walks: magnitudes: times. -/

namespace Go.Proofs.YtifafmomkpkgdaaDoor
open Go.RowKit

theorem mul_bound (a b : Nat) (ha : a < 1000000000) (hb : b < 1000000000) : (a : Int) * (b : Int) ≤ 999999998000000001 := by
  have h : a * b ≤ 999999999 * 999999999 := Nat.mul_le_mul (by omega) (by omega)
  have e : ((a * b : Nat) : Int) = (a : Int) * b := by simp
  omega
theorem mul_pos' (a b : Nat) : (0 : Int) ≤ (a : Int) * (b : Int) := by
  have e : ((a * b : Nat) : Int) = (a : Int) * b := by simp
  omega

set_option maxHeartbeats 800000 in
theorem times_any (v u : Value) (xs ys : List Nat) (w : World) (hS : SN .u32 w v xs) (hT : SN .u32 w u ys) (hx : ∀ d ∈ xs, d < 1000000000) (hy : ∀ d ∈ ys, d < 1000000000)
    (hl : xs.length ≤ 100000000) (hl' : ys.length ≤ 100000000) :
    Calls Tryd.prog 121 #[v, u] w (MagRet w (Z.ofDg 1000000000 xs * Z.ofDg 1000000000 ys)) := by
  obtain ⟨A, c, rfl, hc, hm, hcell⟩ := hS
  obtain ⟨A', c', rfl, hc', hm', hcell'⟩ := hT
  go_enter Tryd.func121, Tryd.ntmps121
  go_wp2_with (at_make; refine mkN rfl _ _ _ rfl elem32 Tryd.underlying109 (by omega) w w.heap.size _ _ (xs.length + ys.length) rfl rfl (by omega) (by omega) (by omega) (Nat.le_refl _) ?_; intro w1 hown1 hb1 hs1)
  go_loopw [20] (fun i wr => ∃ (k : Nat) (os : List Nat), k ≤ xs.length ∧ i = .int .i64 k ∧ Ow .u32 103 wr w.heap.size (.slice (some ⟨w.heap.size, 0, none⟩) (xs.length + ys.length) (xs.length + ys.length)) os ∧ Below w.heap.size w wr ∧
      Hid (os.length = xs.length + ys.length ∧ (∀ d ∈ os, d < 1000000000) ∧ (∀ t, k + ys.length ≤ t → Z.dAt os t = 0) ∧ Z.ofDg 1000000000 os = Z.ofDg 1000000000 (xs.take k) * Z.ofDg 1000000000 ys)) (fun i _ => xs.length - (intOf i).toNat)
  case atStart => exact ⟨0, _, by omega, rfl, hown1, hb1, ⟨by simp, by simp, fun t _ => Z.dAt_replicate _ _, by rw [Z.ofDg_replicate]; simp [Z.ofDg]⟩⟩
  case round =>
    obtain ⟨k, os, hk, rfl, hown, hb, HI⟩ := hrel
    clear hown1 hb1 hs1
    obtain ⟨wo, rfl⟩ : ∃ wo : World, wo = wr := ⟨_, rfl⟩
    by_cases hlt : k < xs.length
    · obtain ⟨g, o, rfl, hg, hcl⟩ := hcell (by omega)
      obtain ⟨d, hd⟩ : ∃ d, xs[k]? = some d := ⟨_, List.getElem?_eq_getElem (by omega)⟩
      have hr0 : wo.cell? ⟨g, o + k, none⟩ = some (.int .u32 (d : Int)) := (hb.cell (p := ⟨g, o + k, none⟩) hg).trans (hcl _ _ hd)
      have hd1 : d < 1000000000 := hx d (List.mem_of_getElem? hd)
      have HD := Lib.hid hd
      clear hcl hd hcell
      go_wp2_with fail
      go_loopw [27, 8] (fun i ca wr => ∃ (j cy : Nat) (os : List Nat), j ≤ ys.length ∧ i = .int .i64 j ∧ ca = .int .u64 cy ∧ cy < 1000000000 ∧ Ow .u32 103 wr w.heap.size (.slice (some ⟨w.heap.size, 0, none⟩) (xs.length + ys.length) (xs.length + ys.length)) os ∧ Below w.heap.size w wr ∧
        Hid (os.length = xs.length + ys.length ∧ (∀ d ∈ os, d < 1000000000) ∧ (∀ t, k + ys.length ≤ t → Z.dAt os t = 0) ∧ Z.ofDg 1000000000 os + 1000000000 ^ (k + j) * cy = Z.ofDg 1000000000 (xs.take k) * Z.ofDg 1000000000 ys + 1000000000 ^ k * (d * Z.ofDg 1000000000 (ys.take j)))) (fun i _ _ => ys.length - (intOf i).toNat)
      case atStart => exact ⟨0, 0, os, by omega, rfl, rfl, by omega, hown, hb, ⟨HI.out.1, HI.out.2.1, HI.out.2.2.1, by rw [HI.out.2.2.2]; simp [Z.ofDg]⟩⟩
      case round =>
        obtain ⟨j, cy, os', hj, rfl, rfl, hcy, hown', hb', HJ⟩ := hrel
        clear hown hb hr0
        by_cases hlt' : j < ys.length
        · obtain ⟨g', o', rfl, hg', hcl'⟩ := hcell' (by omega)
          obtain ⟨d', hd'⟩ : ∃ d, ys[j]? = some d := ⟨_, List.getElem?_eq_getElem (by omega)⟩
          have hr1 : wr.cell? ⟨g', o' + j, none⟩ = some (.int .u32 (d' : Int)) := (hb'.cell (p := ⟨g', o' + j, none⟩) hg').trans (hcl' _ _ hd')
          have hd1' : d' < 1000000000 := hy d' (List.mem_of_getElem? hd')
          have HD' := Lib.hid hd'
          obtain ⟨q, hq⟩ : ∃ q, os'[k + j]? = some q := ⟨_, List.getElem?_eq_getElem (by rw [HJ.out.1]; omega)⟩
          have hr2 : wr.cell? ⟨w.heap.size, k + j, none⟩ = some (.int .u32 (q : Int)) := hown'.cellN HJ.out.1 hq
          have hf2 : wr.frozen? ⟨w.heap.size, k + j, none⟩ = false := hown'.freeN HJ.out.1 _
          have hq1 : q < 1000000000 := HJ.out.2.1 q (List.mem_of_getElem? hq)
          have HQ := Lib.hid hq
          have hm1 := mul_bound d d' hd1 hd1'
          have hm2 := mul_pos' d d'
          clear hcl' hd' hcell' hq
          go_wp2_with fail
          go_roundw
          case rel =>
            have hst := Z.times_inner 1000000000 (by omega) ys os' (Z.ofDg 1000000000 (xs.take k) * Z.ofDg 1000000000 ys) d k j cy hd1 hy HJ.out.2.1 hcy (by rw [HJ.out.1]; omega) HJ.out.2.2.2
            rw [Z.dAt_some HD'.out, Z.dAt_some HQ.out] at hst
            refine ⟨j + 1, (d * d' + q + cy) / 1000000000, os'.set (k + j) ((d * d' + q + cy) % 1000000000), by omega, by go_num, ret_v (by simp), hst.1, hown'.storedN HJ.out.1 _ _ _ (by simp), hb'.setCell (p := ⟨w.heap.size, k + j, none⟩) (Nat.le_refl _) _, by simp [HJ.out.1], Z.set_lt HJ.out.2.1 (by omega), ?_, hst.2⟩
            intro t ht
            rw [Z.dAt_set _ _ _ _ (by rw [HJ.out.1]; omega), if_neg (by omega)]
            exact HJ.out.2.2.1 t ht
          case measure => simp [intOf]; omega
        · obtain rfl : j = ys.length := by omega
          have hz : os'[k + ys.length]? = some 0 := by
            rw [Z.dAt_eq (by rw [HJ.out.1]; omega), HJ.out.2.2.1 _ (Nat.le_refl _)]
          have hr2 : wr.cell? ⟨w.heap.size, k + ys.length, none⟩ = some (.int .u32 0) := hown'.cellN HJ.out.1 hz
          have hf2 : wr.frozen? ⟨w.heap.size, k + ys.length, none⟩ = false := hown'.freeN HJ.out.1 _
          have HZ := Lib.hid hz
          clear hz
          go_wp2_with fail
          go_roundw
          case rel =>
            have hst := Z.times_outer 1000000000 xs ys os' k cy (by rw [HJ.out.1]; omega) (Z.dAt_some HZ.out) (by rw [Z.dAt_some HD.out]; exact HJ.out.2.2.2)
            refine ⟨k + 1, os'.set (k + ys.length) cy, by omega, by go_num, hown'.storedN HJ.out.1 _ _ _ rfl, hb'.setCell (p := ⟨w.heap.size, k + ys.length, none⟩) (Nat.le_refl _) _, by simp [HJ.out.1], Z.set_lt HJ.out.2.1 hcy, ?_, hst⟩
            intro t ht
            rw [Z.dAt_set _ _ _ _ (by rw [HJ.out.1]; omega), if_neg (by omega)]
            exact HJ.out.2.2.1 t (by omega)
          case measure => simp [intOf]; omega
    · obtain rfl : k = xs.length := by omega
      go_wp2_with fail
      refine (trim_own _ os _ _ hown HI.out.2.1 (by rw [HI.out.1]; omega)).mono ?_
      rintro e w3 ⟨v3, rfl, hown3, rfl⟩
      go_wp2_with fail
      go_ret
      refine ⟨v3, rfl, ?_, hb⟩
      have hv := HI.out.2.2.2
      rw [List.take_of_length_le (Nat.le_refl _)] at hv
      rw [← hv]
      exact hown3
end Go.Proofs.YtifafmomkpkgdaaDoor
