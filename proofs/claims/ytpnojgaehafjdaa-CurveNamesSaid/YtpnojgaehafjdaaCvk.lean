/- Walks: the knots of a curve (an iterator). -/
import Derived.Test.YtpnojgaehafjdaaCvs
import Derived.Test.YtpnojgaehafjdaaRfa
import Derived.Shelf.Abstract
import Derived.Shelf.RegionOpen
import Derived.OwnWalkIn
import Derived.TacticsInMore
import Derived.LoopNIn
import Derived.LoopIn
import Derived.Laws.EntriesVeiled
namespace Go.Proofs.Ytpnojgaehafjdaa
open Go.RowKit Go.Shelf
attribute [local go_sem] Oper.semAt_some

theorem Same.set {S : Nat → Prop} {b j : Nat} (hS : ¬ S b) (A : World) (v : Value) : Same S A (A.setCell ⟨b, j, none⟩ v) :=
  fun k hk => Below.heap_setCell _ _ _ k (fun e => hS (by rw [e] at hk; exact hk))
theorem Same.grown {S : Nat → Prop} {A B : World} {b n : Nat} (hS : ¬ S b) (hn : ∀ k, S k → k < n) (hA : n ≤ A.heap.size) (h : A.grownBy B (some b)) : Same S A B :=
  fun k hk => h.block k (Nat.lt_of_lt_of_le (hn k hk) hA) (fun e => by injection e with e; subst e; exact hS hk)
theorem Same.alloc {S : Nat → Prop} {A B : World} (hS : ∀ k, S k → k < A.heap.size) (h : Same S A B) (o : Obj) : Same S A (B.alloc o) := fun k hk => by
  have e := h k hk
  have hlt : k < B.heap.size := by
    rw [Array.getElem?_eq_getElem (hS k hk)] at e
    exact (Array.getElem?_eq_some_iff.1 e).1
  exact (Below.heap_alloc B o k hlt).trans e
theorem Blk.same {S : Nat → Prop} {A B : World} {b : Nat} {t : TypeId} {cs : Array Value} (h : Blk A b t cs) (hS : S b) (hs : Same S A B) : Blk B b t cs := (hs b hS).trans h
theorem SL.same {α : Type} {k : Nat} {enc : α → List Value} {A B : World} {v : Value} {zs : List α} (h : SL k enc A v zs) (hs : ∀ j, j < A.heap.size → B.heap[j]? = A.heap[j]?) : SL k enc B v zs := by
  obtain ⟨a, c, hv, h1, h2, h3⟩ := h
  refine ⟨a, c, hv, h1, h2, fun hp => ?_⟩
  obtain ⟨b, o, hA, hlt, hc⟩ := h3 hp
  have e := hs b hlt
  have hlt2 : b < B.heap.size := by
    rw [Array.getElem?_eq_getElem hlt] at e
    exact (Array.getElem?_eq_some_iff.1 e).1
  refine ⟨b, o, hA, hlt2, fun i d hd j x hx => ?_⟩
  rw [← hc i d hd j x hx]
  simp [World.cell?, e]

/-- The knots of a curve. -/
def Z.Cu.kn (c : Z.Cu) : List (Int × ByteArray) := (c.base, Z.z49) :: c.pts.map fun p => (p.d, p.f)
theorem kn_len (c : Z.Cu) : c.kn.length = c.pts.length + 1 := by simp [Z.Cu.kn]
/-- A knot of this curve. -/
abbrev Kn (c : Z.Cu) : Type := {x : Int × ByteArray // x ∈ c.kn}
/-- The knots, each as one of the curve's. -/
def Z.Cu.kns (c : Z.Cu) : List (Kn c) := c.kn.attach
theorem kns_map (c : Z.Cu) : c.kns.map Subtype.val = c.kn := List.attach_map_subtype_val _
theorem kns_len (c : Z.Cu) : c.kns.length = c.pts.length + 1 := by rw [← kn_len, ← kns_map, List.length_map]
theorem kns_take {c : Z.Cu} {k : Nat} {p : Z.Pt} (h : c.pts[k]? = some p) : ∃ y : Kn c, y.1 = (p.d, p.f) ∧ c.kns.take (k + 1 + 1) = c.kns.take (k + 1) ++ [y] := by
  have h1 : c.kn[k + 1]? = some (p.d, p.f) := by
    unfold Z.Cu.kn
    rw [List.getElem?_cons_succ, List.getElem?_map, h]
    rfl
  rw [← kns_map, List.getElem?_map, Option.map_eq_some_iff] at h1
  obtain ⟨y, hy, he⟩ := h1
  refine ⟨y, he, ?_⟩
  rw [List.take_add_one, hy]
  rfl
theorem kns_first (c : Z.Cu) : ∃ y : Kn c, y.1 = (c.base, Z.z49) ∧ c.kns.take 1 = [y] := by
  have h1 : c.kn[0]? = some (c.base, Z.z49) := rfl
  rw [← kns_map, List.getElem?_map, Option.map_eq_some_iff] at h1
  obtain ⟨y, hy, he⟩ := h1
  refine ⟨y, he, ?_⟩
  rw [List.take_add_one, hy]
  rfl
theorem kns_all (c : Z.Cu) : c.kns.take (c.pts.length + 1) = c.kns := by rw [← kns_len, List.take_length]
theorem knots_any (base : Int) (v : Value) (w : World) :
    Calls Try.prog 51 #[.agg #[.int .i64 base, v]] w fun e w' => e = .returned (.func (.func 65) #[] #[.pointer (some ⟨w.heap.size, 0, none⟩)]) ∧ w' = w.alloc (.cells #[.int .i64 base, v] 27) := by
  have hmf : ∀ (fn : Fn) (first cap : Array Value) (w : World), (Instr.makeFunc fn first cap).run Try.prog w = .ok (.func fn first cap) w := fun _ _ _ _ => rfl
  go_enter Try.func51, Try.ntmps51
  go_wp2_with fail
  go_ret
  exact ⟨rfl, rfl⟩
set_option maxRecDepth 100000 in
set_option maxHeartbeats 1000000 in
theorem knots1_in (n : Nat) (hn : 1 ≤ n) (l Bc : Nat) (c : Z.Cu) (v : Value) (S : Nat → Prop) (W0 : World) (hSm : ∀ k, S k → k < W0.heap.size) (hD : ∀ W, Same S W0 W → Blk W Bc 27 #[.int .i64 c.base, v] ∧ SP W v c.pts) (J Jx : List (Kn c) → World → Prop)
    (hJd : ∀ p W W', J p W → Below W.heap.size W W' → J p W')
    (hY : ∀ pre (x : Kn c) W, J pre W → pre.length < c.pts.length + 1 → YieldAt Fence.wide (n - 1) Try.prog l #[.int .i64 x.1.1, .string x.1.2] W fun e W' =>
      (e = .returned (.bool true) ∧ J (pre ++ [x]) W' ∧ Same S W W') ∨ (e = .returned (.bool false) ∧ Jx (pre ++ [x]) W'))
    (W : World) (hW : Same S W0 W) (h0 : J [] W) :
    CallsIn Fence.wide n Try.prog 65 #[.func (.yield l) #[] #[], .pointer (some ⟨Bc, 0, none⟩)] W fun e W' => (∃ v, e = .returned v) ∧
      ((∃ ys, ys = c.kns ∧ J ys W') ∨ (∃ p, p <+: c.kns ∧ Jx p W')) := by
  obtain ⟨bc, hp⟩ := hD W hW
  have hc0 := bc.cell 0
  obtain ⟨A, cp, rfl, hlc, hcm⟩ := hp.shape
  unfold maxLen at hcm
  clear bc hp
  refine callsIn_of_wp Try.func65 rfl trivial ?_ rfl
  simp only [Try.ntmps65, List.size_toArray, List.length_cons, List.length_nil, Nat.reduceAdd, Nat.reduceSub, Array.replicate_succ, Array.replicate_zero, List.push_toArray, List.append_toArray, List.nil_append, List.cons_append]
  obtain ⟨y0, hy0, ht0⟩ := kns_first c
  obtain ⟨fn, tmps, assign, body, hy, hR⟩ := hY [] y0 W h0 (by simp)
  rw [List.nil_append, ← ht0] at hR
  rw [hy0] at hy
  unfold Z.z49 at hy
  clear hy0 ht0
  gi_wp2_with fail
  refine hR.mono ?_
  rintro e W3 (⟨rfl, hJ3, hk3⟩ | ⟨rfl, hJx3⟩)
  · have hS3 := hW.trans hk3
    obtain ⟨bc3, _⟩ := hD W3 hS3
    have hc1 := bc3.cell 1
    clear hc0 bc3 hR hy fn tmps assign body
    gi_wp2_with fail
    gi_loopw [13] (fun iv wr => ∃ (k : Nat), iv = .int .i64 k ∧ k ≤ c.pts.length ∧ J (c.kns.take (k + 1)) wr ∧ Same S W0 wr) (fun iv _ => c.pts.length - (intOf iv).toNat)
    case atStart => exact ⟨0, rfl, Nat.zero_le _, hJ3, hS3⟩
    case round =>
      obtain ⟨k, rfl, hk, hJk, hSk⟩ := hrel
      by_cases hlt : k < c.pts.length
      · have hz : c.pts[k]? = some c.pts[k] := List.getElem?_eq_getElem hlt
        obtain ⟨b, o, rfl, hb, q0, q1⟩ := SP.cells (hD wr hSk).2 hz
        obtain ⟨y, hy1, ht1⟩ := kns_take hz
        have HT := Lib.hid ht1
        clear ht1
        generalize c.pts[k] = p at *
        have hba := (Below.refl _ wr).alloc (Nat.le_refl wr.heap.size) (.cells #[.int .i64 p.d, .string p.f] 37)
        have BP := Blk.new wr 37 #[.int .i64 p.d, .string p.f]
        have z0 := BP.cell 0
        have z1 := BP.cell 1
        have hSa : Same S W0 (wr.alloc (.cells #[.int .i64 p.d, .string p.f] 37)) := hSk.alloc hSm _
        have hJa := hJd _ _ _ hJk hba
        obtain ⟨fn, tmps, assign, body, hy, hR⟩ := hY _ y _ hJa (by rw [List.length_take, kns_len]; omega)
        rw [hy1] at hy
        rw [← HT.out] at hR
        clear hy1
        gi_wp2_with fail
        refine hR.mono ?_
        rintro e W4 (⟨rfl, hJ4, hk4⟩ | ⟨rfl, hJx4⟩)
        · gi_wp2_with fail
          go_roundw
          case rel => exact ⟨k + 1, by go_num, by omega, hJ4, hSa.trans hk4⟩
          case measure => simp [intOf]; omega
        · gi_wp2_with fail
          refine bodyPost_ret (results_none rfl _ _ _) rfl ?_
          refine ⟨⟨_, rfl⟩, .inr ⟨_, ?_, hJx4⟩⟩
          exact List.take_prefix _ _
      · obtain rfl : k = c.pts.length := by omega
        gi_wp2_with fail
        go_end0
        exact ⟨⟨_, rfl⟩, .inl ⟨_, rfl, by rw [kns_all] at hJk; exact hJk⟩⟩
  · gi_wp2_with fail
    refine bodyPost_ret (results_none rfl _ _ _) rfl ?_
    refine ⟨⟨_, rfl⟩, .inr ⟨_, ?_, hJx3⟩⟩
    exact List.take_prefix 1 c.kns
theorem knots_stops (n : Nat) (hn : 1 ≤ n) (Bc : Nat) (c : Z.Cu) (v : Value) (S : Nat → Prop) (W0 : World) (hS : ∀ k, S k → k < W0.heap.size) (hD : ∀ W, Same S W0 W → Blk W Bc 27 #[.int .i64 c.base, v] ∧ SP W v c.pts) :
    SeqStopsK Fence.wide n Try.prog 65 #[.pointer (some ⟨Bc, 0, none⟩)] (fun x : Kn c => #[Value.int .i64 x.1.1, Value.string x.1.2]) (Same S) (fun ys => ys = c.kns) (fun p => p <+: c.kns) (c.pts.length + 1) W0 := fun l J Jx W hW hJ _ hY h0 =>
  knots1_in n hn l Bc c v S W0 hS hD J Jx (fun p X Y hp hb => hJ p X Y none hp (grown_of_below hb none) (fun r e => by cases e)) hY W (Same.below hS hW) h0
end Go.Proofs.Ytpnojgaehafjdaa
