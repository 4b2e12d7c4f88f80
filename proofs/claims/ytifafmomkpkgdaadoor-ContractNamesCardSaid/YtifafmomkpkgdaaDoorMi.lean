/- Mi: Mem Blk Str -/
import Derived.WalkKit
import Derived.WalkSpells
import Derived.WalkSmall
import Derived.Laws.OwnMore
import Derived.Deep.AppendLies
import Derived.Maps.AppendAt
import Derived.Lib.Hide
import Derived.RangeFuncBox
import Derived.OwnWalkIn
import Derived.Test.YtifafmomkpkgdaaDoorProg
import Derived.WalkLawsBesides
import Derived.Laws.BytesArg
/- Words for memory, of whatever program: a slice of integers that reads as a list of natural numbers (SN); one that lies in memory of the call's own (Ow); append of one element, make, a store. -/

namespace Go.Proofs.YtifafmomkpkgdaaDoor
open Go.RowKit

theorem ret_int {k : IntKind} {a b : Int} (h : a = b) : Ending.returned (.int k a) = .returned (.int k b) := by rw [h]
theorem ret_str {a b : ByteArray} (h : a = b) : Ending.returned (.string a) = .returned (.string b) := by rw [h]
theorem ret_bool {a b : Bool} (h : a = b) : Ending.returned (.bool a) = .returned (.bool b) := by rw [h]
theorem ret_v {k : IntKind} {a b : Int} (h : a = b) : Value.int k a = .int k b := by rw [h]
theorem ne_of_bne {a b : Int} (h : (a != b) = true) : a ≠ b := by rintro rfl; simp at h
theorem eq_of_bne {a b : Int} (h : (a != b) = false) : a = b := by rwa [bne_eq_false_iff_eq] at h
theorem ne_of_beq {a b : Int} (h : (a == b) = false) : a ≠ b := by rintro rfl; simp at h
theorem eq_of_beq' {a b : Int} (h : (a == b) = true) : a = b := by rwa [beq_iff_eq] at h
/-- The values of natural numbers, as integers of a kind. -/
def Vn (q : IntKind) (ms : List Nat) : List Value := ms.map fun n : Nat => Value.int q (n : Int)
theorem Vn_length (q : IntKind) (ms : List Nat) : (Vn q ms).length = ms.length := by simp [Vn]
theorem Vn_at (q : IntKind) (ms : List Nat) (i d : Nat) (h : ms[i]? = some d) : (Vn q ms)[i]? = some (.int q (d : Int)) := by simp [Vn, h]
theorem Vn_append (q : IntKind) (a b : List Nat) : Vn q (a ++ b) = Vn q a ++ Vn q b := by simp [Vn]

/-- The slice value v reads, in the world w, as the numbers ms. -/
def SN (q : IntKind) (w : World) (v : Value) (ms : List Nat) : Prop :=
  ∃ (A : Option Addr) (c : Nat), v = .slice A ms.length c ∧ ms.length ≤ c ∧ c ≤ maxLen ∧
    (0 < ms.length → ∃ b o, A = some ⟨b, o, none⟩ ∧ b < w.heap.size ∧ ∀ i d : Nat, ms[i]? = some d → w.cell? ⟨b, o + i, none⟩ = some (.int q (d : Int)))
/-- .. and it lies at the head of a block from B on, which is not frozen. -/
def Ow (q : IntKind) (e : TypeId) (w : World) (B : Nat) (v : Value) (ms : List Nat) : Prop := w.ownsRow B e 1 v ms.length (Vn q ms)

section
variable {q : IntKind} {e : TypeId} {w w' : World} {B B' : Nat} {v : Value} {ms : List Nat}
theorem SN.nil_ : SN q w (.slice none 0 0) [] := ⟨none, 0, rfl, Nat.le_refl _, Nat.zero_le _, fun h => absurd h (by simp)⟩
theorem SN.below (h : SN q w v ms) (hb : Below w.heap.size w w') : SN q w' v ms := by
  obtain ⟨A, c, hv, h1, h2, h3⟩ := h
  refine ⟨A, c, hv, h1, h2, fun hp => ?_⟩
  obtain ⟨b, o, hA, hlt, hc⟩ := h3 hp
  exact ⟨b, o, hA, Nat.lt_of_lt_of_le hlt hb.size, fun i d hd => (hb.cell (p := ⟨b, o + i, none⟩) hlt).trans (hc i d hd)⟩
theorem SN.drewN (h : SN q w v ms) (n : Nat) : SN q (w.drewN n) v ms := h
theorem Ow.nil_ (B : Nat) : Ow q e w B (.slice none 0 0) [] := World.ownsRow_nil _ _ _ _
theorem Ow.sn (h : Ow q e w B v ms) : SN q w v ms := by
  rcases h.2 with ⟨rfl, h0⟩ | ⟨g, cap, cur, rfl, hg, hh, hn, hm, hs, ht⟩
  · have : ms = [] := List.eq_nil_of_length_eq_zero h0
    subst this
    exact SN.nil_
  · refine ⟨_, cap, rfl, hn, hm, fun _ => ⟨g, 0, rfl, (Array.getElem?_eq_some_iff.1 hh).1, fun i d hd => ?_⟩⟩
    have hlt : i < ms.length := (List.getElem?_eq_some_iff.1 hd).1
    rw [Nat.zero_add, World.ownsRow.cellAt h i (by omega), Vn_at _ _ _ _ hd]
theorem Ow.mono (h : Ow q e w B v ms) (hB : B' ≤ B) : Ow q e w B' v ms := by
  refine ⟨h.1, ?_⟩
  rcases h.2 with h | ⟨g, cap, cur, h1, h2, h3⟩
  · exact .inl h
  · exact .inr ⟨g, cap, cur, h1, Nat.le_trans hB h2, h3⟩
/-- An owned row stays while the world below it, and its own block, stay. -/
theorem Ow.below (h : Ow q e w B v ms) (hb : Below w.heap.size w w') : Ow q e w' B v ms := by
  refine ⟨h.1, ?_⟩
  rcases h.2 with h | ⟨g, cap, cur, h1, h2, h3, h4⟩
  · exact .inl h
  · exact .inr ⟨g, cap, cur, h1, h2, (hb.block g (Array.getElem?_eq_some_iff.1 h3).1).trans h3, h4⟩
theorem Ow.drewN (h : Ow q e w B v ms) (n : Nat) : Ow q e (w.drewN n) B v ms := h
theorem Ow.base (h : Ow q e w B v ms) : ∀ k, v.ownBlock = some k → B ≤ k := fun k hk => (World.ownsRow.lt h k hk).1
theorem Ow.form (h : Ow q e w B v ms) (hn : 0 < ms.length) : ∃ g cap, v = .slice (some ⟨g, 0, none⟩) ms.length cap ∧ B ≤ g ∧ g < w.heap.size ∧ ms.length ≤ cap ∧ cap ≤ maxLen := by
  rcases h.2 with ⟨_, h0⟩ | ⟨g, cap, cur, hv, hb, hg, h1, h2, _⟩
  · omega
  · exact ⟨g, cap, hv, hb, (Array.getElem?_eq_some_iff.1 hg).1, h1, h2⟩
theorem Ow.cut {g cap k : Nat} (h : Ow q e w B (.slice (some ⟨g, 0, none⟩) ms.length cap) ms) (hk : k ≤ ms.length) : Ow q e w B (.slice (some ⟨g, 0, none⟩) k cap) (ms.take k) := by
  rcases h.2 with ⟨h0, _⟩ | ⟨g', cap', cur, hv, hb, hg, h1, h2, h3, h4⟩
  · cases h0
  · simp only [Value.slice.injEq, Option.some.injEq, Addr.mk.injEq, and_true, true_and] at hv
    obtain ⟨rfl, rfl⟩ := hv
    have hl : (ms.take k).length = k := by rw [List.length_take]; omega
    refine ⟨by simp [Vn_length], .inr ⟨g, cap, cur, by rw [hl], hb, hg, by omega, h2, h3, ?_⟩⟩
    rw [hl]
    have : (cur.toList.take (ms.length * 1)).take k = (Vn q ms).take k := by rw [h4]
    rw [List.take_take, Nat.min_eq_left (by omega)] at this
    rw [Nat.mul_one, this]
    simp [Vn, List.map_take]
theorem Ow.stored {g cap : Nat} (h : Ow q e w B (.slice (some ⟨g, 0, none⟩) ms.length cap) ms) (j : Nat) (y : Int) (d : Nat) (hd : y = (d : Int)) :
    Ow q e (w.setCell ⟨g, j, none⟩ (.int q y)) B (.slice (some ⟨g, 0, none⟩) ms.length cap) (ms.set j d) := by
  subst hd
  have := (World.ownsRow.stored h j (.int q (d : Int))).1
  unfold Ow
  rw [List.length_set]
  have e : Vn q (ms.set j d) = (Vn q ms).set j (.int q (d : Int)) := by simp [Vn, List.map_set]
  rw [e]
  exact this
theorem Ow.cell {g cap : Nat} (h : Ow q e w B (.slice (some ⟨g, 0, none⟩) ms.length cap) ms) {j d : Nat} (hd : ms[j]? = some d) : w.cell? ⟨g, j, none⟩ = some (.int q (d : Int)) := by
  have hlt : j < ms.length := (List.getElem?_eq_some_iff.1 hd).1
  rw [World.ownsRow.cellAt h j (by omega), Vn_at _ _ _ _ hd]
theorem Ow.free {g cap : Nat} (h : Ow q e w B (.slice (some ⟨g, 0, none⟩) ms.length cap) ms) (j : Nat) : w.frozen? ⟨g, j, none⟩ = false := World.ownsRow.frozenAt h j
theorem Ow.storedN {g cap n : Nat} (hn : ms.length = n) (h : Ow q e w B (.slice (some ⟨g, 0, none⟩) n cap) ms) (j : Nat) (y : Int) (d : Nat) (hd : y = (d : Int)) :
    Ow q e (w.setCell ⟨g, j, none⟩ (.int q y)) B (.slice (some ⟨g, 0, none⟩) n cap) (ms.set j d) := by
  subst hn; exact h.stored j y d hd
theorem Ow.cellN {g cap n : Nat} (hn : ms.length = n) (h : Ow q e w B (.slice (some ⟨g, 0, none⟩) n cap) ms) {j d : Nat} (hd : ms[j]? = some d) : w.cell? ⟨g, j, none⟩ = some (.int q (d : Int)) := by
  subst hn; exact h.cell hd
theorem Ow.freeN {g cap n : Nat} (hn : ms.length = n) (h : Ow q e w B (.slice (some ⟨g, 0, none⟩) n cap) ms) (j : Nat) : w.frozen? ⟨g, j, none⟩ = false := by
  subst hn; exact h.free j
/-- Another slice's cells stay over a store into an owned row that lies beyond them. -/
theorem below_of_drewN (w : World) (n B : Nat) : Below B w (w.drewN n) := below_drewN (Below.refl B w) n
theorem grown_of_below (hb : Below w.heap.size w w') (row : Option Nat) : w.grownBy w' row := ⟨hb.os, hb.tape, hb.output, hb.size, fun k hk _ => hb.block k hk⟩
end

/-- The element type's row of the program's table. -/
def ElemInt (P : Program) (q : IntKind) (e : TypeId) (by_ : Nat) : Prop := (P.info? e).map (fun i => (i.zero, i.size, i.bytes)) = some (some (.int q 0), 1, by_)

section
variable {P : Program}
/-- 'out = append(out, y)'. -/
theorem app1 {ops : Array Oper} {rest : List Oper} {o : Oper} {a : Act} {Q : Exit → Act → World → Prop} (hgd : o.guard = none) (s x : Operand) (t : TypeId)
    (ho : o.op = .call { callee := .builtin .append, args := #[s, x], argTypes := #[t, t] }) {q : IntKind} {e : TypeId} {by_ : Nat} (hE : ElemInt P q e by_) (ht : P.underlying t = some (.slice e)) (hby : by_ ≤ 8)
    (w : World) (B : Nat) (v : Value) (ms : List Nat) (y : Int) (d : Nat) (hy : y = (d : Int)) (hs : a.eval s = v) (hown : Ow q e w B v ms) (hx : a.eval x = .slice (some ⟨w.heap.size, 0, none⟩) 1 1)
    (hlen : ms.length < 1000000000) (hB : B ≤ w.heap.size)
    (h : ∀ v' w', Ow q e w' B v' (ms ++ [d]) → Below B w w' → w.heap.size < w'.heap.size → wpList P ops Q rest (a.put o.dst v') w') :
    wpList P ops Q (o :: rest) a (w.alloc (.cells #[.int q y] e)) := by
  subst hy
  obtain ⟨i, hi, hz, h1, h2⟩ := info_parts hE
  refine wpList_append_own _ hgd s x t ho B e i (.int q 0) 1 by_ ht hi hz h1 h2 rfl (by omega) v ms.length (Vn q ms) hs (World.ownsRow.alloc hown _) ⟨w.heap.size, 0, none⟩ 1 1 [.int q (d : Int)] hx rfl (cell_one_new _ _ _) (by simp [Value.oneCell']) (by unfold maxLen; omega) (by
      have : (ms.length + 1) * by_ ≤ (ms.length + 1) * 8 := Nat.mul_le_mul_left _ hby
      omega) (by simp; omega) ?_
  intro v' w' hown' hg _
  refine h v' w' ?_ ?_ ?_
  · unfold Ow
    rw [Vn_append, List.length_append]
    exact hown'
  · exact ((Below.refl B w).alloc hB _).grown hg (by simp; omega) (fun k hk => (World.ownsRow.lt hown k hk).1)
  · have := hg.size
    simp at this
    omega
/-- 'make([]T, 0, n)'. -/
theorem mk0 {ops : Array Oper} {rest : List Oper} {o : Oper} {a : Act} {Q : Exit → Act → World → Prop} (hg : o.guard = none) (l c : Operand) (t : TypeId) (hop : o.op = Op.makeSlice t l c)
    {q : IntKind} {e : TypeId} {by_ : Nat} (hE : ElemInt P q e by_) (ht : P.underlying t = some (.slice e)) (hby : by_ ≤ 8) (w : World) (B : Nat) (C : Int) (n : Nat) (hl : a.eval l = .int .i64 0) (hc : a.eval c = .int .i64 C) (hC : C = (n : Int)) (hn : n ≤ 2000000000) (hB : B ≤ w.heap.size)
    (h : ∀ w', Ow q e w' B (.slice (some ⟨w.heap.size, 0, none⟩) 0 n) [] → Below w.heap.size w w' → w.heap.size < w'.heap.size → wpList P ops Q rest (a.put o.dst (.slice (some ⟨w.heap.size, 0, none⟩) 0 n)) w') :
    wpList P ops Q (o :: rest) a w := by
  obtain ⟨i, hi, hz, h1, h2⟩ := info_parts hE
  refine wpList_make_own w hg l c t hop B e i (.int q 0) 1 ht hi hz h1 .i64 .i64 C n hl hc hC (by
    rw [h2]
    have : by_ * n ≤ 8 * n := Nat.mul_le_mul_right _ hby
    omega) (by unfold maxLen; omega) hB ?_
  intro w' hown hg
  refine h w' hown ⟨hg.os, hg.tape, hg.output, hg.size, fun k hk => hg.block k hk (by simp)⟩ ?_
  obtain ⟨_, h3⟩ := hown
  rcases h3 with ⟨h3, _⟩ | ⟨g, cap, cur, h3, _, h4, _⟩
  · cases h3
  · simp only [Value.slice.injEq, Option.some.injEq, Addr.mk.injEq, and_true, true_and] at h3
    obtain ⟨rfl, rfl⟩ := h3
    exact (Array.getElem?_eq_some_iff.1 h4).1
/-- 'make([]T, n)'. -/
theorem mkN {ops : Array Oper} {rest : List Oper} {o : Oper} {a : Act} {Q : Exit → Act → World → Prop} (hg : o.guard = none) (l c : Operand) (t : TypeId) (hop : o.op = Op.makeSlice t l c)
    {q : IntKind} {e : TypeId} {by_ : Nat} (hE : ElemInt P q e by_) (ht : P.underlying t = some (.slice e)) (hby : by_ ≤ 8) (w : World) (B : Nat) (C C' : Int) (n : Nat) (hl : a.eval l = .int .i64 C) (hc : a.eval c = .int .i64 C') (hC : C = (n : Int)) (hC' : C' = (n : Int)) (hn : n ≤ 2000000000) (hB : B ≤ w.heap.size)
    (h : ∀ w', Ow q e w' B (.slice (some ⟨w.heap.size, 0, none⟩) n n) (List.replicate n 0) → Below w.heap.size w w' → w.heap.size < w'.heap.size → wpList P ops Q rest (a.put o.dst (.slice (some ⟨w.heap.size, 0, none⟩) n n)) w') :
    wpList P ops Q (o :: rest) a w := by
  obtain ⟨i, hi, hz, h1, h2⟩ := info_parts hE
  refine wpList_make_full w hg l c t hop B e i (.int q 0) 1 ht hi hz h1 .i64 .i64 C C' n hl hc hC hC' (by
    rw [h2]
    have : by_ * n ≤ 8 * n := Nat.mul_le_mul_right _ hby
    omega) (by unfold maxLen; omega) hB ?_
  intro w' hown hg
  have ho : Ow q e w' B (.slice (some ⟨w.heap.size, 0, none⟩) n n) (List.replicate n 0) := by
    unfold Ow
    rw [List.length_replicate]
    have e1 : (madeCells (Value.int q 0).cells (n * 1)).toList = Vn q (List.replicate n 0) := by
      rw [Nat.mul_one]
      show (madeCells #[Value.int q 0] n).toList = _
      rw [toList_madeCells_one]
      simp [Vn]
    rw [← e1]
    exact hown
  refine h w' ho ⟨hg.os, hg.tape, hg.output, hg.size, fun k hk => hg.block k hk (by simp)⟩ ?_
  obtain ⟨_, h3⟩ := hown
  rcases h3 with ⟨h3, _⟩ | ⟨g, cap, cur, h3, _, h4, _⟩
  · cases h3
  · simp only [Value.slice.injEq, Option.some.injEq, Addr.mk.injEq, and_true, true_and] at h3
    obtain ⟨rfl, rfl⟩ := h3
    exact (Array.getElem?_eq_some_iff.1 h4).1
end
end Go.Proofs.YtifafmomkpkgdaaDoor
/- Words for a variable's block of several cells, and a slice of the call's own that a field of it holds: for a loop over an iterator. -/

namespace Go.Proofs.YtifafmomkpkgdaaDoor
open Go.RowKit

/-- Block B holds these cells (type t), none of them frozen. -/
def Blk (W : World) (B : Nat) (t : TypeId) (cs : Array Value) : Prop := W.heap[B]? = some (.cells cs t (0, 0))
section
variable {W W' w1 : World} {B n₀ : Nat} {t e : TypeId} {cs : Array Value} {v v' u : Value} {q : IntKind} {ms : List Nat}
theorem Blk.lt (h : Blk W B t cs) : B < W.heap.size := (Array.getElem?_eq_some_iff.1 h).1
theorem Blk.cell (h : Blk W B t cs) (j : Nat) : W.cell? ⟨B, j, none⟩ = cs[j]? := by simp [World.cell?, show W.heap[B]? = _ from h]
theorem Blk.frozen (h : Blk W B t cs) (j : Nat) : W.frozen? ⟨B, j, none⟩ = false := by simp [World.frozen?, show W.heap[B]? = _ from h]
theorem Blk.new (W : World) (t : TypeId) (cs : Array Value) : Blk (W.alloc (.cells cs t)) W.heap.size t cs := World.alloc_heap_new W _
theorem Blk.kept {row : Option Nat} (h : Blk W B t cs) (hg : W.grownBy W' row) (hne : some B ≠ row) : Blk W' B t cs := (hg.block B h.lt hne).trans h
theorem Blk.alloc (h : Blk W B t cs) (o : Obj) : Blk (W.alloc o) B t cs := h.kept (World.grownBy_alloc W o none) (by simp)
theorem Blk.below (h : Blk W B t cs) (hb : Below W.heap.size W W') : Blk W' B t cs := (hb.block B h.lt).trans h
theorem Blk.set (h : Blk W B t cs) (j : Nat) (v' : Value) : Blk (W.setCell ⟨B, j, none⟩ v') B t (cs.setIfInBounds j v') := by
  obtain ⟨hlt, hk⟩ := Array.getElem?_eq_some_iff.1 h
  show (W.heap.modify B _)[B]? = _
  rw [Array.getElem?_eq_getElem (by rw [Array.size_modify]; exact hlt), Array.getElem_modify_self, hk]
  rfl
theorem grownBy_setAt (W : World) (b j : Nat) (v : Value) : W.grownBy (W.setCell ⟨b, j, none⟩ v) (some b) :=
  ⟨rfl, rfl, rfl, (KeepsWalks.setCell W _ v).size, fun k _ hk => Below.heap_setCell _ _ _ k (fun e => hk (by rw [e]))⟩
theorem Blk.not_row (h : Blk W B t cs) (hte : t ≠ e) {base size k : Nat} {v : Value} {xs : List Value} (hr : W.ownsRow base e size v k xs) : some B ≠ v.ownBlock := by
  rcases hr.2 with ⟨rfl, _⟩ | ⟨g, cap, cur, rfl, _, hgb, _⟩
  · simp [Value.ownBlock]
  · intro e'
    obtain rfl : B = g := by simpa [Value.ownBlock] using e'
    have := (show W.heap[B]? = _ from h).symm.trans hgb
    simp at this
    exact hte this.2
/-- 'The block holds these cells' speaks of cells alone. -/
theorem blk_own {β : Type} (B : Nat) (t : TypeId) (cs : β → Array Value) : Own (fun s W => Blk W B t (cs s)) := by
  intro s X Y row hv hg hrow
  refine hv.kept hg fun e' => ?_
  obtain ⟨o, ho, hc⟩ := hrow B e'.symm
  rw [show X.heap[B]? = _ from hv] at ho; cases ho; cases hc
/-- '.. and one of them is a slice that reads as these numbers, of the call's own'. -/
theorem blkRow_own {β : Type} (n₀ B : Nat) (t e : TypeId) (q : IntKind) (cs : Value → Array Value) (f : β → List Nat) : Own (fun s W => ∃ v, Blk W B t (cs v) ∧ Ow q e W n₀ v (f s)) := by
  rintro s X Y row ⟨v, hv, hr⟩ hg hrow
  refine ⟨v, hv.kept hg (fun e' => ?_), hr.kept hg ?_⟩
  · obtain ⟨o, ho, hc⟩ := hrow B e'.symm
    rw [show X.heap[B]? = _ from hv] at ho; cases ho; cases hc
  · rcases hr.2 with ⟨rfl, _⟩ | ⟨g, cap, cur, rfl, _, hgb, _⟩
    · exact .inl rfl
    · refine .inr fun e' => ?_
      obtain ⟨o, ho, hc⟩ := hrow g (by simpa [Value.ownBlock] using e'.symm)
      rw [hgb] at ho; cases ho; cases hc
/-- 'x.f = append(x.f, ..)': behind the append law's two words, all that the walk owes. -/
theorem Blk.appended {size k m : Nat} {xs ys : List Value} {tmp : Obj} (j : Nat)
    (hv : Blk W B t cs) (hte : t ≠ e) (hrow : W.ownsRow n₀ e size v k xs) (hn₀ : n₀ ≤ W.heap.size) (hB : n₀ ≤ B)
    (hown' : w1.ownsRow n₀ e size v' m ys) (hgrow : (W.alloc tmp).grownBy w1 v.ownBlock) :
    Blk w1 B t cs ∧ Blk (w1.setCell ⟨B, j, none⟩ v') B t (cs.setIfInBounds j v') ∧ (w1.setCell ⟨B, j, none⟩ v').ownsRow n₀ e size v' m ys ∧ KeepsOthers W (w1.setCell ⟨B, j, none⟩ v') ∧ Below n₀ W (w1.setCell ⟨B, j, none⟩ v') := by
  have hv1 : Blk w1 B t cs := (hv.alloc tmp).kept hgrow (hv.not_row hte hrow)
  refine ⟨hv1, hv1.set j v', hown'.kept (grownBy_setAt w1 B j v') (.inr (hv1.not_row hte hown').symm), ?_, ?_⟩
  · refine ((KeepsOthers.alloc W tmp).trans (KeepsOthers.of_grownBy hgrow fun j o ej hj => ?_)).trans (KeepsOthers.setCell _ _ _)
    rcases (hrow.alloc tmp).2 with ⟨rfl, _⟩ | ⟨g, cap, cur, rfl, _, hgb, _⟩
    · simp [Value.ownBlock] at ej
    · obtain rfl : g = j := by simpa [Value.ownBlock] using ej
      rw [hgb] at hj; cases hj; rfl
  · refine (((Below.refl n₀ W).alloc hn₀ tmp).grown hgrow (by simp; omega) fun j ej => ?_).setCell (p := ⟨B, j, none⟩) hB v'
    rcases hrow.2 with ⟨rfl, _⟩ | ⟨g, cap, cur, rfl, hb, _, _⟩
    · simp [Value.ownBlock] at ej
    · obtain rfl : g = j := by simpa [Value.ownBlock] using ej
      exact hb
end
end Go.Proofs.YtifafmomkpkgdaaDoor
/- Words for bytes: a slice of bytes as a string. -/

namespace Go.Proofs.YtifafmomkpkgdaaDoor
open Go.RowKit

theorem elem8 : ElemInt Tryd.prog .u8 5 1 := by unfold ElemInt; kernel_rfl

/-- The bytes of a slice as a string. -/
def strOf (bs : List Nat) : ByteArray := ⟨(bs.map UInt8.ofNat).toArray⟩
theorem conv_string {P : Program} (w : World) (src dst e : TypeId) (hs : P.underlying src = some (.slice e)) (he : P.underlying e = some (.int .u8)) (hd : P.underlying dst = some .string) (v : Value) (bs : List Nat) (h : SN .u8 w v bs) :
    (convert src dst v).run P w = .ok (.string (strOf bs)) w := by
  obtain ⟨A, c, rfl, _, _, hcell⟩ := h
  by_cases h0 : 0 < bs.length
  · obtain ⟨g, o, rfl, _, hcl⟩ := hcell h0
    have hxs : strOfNums (bs.map fun n : Nat => (n : Int)) = strOf bs := by
      unfold strOfNums strOf
      rw [List.map_map]
      rfl
    rw [← hxs]
    refine run_convert_bytes_arg w src e hs he g o bs.length c _ (by simp) (fun i hi => ?_) dst hd
    rw [hcl i (bs[i]) (List.getElem?_eq_getElem hi)]
    simp [hi]
  · have hb : bs = [] := List.eq_nil_of_length_eq_zero (by omega)
    subst hb
    rcases A with _ | a
    · exact run_convert_bytes_nil w src e hs he _ c dst hd
    · show (convert src dst (.slice (some a) 0 c)).run P w = _
      rw [run_convert_bytes_string w src dst e _ 0 c hs he hd, run_bytesToString w a 0 c [] (by have h := run_loadCells_list (P := P) w a [] (fun j v hj => by simp at hj); simpa using h)]
      rfl

end Go.Proofs.YtifafmomkpkgdaaDoor
