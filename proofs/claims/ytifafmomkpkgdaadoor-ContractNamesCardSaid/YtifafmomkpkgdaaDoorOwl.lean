/- Words for own rows of words: append in a round of a loop over an iterator; the library's Sort and Compact of such a row. -/
import Derived.Test.YtifafmomkpkgdaaDoorCom
import Derived.Test.YtifafmomkpkgdaaDoorOnv
import Derived.Test.YtifafmomkpkgdaaDoorShelf
import Derived.Maps.OwnIn
import Derived.Sort.OwnSorted
import Derived.Sort.Grow
import Derived.Lib.OwnBridge
namespace Go.Proofs.YtifafmomkpkgdaaDoor
open Go.RowKit Go.Shelf Go.Sort
namespace Z
theorem flat_inv {α : Type} {enc : α → List Value} {k : Nat} (hk : ∀ y, (enc y).length = k) : ∀ {l : List α} {j : Nat} {u : Value}, (l.flatMap enc)[j]? = some u → ∃ (i : Nat) (d : α) (r : Nat), l[i]? = some d ∧ (enc d)[r]? = some u ∧ j = i * k + r
  | [], j, u, h => by simp at h
  | x :: l, j, u, h => by
    rw [List.flatMap_cons] at h
    rcases Nat.lt_or_ge j (enc x).length with hj | hj
    · rw [List.getElem?_append_left hj] at h
      exact ⟨0, x, j, rfl, h, by omega⟩
    · rw [List.getElem?_append_right hj] at h
      obtain ⟨i, d, r, h1, h2, h3⟩ := flat_inv hk h
      rw [hk] at hj h3
      exact ⟨i + 1, d, r, h1, h2, by rw [Nat.succ_mul]; omega⟩
/-- A word as a string. -/
def ofW (s : BS) : ByteArray := ⟨s.toArray⟩
theorem ofW_list (s : BS) : (ofW s).toList = s := by rw [Lib.toList_data]; simp [ofW]
theorem ofW_bytes (s : ByteArray) : ofW (bytesW s) = s := by unfold ofW bytesW; simp
end Z
/-- A word's cell. -/
def bE (s : Z.BS) : List Value := [.string (Z.ofW s)]
theorem bE_len (s : Z.BS) : (bE s).length = 1 := rfl
theorem bE_one (s : Z.BS) : ∀ u ∈ bE s, u.oneCell' = true := fun u hu => by
  rw [bE, List.mem_singleton] at hu
  subst hu
  rfl
theorem bE_flat (l : List Z.BS) : l.flatMap bE = l.map encStr := by
  induction l with
  | nil => rfl
  | cons x r ih => rw [List.flatMap_cons, List.map_cons, ih]; rfl
theorem bE_bytes (s : ByteArray) : bE (Z.bytesW s) = [.string s] := by rw [bE, Z.ofW_bytes]
abbrev SB := SL 1 bE
abbrev OB (w : World) (B : Nat) (v : Value) (l : List Z.BS) : Prop := OL 1 bE 9 w B v l
theorem OB.row {w : World} {B : Nat} {v : Value} {l : List Z.BS} (h : OB w B v l) : w.ownsRow B 9 1 v l.length (l.map encStr) := by
  have := h
  unfold OB OL at this
  rwa [bE_flat] at this
theorem OB.of {w : World} {B : Nat} {v : Value} {l : List Z.BS} {n : Nat} (h : w.ownsRow B 9 1 v n (l.map encStr)) (hn : l.length = n) : OB w B v l := by
  unfold OB OL
  rw [bE_flat, hn]
  exact h
theorem infoStr : ∃ i z, Tryd.prog.info? 9 = some i ∧ i.zero = some z ∧ i.size = 1 ∧ i.bytes = 16 ∧ z.cells.size = 1 := by
  have h : ((Tryd.prog.info? 9).bind fun i => i.zero.map fun z => (i.size, i.bytes, z.cells.size)) = some (1, 16, 1) := by kernel_rfl
  rw [Option.bind_eq_some_iff] at h
  obtain ⟨i, hi, he⟩ := h
  rw [Option.map_eq_some_iff] at he
  obtain ⟨z, hz, he⟩ := he
  simp only [Prod.mk.injEq] at he
  exact ⟨i, z, hi, hz, he.1, he.2.1, he.2.2⟩
/-- Append of one element in a round. -/
theorem appIn {α : Type} {F : Fence} {nF : Nat} {k by_ : Nat} {enc : α → List Value} {e t : TypeId} {P : Program} {ops : Array Oper} {rest : List Oper} {o : Oper} {a : Act} {Q : Exit → Act → World → Prop} (y : α) (h1 : ∀ u ∈ enc y, u.oneCell' = true) (hk : (enc y).length = k) (hgd : o.guard = none) (s x : Operand)
    (ho : o.op = .call { callee := .builtin .append, args := #[s, x], argTypes := #[t, t] }) (hI : ∃ i z, P.info? e = some i ∧ i.zero = some z ∧ i.size = k ∧ i.bytes = by_ ∧ z.cells.size = k) (hby : by_ ≤ 1000) (hk0 : 0 < k) (ht : P.underlying t = some (.slice e))
    (w : World) (B : Nat) (v : Value) (l : List α) (arr : Array Value) (harr : arr = (enc y).toArray) (hs : a.eval s = v) (hown : OL k enc e w B v l) (hx : a.eval x = .slice (some ⟨w.heap.size, 0, none⟩) 1 1)
    (hlen : l.length ≤ 20000) (hB : B ≤ w.heap.size)
    (h : ∀ v' w', OL k enc e w' B v' (l ++ [y]) → Below B w w' → w.grownBy w' v.ownBlock → (v'.ownBlock = v.ownBlock ∨ v'.ownBlock = some (w.heap.size + 1)) → wpListIn F nF P ops Q rest (a.put o.dst v') w') :
    wpListIn F nF P ops Q (o :: rest) a (w.alloc (.cells arr e)) := by
  obtain ⟨i, z, hi, hz, hsz, hbs, hzs⟩ := hI
  subst harr
  refine wpListIn_append_own_at _ hgd s x t ho B e i z k by_ ht hi hz hsz hbs hzs hk0 v l.length (l.flatMap enc) hs (World.ownsRow.alloc hown _) ⟨w.heap.size, 0, none⟩ 1 1 (enc y) hx (by rw [hk, Nat.one_mul]) (fun j u hu => ?_) h1 (by unfold maxLen; omega) (by
      have : (l.length + 1) * by_ ≤ (l.length + 1) * 1000 := Nat.mul_le_mul_left _ hby
      omega) (by simp; omega) ?_
  · rw [Go.WideShapes.add_plain, Nat.zero_add, (Blk.new w e _).cell j]
    simpa using hu
  · intro v' w' hown' hg _ hat
    refine h v' w' ?_ ?_ ?_ ?_
    · unfold OL
      rw [List.flatMap_append, List.length_append]
      simpa using hown'
    · exact ((Below.refl B w).alloc hB _).grown hg (by simp; omega) (fun k hk => (World.ownsRow.lt hown k hk).1)
    · exact (World.grownBy_alloc w _ _).trans hg
    · rw [World.size_alloc] at hat; exact hat
theorem run_app0 {P : Program} {e t : TypeId} {i : TypeInfo} (ht : P.underlying t = some (.slice e)) (hi : P.info? e = some i) {w : World} {B k : Nat} {v : Value} {n : Nat} {xs : List Value} (hown : w.ownsRow B e k v n xs) (ty : TypeId) (c : Nat) : (Builtin.append_ #[t, t] ty #[v, .slice none 0 c]).run P w = .ok v w := by
  rcases hown.2 with ⟨rfl, rfl⟩ | ⟨g, cap, cur, rfl, _, _, h1, _⟩
  · simp [Builtin.append_, run_underlying ht, sizeOf, typeInfo, hi, Builtin.lenOf, Builtin.firstCells]
  · simp [Builtin.append_, run_underlying ht, sizeOf, typeInfo, hi, Builtin.lenOf, Builtin.firstCells, storeCells, h1]
/-- A whole list behind an own row. -/
theorem appCat {α : Type} {k by_ : Nat} {enc : α → List Value} {e t : TypeId} {P : Program} {ops : Array Oper} {rest : List Oper} {o : Oper} {a : Act} {Q : Exit → Act → World → Prop} (hk : ∀ y, (enc y).length = k) (h1 : ∀ y, ∀ u ∈ enc y, u.oneCell' = true) (hgd : o.guard = none) (s x : Operand)
    (ho : o.op = .call { callee := .builtin .append, args := #[s, x], argTypes := #[t, t] }) (hI : ∃ i z, P.info? e = some i ∧ i.zero = some z ∧ i.size = k ∧ i.bytes = by_ ∧ z.cells.size = k) (hby : by_ ≤ 1000) (hk0 : 0 < k) (ht : P.underlying t = some (.slice e))
    (w : World) (B : Nat) (v X : Value) (l l2 : List α) (hs : a.eval s = v) (hown : OL k enc e w B v l) (hx : a.eval x = X) (hS : SL k enc w X l2)
    (hlen : l.length ≤ 20000) (hlen2 : l2.length ≤ 20000) (hB : B ≤ w.heap.size)
    (h : ∀ v' w', OL k enc e w' B v' (l ++ l2) → Below B w w' → w.grownBy w' v.ownBlock → wpList P ops Q rest (a.put o.dst v') w') :
    wpList P ops Q (o :: rest) a w := by
  obtain ⟨i, z, hi, hz, hsz, hbs, hzs⟩ := hI
  obtain ⟨A, c, rfl, hlc, hcm, hcell⟩ := hS
  cases A with
  | none =>
    have h0 : l2 = [] := by
      rcases Nat.eq_zero_or_pos l2.length with h | h
      · exact List.eq_nil_of_length_eq_zero h
      · obtain ⟨_, _, h1, _⟩ := hcell h
        cases h1
    subst h0
    refine wpList_plain hgd fun _ hK => ?_
    unfold Oper.wp execOp
    have hr := fun ty => run_app0 ht hi hown ty c
    simp only [ho, resolve, invoke, builtin, Sem.run_bind, Sem.run_pure, Result.andThen_ok, List.map_toArray, List.map_cons, List.map_nil, hs, hx, List.length_nil, hr]
    exact hK _ _ (h _ _ (by rw [List.append_nil]; exact hown) (Below.refl _ _) ⟨rfl, rfl, rfl, Nat.le_refl _, fun _ _ _ => rfl⟩)
  | some ad =>
    have hnews : ∀ j u, (l2.flatMap enc)[j]? = some u → w.cell? (ad.add j) = some u := by
      intro j u hu
      obtain ⟨i, d, r, h1, h2, rfl⟩ := Z.flat_inv hk hu
      obtain ⟨b, o, hA, hbl, hcj⟩ := hcell (by have := (List.getElem?_eq_some_iff.1 h1).1; omega)
      injection hA with hA
      subst hA
      rw [Go.WideShapes.add_plain, ← Nat.add_assoc]
      exact hcj i d h1 r u h2
    have h1' : ∀ u ∈ l2.flatMap enc, u.oneCell' = true := by
      intro u hu
      obtain ⟨d, _, hd⟩ := List.mem_flatMap.1 hu
      exact h1 d u hd
    refine wpList_append_own _ hgd _ _ _ ho B e i z k by_ ht hi hz hsz hbs hzs hk0 v l.length (l.flatMap enc) hs hown ad l2.length c (l2.flatMap enc) hx (Z.flat_len hk l2) hnews h1' (by unfold maxLen; omega) (by
      have : (l.length + l2.length) * by_ ≤ (l.length + l2.length) * 1000 := Nat.mul_le_mul_left _ hby
      omega) hB ?_
    intro v' w' hown' hg' _
    refine h v' w' ?_ ((Below.refl B w).grown hg' hB (fun k hk => (World.ownsRow.lt hown k hk).1)) hg'
    unfold OL
    rw [List.flatMap_append, List.length_append]
    exact hown'
/-- The elements from the i-th on. -/
theorem SL.drop {α : Type} {k : Nat} {enc : α → List Value} {w : World} {A : Option Addr} {n c i : Nat} {l : List α} (h : SL k enc w (.slice A n c) l) (hi : i ≤ n) : SL k enc w (.slice (if c = i then A else A.map (·.add (i * k))) (n - i) (c - i)) (l.drop i) := by
  obtain ⟨A', c', hv, h1, h2, h3⟩ := h
  obtain ⟨rfl, rfl, rfl⟩ := hv
  refine ⟨_, _, by rw [List.length_drop], by rw [List.length_drop]; omega, by omega, fun hp => ?_⟩
  rw [List.length_drop] at hp
  obtain ⟨b, o, rfl, hb, hc⟩ := h3 (by omega)
  rw [if_neg (by omega)]
  refine ⟨b, o + i * k, by simp [Go.WideShapes.add_plain], hb, fun j d hd r x hx => ?_⟩
  rw [List.getElem?_drop] at hd
  have := hc (i + j) d hd r x hx
  rw [Nat.add_mul] at this
  rw [show o + i * k + j * k + r = o + (i * k + j * k) + r by omega]
  exact this
/-- An empty own row out of a literal. -/
theorem OL.lit0 {α : Type} {k : Nat} {enc : α → List Value} {e : TypeId} (w : World) : OL k enc e (w.alloc (.cells #[] e)) w.heap.size (.slice (some ⟨w.heap.size, 0, none⟩) 0 0) [] :=
  ⟨by simp, .inr ⟨w.heap.size, 0, #[], rfl, Nat.le_refl _, World.alloc_heap_new w _, Nat.le_refl _, Nat.zero_le _, by simp, by simp⟩⟩
/-- An own row out of a literal. -/
theorem OL.lit {α : Type} {k : Nat} {enc : α → List Value} {e : TypeId} (hk : ∀ y, (enc y).length = k) (w : World) (l : List α) (n : Nat) (cs : Array Value) (hn : n = l.length) (hcs : cs = (l.flatMap enc).toArray) (hm : l.length ≤ 20000) : OL k enc e (w.alloc (.cells cs e)) w.heap.size (.slice (some ⟨w.heap.size, 0, none⟩) n n) l := by
  subst hn hcs
  refine ⟨Z.flat_len hk l, .inr ⟨w.heap.size, l.length, _, rfl, Nat.le_refl _, World.alloc_heap_new w _, Nat.le_refl _, by unfold maxLen; omega, by simp [Z.flat_len hk], ?_⟩⟩
  rw [← Z.flat_len hk l]
  exact List.take_length
/-- Where a row's block lies. -/
theorem OL.lt_ {α : Type} {k : Nat} {enc : α → List Value} {e : TypeId} {w : World} {B : Nat} {v : Value} {l : List α} (h : OL k enc e w B v l) : ∀ j, v.ownBlock = some j → B ≤ j ∧ j < w.heap.size := fun j hj => World.ownsRow.lt h j hj
theorem OL.cells_ {α : Type} {k : Nat} {enc : α → List Value} {e : TypeId} {w : World} {B : Nat} {v : Value} {l : List α} (h : OL k enc e w B v l) : ∀ j, v.ownBlock = some j → ∃ cs, w.heap[j]? = some (.cells cs e (0, 0)) := fun j hj => by
  rcases h.2 with ⟨rfl, _⟩ | ⟨g, cap, cur, rfl, _, hb, _⟩
  · cases hj
  · obtain rfl : g = j := by simpa [Value.ownBlock] using hj
    exact ⟨cur, hb⟩
theorem Blk.not_ol {α : Type} {k : Nat} {enc : α → List Value} {e t : TypeId} {w : World} {B C : Nat} {cs : Array Value} {v : Value} {l : List α} (h : Blk w C t cs) (hte : t ≠ e) (hr : OL k enc e w B v l) : some C ≠ v.ownBlock := fun e' => by
  obtain ⟨cs', h'⟩ := hr.cells_ C e'.symm
  have := (show w.heap[C]? = _ from h).symm.trans h'
  simp at this
  exact hte this.2
/-- The library's Sort of an own row of words. -/
theorem sort_own {w : World} {B : Nat} {v : Value} {l : List Z.BS} (h : OB w B v l) (hl : l.length ≤ 20000) :
    Calls Tryd.prog 74 #[v] w fun e w' => e = .returned (.tuple #[]) ∧ OB w' B v (l.mergeSort fun x y => decide (x ≤ y)) ∧ w.grownBy w' v.ownBlock := by
  rcases h.row.2 with ⟨rfl, h0⟩ | ⟨g, cap, cur, rfl, hg, hb, h1, h2, h3, h4⟩
  · obtain rfl := List.eq_nil_of_length_eq_zero h0
    refine (Tryd.slices_Sort_string_none none 0 w).mono ?_
    rintro e w' ⟨rfl, h5⟩
    refine ⟨rfl, ?_, ?_⟩
    · simp only [List.mergeSort_nil]
      exact OL.nil_
    · subst h5
      exact ⟨rfl, rfl, rfl, Nat.le_refl _, fun _ _ _ => rfl⟩
  · rw [Nat.mul_one] at h4
    have hH := holds_of_block hb h4
    refine (Tryd.slices_Sort_string g 0 cap l w hH (Array.getElem?_eq_some_iff.1 hb).1 (by omega)).mono ?_
    rintro e w' ⟨rfl, nn, os, rfl⟩
    refine ⟨rfl, OB.of (ownsRow_sorted (List.length_mergeSort l) hg hb h1 h2 h3) (List.length_mergeSort l), grownBy_sorted _⟩
/-- The library's Compact of an own row of words. -/
theorem compact_own {w : World} {B : Nat} {v : Value} {l : List Z.BS} (h : OB w B v l) (hl : l.length ≤ 20000) :
    Calls Tryd.prog 75 #[v] w fun e w' => ∃ v', e = .returned v' ∧ OB w' B v' (Lib.compact l) ∧ w.grownBy w' v.ownBlock := by
  rcases h.row.2 with ⟨rfl, h0⟩ | ⟨g, cap, cur, rfl, hg, hb, h1, h2, h3, h4⟩
  · obtain rfl := List.eq_nil_of_length_eq_zero h0
    refine (Tryd.slices_Compact_string_empty none 0 w).mono ?_
    rintro e w' ⟨rfl, rfl⟩
    exact ⟨_, rfl, OL.nil_, rfl, rfl, rfl, Nat.le_refl _, fun _ _ _ => rfl⟩
  · have h4' := h4
    rw [Nat.mul_one] at h4
    have hH := holds_of_block hb h4
    refine (Tryd.slices_Compact_string g 0 cap l w hH (by omega) h1).mono ?_
    rintro e w' ⟨rfl, q, rfl⟩
    have hle := Lib.compact_length_le l
    have hc := Lib.ownsRow_putRow (q := q) (k := (Lib.compact l).length) (ys := Lib.compact l ++ List.replicate (l.length - (Lib.compact l).length) []) h.row (by simp; omega) (by omega)
    rw [List.take_left] at hc
    refine ⟨_, rfl, OB.of hc rfl, ?_⟩
    have := grownBy_sorted (w := w) (g := g) (n := q) (os := #[]) (Lib.compact l ++ List.replicate (l.length - (Lib.compact l).length) []).toArray
    rw [show ∀ x : World, grow x #[] = x from fun x => by unfold grow; rw [Array.append_empty]] at this
    exact this
end Go.Proofs.YtifafmomkpkgdaaDoor
