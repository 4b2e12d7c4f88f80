/- Words for own rows whose elements hold slices of the call's own: what stays when the row grows. -/
import Derived.Test.YtifafmomkpkgdaaDoorOwl
import Derived.Test.YtifafmomkpkgdaaDoorFla
namespace Go.Proofs.YtifafmomkpkgdaaDoor
open Go.RowKit Go.Shelf
/-- The world W holds the blocks from B to N that w holds. -/
def Fr (B N : Nat) (w W : World) : Prop := ∀ k, B ≤ k → k < N → W.heap[k]? = w.heap[k]?
/-- .. but that of the row v. -/
def FrX (B N : Nat) (v : Value) (w W : World) : Prop := ∀ k, B ≤ k → k < N → v.ownBlock ≠ some k → W.heap[k]? = w.heap[k]?
theorem Fr.x {B N : Nat} {v : Value} {w W : World} (h : Fr B N w W) : FrX B N v w W := fun k h1 h2 _ => h k h1 h2
theorem OL.at_ {α : Type} {k : Nat} {enc : α → List Value} {e : TypeId} {w W : World} {B : Nat} {v : Value} {l : List α} (h : OL k enc e w B v l) (hw : ∀ g, v.ownBlock = some g → W.heap[g]? = w.heap[g]?) : OL k enc e W B v l := by
  refine ⟨h.1, ?_⟩
  rcases h.2 with h | ⟨g, cap, cur, rfl, h2, h3, h4⟩
  · exact .inl h
  · exact .inr ⟨g, cap, cur, rfl, h2, (hw g rfl).trans h3, h4⟩
section
variable {α β : Type} {k : Nat} {enc : α → List Value} {e : TypeId} {R : World → α → β → Prop} {B : Nat} {w w' : World} {v v' : Value} {raws : List α} {l : List β}
/-- An own row of elements that hold slices of the call's own: each element reads so as long as the blocks from B on, but the row's own, stay. -/
structure RowI (k : Nat) (enc : α → List Value) (e : TypeId) (R : World → α → β → Prop) (B : Nat) (w : World) (v : Value) (raws : List α) (l : List β) : Prop where
  own : OL k enc e w B v raws
  len : raws.length = l.length
  rel : ∀ W, FrX B w.heap.size v w W → ∀ (i : Nat) (r : α) (y : β), raws[i]? = some r → l[i]? = some y → R W r y
theorem RowI.nil_ : RowI k enc e R B w (.slice none 0 0) [] [] := ⟨OL.nil_, rfl, fun _ _ i r _ h => by simp at h⟩
theorem RowI.below (h : RowI k enc e R B w v raws l) (hb : Below w.heap.size w w') : RowI k enc e R B w' v raws l :=
  ⟨OL.below h.own hb, h.len, fun W hW => h.rel W fun j h1 h2 h3 => (hW j h1 (Nat.lt_of_lt_of_le h2 hb.size) h3).trans (hb.block j h2)⟩
theorem RowI.alloc (h : RowI k enc e R B w v raws l) (o : Obj) : RowI k enc e R B (w.alloc o) v raws l := h.below ((Below.refl _ w).alloc (Nat.le_refl _) o)
/-- A store outside the blocks from B on. -/
theorem RowI.kept {b : Nat} (h : RowI k enc e R B w v raws l) (hg : w.grownBy w' (some b)) (hb : b < B) : RowI k enc e R B w' v raws l :=
  ⟨OL.kept h.own hg (by
    cases hv : v.ownBlock with
    | none => exact .inl rfl
    | some g => exact .inr (fun e => by injection e with e; have := (h.own.lt_ g hv).1; omega)), h.len, fun W hW => h.rel W fun j h1 h2 h3 => (hW j h1 (Nat.lt_of_lt_of_le h2 hg.size) h3).trans (hg.block j h2 (fun e => by injection e with e; omega))⟩
theorem RowI.app {B1 N1 : Nat} {r : α} {y : β} (h : RowI k enc e R B w v raws l) (hown : OL k enc e w' B v' (raws ++ [r])) (hg : w.grownBy w' v.ownBlock) (hat : v'.ownBlock = v.ownBlock ∨ v'.ownBlock = some (w.heap.size + 1))
    (hB : B ≤ B1) (hN : N1 ≤ w.heap.size) (hrow : ∀ g, v.ownBlock = some g → g < B1) (hel : ∀ W, Fr B1 N1 w W → R W r y) : RowI k enc e R B w' v' (raws ++ [r]) (l ++ [y]) := by
  refine ⟨hown, by rw [List.length_append, List.length_append, h.len]; rfl, fun W hW i r' y' hr hy => ?_⟩
  have hold : ∀ j, B ≤ j → j < w.heap.size → v.ownBlock ≠ some j → W.heap[j]? = w.heap[j]? := fun j h1 h2 h3 => by
    refine (hW j h1 (Nat.lt_of_lt_of_le h2 hg.size) ?_).trans (hg.block j h2 (fun e => h3 e.symm))
    rcases hat with e | e
    · rw [e]; exact h3
    · rw [e]; intro e'; injection e' with e'; omega
  rcases Nat.lt_or_ge i raws.length with hi | hi
  · rw [List.getElem?_append_left hi] at hr
    rw [List.getElem?_append_left (by rw [← h.len]; exact hi)] at hy
    exact h.rel W hold i r' y' hr hy
  · rw [List.getElem?_append_right hi] at hr
    rw [List.getElem?_append_right (by rw [← h.len]; exact hi), ← h.len] at hy
    have h0 : i - raws.length = 0 := by
      have := (List.getElem?_eq_some_iff.1 hr).1
      simp only [List.length_cons, List.length_nil] at this
      omega
    rw [h0] at hr hy
    simp only [List.getElem?_cons_zero, Option.some.injEq] at hr hy
    subst hr hy
    exact hel W fun j h1 h2 => hold j (by omega) (by omega) (fun e => by have := hrow j e; omega)
theorem RowI.dp (hk : ∀ y, (enc y).length = k) (h : RowI k enc e R B w v raws l) {W : World} (hW : Fr B w.heap.size w W) : Dp k enc (R W) W v l :=
  ⟨raws, OL.sl hk (OL.at_ h.own fun g hg => hW g (h.own.lt_ g hg).1 (h.own.lt_ g hg).2), h.len, h.rel W hW.x⟩
end
theorem xvs_one (a : Z.XN) (A : Option Addr) (n c : Nat) : ∀ u ∈ xvs (a, .slice A n c), u.oneCell' = true := fun u hu => by
  simp only [xvs, List.mem_cons, List.not_mem_nil, or_false] at hu
  rcases hu with rfl | rfl | rfl | rfl | rfl <;> rfl
theorem cvs_one {m : Nat} (a : Z.CN m) (A1 A2 A3 : Option Addr) (n1 n2 n3 c1 c2 c3 : Nat) : ∀ u ∈ CR.vs (m := m) ⟨a, .slice A1 n1 c1, .slice A2 n2 c2, .slice A3 n3 c3⟩, u.oneCell' = true := fun u hu => by
  simp only [CR.vs, List.mem_cons, List.not_mem_nil, or_false] at hu
  rcases hu with rfl | rfl | rfl | rfl | rfl | rfl | rfl | rfl | rfl | rfl | rfl | rfl <;> rfl
theorem infoX : ∃ i z, Tryd.prog.info? 25 = some i ∧ i.zero = some z ∧ i.size = 5 ∧ i.bytes = 72 ∧ z.cells.size = 5 := by
  have h : ((Tryd.prog.info? 25).bind fun i => i.zero.map fun z => (i.size, i.bytes, z.cells.size)) = some (5, 72, 5) := by kernel_rfl
  rw [Option.bind_eq_some_iff] at h
  obtain ⟨i, hi, he⟩ := h
  rw [Option.map_eq_some_iff] at he
  obtain ⟨z, hz, he⟩ := he
  simp only [Prod.mk.injEq] at he
  exact ⟨i, z, hi, hz, he.1, he.2.1, he.2.2⟩
theorem infoCo : ∃ i z, Tryd.prog.info? 29 = some i ∧ i.zero = some z ∧ i.size = 12 ∧ i.bytes = 184 ∧ z.cells.size = 12 := by
  have h : ((Tryd.prog.info? 29).bind fun i => i.zero.map fun z => (i.size, i.bytes, z.cells.size)) = some (12, 184, 12) := by kernel_rfl
  rw [Option.bind_eq_some_iff] at h
  obtain ⟨i, hi, he⟩ := h
  rw [Option.map_eq_some_iff] at he
  obtain ⟨z, hz, he⟩ := he
  simp only [Prod.mk.injEq] at he
  exact ⟨i, z, hi, hz, he.1, he.2.1, he.2.2⟩
section
variable {α : Type} {k by_ : Nat} {enc : α → List Value} {e t : TypeId} {P : Program}
theorem run_appAt (y : α) (h1 : ∀ u ∈ enc y, u.oneCell' = true) (hk : (enc y).length = k) (hI : ∃ i z, P.info? e = some i ∧ i.zero = some z ∧ i.size = k ∧ i.bytes = by_ ∧ z.cells.size = k) (hby : by_ ≤ 1000) (hk0 : 0 < k) (ht : P.underlying t = some (.slice e))
    (w : World) (B : Nat) (v : Value) (l : List α) (arr : Array Value) (harr : arr = (enc y).toArray) (hown : OL k enc e w B v l) (hlen : l.length ≤ 20000) (hB : B ≤ w.heap.size) (ty : TypeId) :
    ∃ A m c w', (Builtin.append_ #[t, t] ty #[v, .slice (some ⟨w.heap.size, 0, none⟩) 1 1]).run P (w.alloc (.cells arr e)) = .ok (.slice A m c) w' ∧ m = l.length + 1 ∧ OL k enc e w' B (.slice A m c) (l ++ [y]) ∧ Below B w w' ∧ w.grownBy w' v.ownBlock ∧ ((Value.slice A m c).ownBlock = v.ownBlock ∨ (Value.slice A m c).ownBlock = some (w.heap.size + 1)) := by
  obtain ⟨i, z, hi, hz, hsz, hbs, hzs⟩ := hI
  subst harr
  have hsz1 : (w.alloc (.cells (enc y).toArray e)).heap.size = w.heap.size + 1 := Array.size_push _
  obtain ⟨v', w', hrun, hown', hg, _, hat⟩ := run_append_own_at (P := P) (w := w.alloc (.cells (enc y).toArray e)) B t ty e i z k by_ ht hi hz hsz hbs hzs hk0 v l.length (l.flatMap enc) (World.ownsRow.alloc hown _) ⟨w.heap.size, 0, none⟩ 1 1 (enc y) (by rw [hk, Nat.one_mul]) (fun j u hu => by
    rw [Go.WideShapes.add_plain, Nat.zero_add, (Blk.new w e _).cell j]
    simpa using hu) h1 (by unfold maxLen; omega) (by
      have : (l.length + 1) * by_ ≤ (l.length + 1) * 1000 := Nat.mul_le_mul_left _ hby
      omega) (by rw [hsz1]; omega)
  have hO : OL k enc e w' B v' (l ++ [y]) := by
    unfold OL
    rw [List.flatMap_append, List.length_append]
    simpa using hown'
  obtain ⟨A, c, rfl⟩ := OL.shape hO
  refine ⟨A, _, c, w', hrun, by simp, hO, ?_, (World.grownBy_alloc w _ _).trans hg, ?_⟩
  · exact ((Below.refl B w).alloc hB _).grown hg (by rw [hsz1]; omega) (fun k hk => (World.ownsRow.lt hown k hk).1)
  · rw [hsz1] at hat; exact hat
theorem appAt {ops : Array Oper} {rest : List Oper} {o : Oper} {a : Act} {Q : Exit → Act → World → Prop} (y : α) (h1 : ∀ u ∈ enc y, u.oneCell' = true) (hk : (enc y).length = k) (hgd : o.guard = none) (s x : Operand)
    (ho : o.op = .call { callee := .builtin .append, args := #[s, x], argTypes := #[t, t] }) (hI : ∃ i z, P.info? e = some i ∧ i.zero = some z ∧ i.size = k ∧ i.bytes = by_ ∧ z.cells.size = k) (hby : by_ ≤ 1000) (hk0 : 0 < k) (ht : P.underlying t = some (.slice e))
    (w : World) (B : Nat) (v : Value) (l : List α) (arr : Array Value) (harr : arr = (enc y).toArray) (hs : a.eval s = v) (hown : OL k enc e w B v l) (hx : a.eval x = .slice (some ⟨w.heap.size, 0, none⟩) 1 1)
    (hlen : l.length ≤ 20000) (hB : B ≤ w.heap.size)
    (h : ∀ A m c w', m = l.length + 1 → OL k enc e w' B (.slice A m c) (l ++ [y]) → Below B w w' → w.grownBy w' v.ownBlock → ((Value.slice A m c).ownBlock = v.ownBlock ∨ (Value.slice A m c).ownBlock = some (w.heap.size + 1)) → wpList P ops Q rest (a.put o.dst (.slice A m c)) w') :
    wpList P ops Q (o :: rest) a (w.alloc (.cells arr e)) := by
  obtain ⟨A, m, c, w', hrun, hm, hO, hb, hg, hat⟩ := run_appAt (t := t) y h1 hk hI hby hk0 ht w B v l arr harr hown hlen hB o.type
  refine wpList_plain hgd fun _ hK => ?_
  unfold Oper.wp execOp
  simp only [ho, resolve, invoke, builtin, Sem.run_bind, Sem.run_pure, Result.andThen_ok, List.map_toArray, List.map_cons, List.map_nil, hs, hx, hrun]
  exact hK _ _ (h A m c w' hm hO hb hg hat)
theorem fxp_appAt {ops : Array Oper} {C : World → Prop} {R : Act → World → Prop} {rest : List Oper} {o : Oper} {a : Act} (y : α) (h1 : ∀ u ∈ enc y, u.oneCell' = true) (hk : (enc y).length = k) (hgd : o.guard = none) (s x : Operand)
    (ho : o.op = .call { callee := .builtin .append, args := #[s, x], argTypes := #[t, t] }) (hI : ∃ i z, P.info? e = some i ∧ i.zero = some z ∧ i.size = k ∧ i.bytes = by_ ∧ z.cells.size = k) (hby : by_ ≤ 1000) (hk0 : 0 < k) (ht : P.underlying t = some (.slice e))
    (w : World) (B : Nat) (v : Value) (l : List α) (arr : Array Value) (harr : arr = (enc y).toArray) (hs : a.eval s = v) (hown : OL k enc e w B v l) (hx : a.eval x = .slice (some ⟨w.heap.size, 0, none⟩) 1 1)
    (hlen : l.length ≤ 20000) (hB : B ≤ w.heap.size)
    (h : ∀ A m c w', m = l.length + 1 → OL k enc e w' B (.slice A m c) (l ++ [y]) → Below B w w' → w.grownBy w' v.ownBlock → ((Value.slice A m c).ownBlock = v.ownBlock ∨ (Value.slice A m c).ownBlock = some (w.heap.size + 1)) → C w' ∧ fxP P ops C R rest (a.put o.dst (.slice A m c)) w') :
    fxP P ops C R (o :: rest) a (w.alloc (.cells arr e)) := by
  obtain ⟨A, m, c, w', hrun, hm, hO, hb, hg, hat⟩ := run_appAt (t := t) y h1 hk hI hby hk0 ht w B v l arr harr hown hlen hB o.type
  have hh := h A m c w' hm hO hb hg hat
  exact fxp_value hgd (by simp [execOp, ho, resolve, invoke, builtin, hs, hx, hrun, Result.andThen]) hh.1 hh.2
end
section
variable {P : Program} {ops : Array Oper} {md : Region.Mode} {C : World → Prop} {m : Nat} {Q : Act → World → Prop}
/-- One of two late effects. -/
theorem fx_fork {n k l : Nat} {listed : Array Bool} {a : Act} {w : World} (hk : m ≤ k) (hl : m ≤ l) (hr : Region.ready md ops listed = [k, l]) (h1 : fxL P ops (fxAny P md ops C m Q n (listed.setIfInBounds k true)) (opsAt ops [k]) a w)
    (h2 : fxL P ops (fxAny P md ops C m Q n (listed.setIfInBounds l true)) (opsAt ops [l]) a w) : fxAny P md ops C m Q (n + 1) listed a w :=
  ⟨fun h0 => (by rw [hr] at h0; cases h0), fun i hi => by
    have hi' := hi
    rw [hr] at hi
    rcases List.mem_cons.1 hi with rfl | hi
    · exact fxOp_mono (fun _ _ h' => ⟨fun h => absurd h (by omega), h'⟩) (fo_of_l hi' h1)
    · obtain rfl : i = l := by simpa using hi
      exact fxOp_mono (fun _ _ h' => ⟨fun h => absurd h (by omega), h'⟩) (fo_of_l hi' h2)⟩
theorem fxl_enter {R : Act → World → Prop} {o : Oper} {a : Act} {rest : List Oper} {w w' : World} {f : FuncId} {args : Array Value} (hg : o.guard = none) (hr : (execOp a.eval o).run P w = .ok (.enter f args) w')
    (h : Calls P f args w' fun e w'' => ∃ u, e = .returned u ∧ fxL P ops R rest (a.put o.dst u) w'') : fxL P ops R (o :: rest) a w := by
  unfold fxL
  have hw : Region.wanted o (yielded ops a.tmps) = true := by simp [Region.wanted, hg]
  rw [if_pos hw, hr]
  exact h
end
section
variable {P : Program} {ops : Array Oper} {C : World → Prop}
/-- A guarded call that is wanted. -/
theorem fxp_enterW {R : Act → World → Prop} {o : Oper} {a : Act} {rest : List Oper} {w w' : World} {f : FuncId} {args : Array Value} (hw : Region.wanted o (yielded ops a.tmps) = true) (hr : (execOp a.eval o).run P w = .ok (.enter f args) w')
    (h : Calls P f args w' fun e w'' => ∃ u, e = .returned u ∧ C w'' ∧ fxP P ops C R rest (a.put o.dst u) w'') : fxP P ops C R (o :: rest) a w := by
  unfold fxP
  rw [if_pos hw, hr]
  exact h
theorem fxp_valueW {R : Act → World → Prop} {o : Oper} {a : Act} {rest : List Oper} {w w' : World} {u : Value} (hw : Region.wanted o (yielded ops a.tmps) = true) (hr : (execOp a.eval o).run P w = .ok (.value u) w') (hC : C w')
    (h : fxP P ops C R rest (a.put o.dst u) w') : fxP P ops C R (o :: rest) a w := by
  unfold fxP
  rw [if_pos hw, hr]
  exact ⟨hC, h⟩
end
end Go.Proofs.YtifafmomkpkgdaaDoor
