/- Words for slices of claims and of flows of the call's own: append. -/
import Derived.Test.YtdjghmpaopfboaaClmem
import Derived.Laws.AppendOwnNone
namespace Go.Proofs.Ytdjghmpaopfboaa
open Go.RowKit
namespace Z
theorem flat_at {α : Type} {enc : α → List Value} {k : Nat} (hk : ∀ y, (enc y).length = k) {l : List α} {i j : Nat} {d : α} {x : Value} (h : l[i]? = some d) (hj : (enc d)[j]? = some x) : (l.flatMap enc)[i * k + j]? = some x := by
  have hjk : j < k := by rw [← hk d]; exact (List.getElem?_eq_some_iff.1 hj).1
  induction l generalizing i with
  | nil => simp at h
  | cons y r ih =>
    rw [List.flatMap_cons]
    cases i with
    | zero =>
      simp only [List.getElem?_cons_zero, Option.some.injEq] at h
      subst h
      rw [Nat.zero_mul, Nat.zero_add, List.getElem?_append_left (by rw [hk]; exact hjk)]
      exact hj
    | succ i =>
      rw [List.getElem?_cons_succ] at h
      rw [List.getElem?_append_right (by rw [hk, Nat.succ_mul]; omega), hk, show (i + 1) * k + j - k = i * k + j by rw [Nat.succ_mul]; omega]
      exact ih h
theorem flat_len {α : Type} {enc : α → List Value} {k : Nat} (hk : ∀ y, (enc y).length = k) (l : List α) : (l.flatMap enc).length = l.length * k := by
  induction l with
  | nil => simp
  | cons y r ih => rw [List.flatMap_cons, List.length_append, hk, ih, List.length_cons, Nat.succ_mul]; omega
end Z
/-- The slice value v is one of the call's own, from the block B on, and holds these elements of k cells each. -/
def OL {α : Type} (k : Nat) (enc : α → List Value) (e : TypeId) (w : World) (B : Nat) (v : Value) (l : List α) : Prop := w.ownsRow B e k v l.length (l.flatMap enc)
abbrev OC := OL 8 Z.Cl.vs 38
abbrev OFl := OL 5 Z.Fl.vs 36
section
variable {α : Type} {k : Nat} {enc : α → List Value} {e : TypeId} {w w' : World} {B B' : Nat} {v : Value} {l : List α}
theorem OL.nil_ : OL k enc e w B (.slice none 0 0) [] := World.ownsRow_nil _ _ _ _
theorem OL.mono (h : OL k enc e w B v l) (hB : B' ≤ B) : OL k enc e w B' v l := by
  refine ⟨h.1, ?_⟩
  rcases h.2 with h | ⟨g, cap, cur, h1, h2, h3⟩
  · exact .inl h
  · exact .inr ⟨g, cap, cur, h1, Nat.le_trans hB h2, h3⟩
theorem OL.below (h : OL k enc e w B v l) (hb : Below w.heap.size w w') : OL k enc e w' B v l := by
  refine ⟨h.1, ?_⟩
  rcases h.2 with h | ⟨g, cap, cur, h1, h2, h3, h4⟩
  · exact .inl h
  · exact .inr ⟨g, cap, cur, h1, h2, (hb.block g (Array.getElem?_eq_some_iff.1 h3).1).trans h3, h4⟩
theorem OL.alloc (h : OL k enc e w B v l) (o : Obj) : OL k enc e (w.alloc o) B v l := h.below ((Below.refl _ w).alloc (Nat.le_refl _) o)
theorem OL.base (h : OL k enc e w B v l) : ∀ j, v.ownBlock = some j → B ≤ j := fun j hj => (World.ownsRow.lt h j hj).1
theorem OL.sl (hk : ∀ y, (enc y).length = k) (h : OL k enc e w B v l) : SL k enc w v l := by
  rcases h.2 with ⟨rfl, h0⟩ | ⟨g, cap, cur, rfl, hg, hh, hn, hm, hs, ht⟩
  · have : l = [] := List.eq_nil_of_length_eq_zero h0
    subst this
    exact SL.nil_
  · refine ⟨_, cap, rfl, hn, hm, fun _ => ⟨g, 0, rfl, (Array.getElem?_eq_some_iff.1 hh).1, fun i d hd j x hx => ?_⟩⟩
    have hj := Z.flat_at hk hd hx
    have hlt := (List.getElem?_eq_some_iff.1 hj).1
    rw [Z.flat_len hk] at hlt
    rw [Nat.zero_add, World.ownsRow.cellAt h _ hlt]
    exact hj
end
theorem Z.Fl.vs_len (x : Z.Fl) : x.vs.length = 5 := rfl
theorem Z.Cl.vs_len (x : Z.Cl) : x.vs.length = 8 := rfl
theorem infoC : ∃ i z, Try.prog.info? 38 = some i ∧ i.zero = some z ∧ i.size = 8 ∧ i.bytes = 96 ∧ z.cells.size = 8 := by
  have h : ((Try.prog.info? 38).bind fun i => i.zero.map fun z => (i.size, i.bytes, z.cells.size)) = some (8, 96, 8) := by kernel_rfl
  rw [Option.bind_eq_some_iff] at h
  obtain ⟨i, hi, he⟩ := h
  rw [Option.map_eq_some_iff] at he
  obtain ⟨z, hz, he⟩ := he
  simp only [Prod.mk.injEq] at he
  exact ⟨i, z, hi, hz, he.1, he.2.1, he.2.2⟩
theorem infoF : ∃ i z, Try.prog.info? 36 = some i ∧ i.zero = some z ∧ i.size = 5 ∧ i.bytes = 72 ∧ z.cells.size = 5 := by
  have h : ((Try.prog.info? 36).bind fun i => i.zero.map fun z => (i.size, i.bytes, z.cells.size)) = some (5, 72, 5) := by kernel_rfl
  rw [Option.bind_eq_some_iff] at h
  obtain ⟨i, hi, he⟩ := h
  rw [Option.map_eq_some_iff] at he
  obtain ⟨z, hz, he⟩ := he
  simp only [Prod.mk.injEq] at he
  exact ⟨i, z, hi, hz, he.1, he.2.1, he.2.2⟩
theorem appL {α : Type} {k by_ : Nat} {enc : α → List Value} {e t : TypeId} {P : Program} {ops : Array Oper} {rest : List Oper} {o : Oper} {a : Act} {Q : Exit → Act → World → Prop} (hk : ∀ y, (enc y).length = k) (h1 : ∀ y, ∀ u ∈ enc y, u.oneCell' = true) (hgd : o.guard = none) (s x : Operand)
    (ho : o.op = .call { callee := .builtin .append, args := #[s, x], argTypes := #[t, t] }) (hI : ∃ i z, P.info? e = some i ∧ i.zero = some z ∧ i.size = k ∧ i.bytes = by_ ∧ z.cells.size = k) (hby : by_ ≤ 1000) (hk0 : 0 < k) (ht : P.underlying t = some (.slice e))
    (w : World) (B : Nat) (v : Value) (l : List α) (y : α) (arr : Array Value) (harr : arr = (enc y).toArray) (hs : a.eval s = v) (hown : OL k enc e w B v l) (hx : a.eval x = .slice (some ⟨w.heap.size, 0, none⟩) 1 1)
    (hlen : l.length ≤ 20000) (hB : B ≤ w.heap.size)
    (h : ∀ v' w', OL k enc e w' B v' (l ++ [y]) → Below B w w' → w.grownBy w' v.ownBlock → wpList P ops Q rest (a.put o.dst v') w') :
    wpList P ops Q (o :: rest) a (w.alloc (.cells arr e)) := by
  obtain ⟨i, z, hi, hz, hsz, hbs, hzs⟩ := hI
  subst harr
  refine wpList_append_own _ hgd s x t ho B e i z k by_ ht hi hz hsz hbs hzs hk0 v l.length (l.flatMap enc) hs (World.ownsRow.alloc hown _) ⟨w.heap.size, 0, none⟩ 1 1 (enc y) hx (by rw [hk, Nat.one_mul]) (fun j u hu => ?_) (h1 y) (by unfold maxLen; omega) (by
      have : (l.length + 1) * by_ ≤ (l.length + 1) * 1000 := Nat.mul_le_mul_left _ hby
      omega) (by simp; omega) ?_
  · rw [Go.WideShapes.add_plain, Nat.zero_add, (Blk.new w e _).cell j]
    simpa using hu
  · intro v' w' hown' hg _
    refine h v' w' ?_ ?_ ?_
    · unfold OL
      rw [List.flatMap_append, List.length_append]
      simpa using hown'
    · exact ((Below.refl B w).alloc hB _).grown hg (by simp; omega) (fun k hk => (World.ownsRow.lt hown k hk).1)
    · exact (World.grownBy_alloc w _ _).trans hg
theorem Z.Cl.one (y : Z.Cl) : ∀ u ∈ y.vs, u.oneCell' = true := by
  intro u hu
  simp only [Z.Cl.vs, List.mem_cons, List.not_mem_nil, or_false] at hu
  rcases hu with rfl | rfl | rfl | rfl | rfl | rfl | rfl | rfl <;> rfl
theorem Z.Fl.one (y : Z.Fl) : ∀ u ∈ y.vs, u.oneCell' = true := by
  intro u hu
  simp only [Z.Fl.vs, List.mem_cons, List.not_mem_nil, or_false] at hu
  rcases hu with rfl | rfl | rfl | rfl | rfl <;> rfl
end Go.Proofs.Ytdjghmpaopfboaa
