/- Words for trees in memory: slices of elements of several cells, own ones too; expressions and contracts. -/
import Derived.Test.YtifafmomkpkgdaaDoorZwrd
import Derived.Test.YtifafmomkpkgdaaDoorMi
import Derived.Laws.AppendOwnNone
import Derived.Lib.Hide
import Derived.WalkKit
import Derived.WalkSpells
import Derived.WalkLawsBesides
namespace Go.Proofs.YtifafmomkpkgdaaDoor
open Go.RowKit
/-- The slice value v reads, in the world w, as these elements of k cells each. -/
def SL {α : Type} (k : Nat) (enc : α → List Value) (w : World) (v : Value) (zs : List α) : Prop :=
  ∃ (A : Option Addr) (c : Nat), v = .slice A zs.length c ∧ zs.length ≤ c ∧ c ≤ maxLen ∧
    (0 < zs.length → ∃ b o, A = some ⟨b, o, none⟩ ∧ b < w.heap.size ∧ ∀ (i : Nat) (d : α), zs[i]? = some d → ∀ (j : Nat) (x : Value), (enc d)[j]? = some x → w.cell? ⟨b, o + i * k + j, none⟩ = some x)
section
variable {α : Type} {k : Nat} {enc : α → List Value} {w w' : World} {v : Value} {zs : List α}
theorem SL.below (h : SL k enc w v zs) (hb : Below w.heap.size w w') : SL k enc w' v zs := by
  obtain ⟨A, c, hv, h1, h2, h3⟩ := h
  refine ⟨A, c, hv, h1, h2, fun hp => ?_⟩
  obtain ⟨b, o, hA, hlt, hc⟩ := h3 hp
  exact ⟨b, o, hA, Nat.lt_of_lt_of_le hlt hb.size, fun i d hd j x hx => (hb.cell (p := ⟨b, o + i * k + j, none⟩) hlt).trans (hc i d hd j x hx)⟩
theorem SL.alloc (h : SL k enc w v zs) (o : Obj) : SL k enc (w.alloc o) v zs := h.below ((Below.refl _ w).alloc (Nat.le_refl _) o)
theorem SL.nil_ : SL k enc w (.slice none 0 0) [] := ⟨none, 0, rfl, Nat.le_refl _, Nat.zero_le _, fun h => absurd h (by simp)⟩
end
/-- Where such a slice lies. -/
theorem SL.at_ {α : Type} {k : Nat} {enc : α → List Value} {w : World} {A : Option Addr} {n c : Nat} {zs : List α} (h : SL k enc w (.slice A n c) zs) (h0 : 0 < zs.length) :
    ∃ b o, A = some ⟨b, o, none⟩ ∧ b < w.heap.size ∧ ∀ (i : Nat) (d : α), zs[i]? = some d → ∀ (j : Nat) (x : Value), (enc d)[j]? = some x → w.cell? ⟨b, o + i * k + j, none⟩ = some x := by
  obtain ⟨A', c', hv, h1, h2, h3⟩ := h
  obtain ⟨rfl, rfl, rfl⟩ := hv
  exact h3 h0
/-! Own slices. -/
namespace Z
theorem flat_at {α : Type} {enc : α → List Value} {k : Nat} (hk : ∀ y, (enc y).length = k) {l : List α} {i j : Nat} {d : α} {x : Value} (h : l[i]? = some d) (hj : (enc d)[j]? = some x) : (l.flatMap enc)[i * k + j]? = some x := by
  have hjk : j < k := by rw [← hk d]; exact (List.getElem?_eq_some_iff.1 hj).1
  induction l generalizing i with
  | nil => simp at h
  | cons y r ih =>
    rw [List.flatMap_cons]
    cases i with
    | zero =>
      simp only [List.getElem?_cons_zero, Option.some.injEq] at h
      subst h
      rw [Nat.zero_mul, Nat.zero_add, List.getElem?_append_left (by rw [hk]; exact hjk)]
      exact hj
    | succ i =>
      rw [List.getElem?_cons_succ] at h
      rw [List.getElem?_append_right (by rw [hk, Nat.succ_mul]; omega), hk, show (i + 1) * k + j - k = i * k + j by rw [Nat.succ_mul]; omega]
      exact ih h
theorem flat_len {α : Type} {enc : α → List Value} {k : Nat} (hk : ∀ y, (enc y).length = k) (l : List α) : (l.flatMap enc).length = l.length * k := by
  induction l with
  | nil => simp
  | cons y r ih => rw [List.flatMap_cons, List.length_append, hk, ih, List.length_cons, Nat.succ_mul]; omega
end Z
/-- The slice value v is one of the call's own, from the block B on, and holds these elements of k cells each. -/
def OL {α : Type} (k : Nat) (enc : α → List Value) (e : TypeId) (w : World) (B : Nat) (v : Value) (l : List α) : Prop := w.ownsRow B e k v l.length (l.flatMap enc)
section
variable {α : Type} {k : Nat} {enc : α → List Value} {e : TypeId} {w w' : World} {B B' : Nat} {v : Value} {l : List α}
theorem OL.nil_ : OL k enc e w B (.slice none 0 0) [] := World.ownsRow_nil _ _ _ _
theorem OL.mono (h : OL k enc e w B v l) (hB : B' ≤ B) : OL k enc e w B' v l := by
  refine ⟨h.1, ?_⟩
  rcases h.2 with h | ⟨g, cap, cur, h1, h2, h3⟩
  · exact .inl h
  · exact .inr ⟨g, cap, cur, h1, Nat.le_trans hB h2, h3⟩
theorem OL.below (h : OL k enc e w B v l) (hb : Below w.heap.size w w') : OL k enc e w' B v l := by
  refine ⟨h.1, ?_⟩
  rcases h.2 with h | ⟨g, cap, cur, h1, h2, h3, h4⟩
  · exact .inl h
  · exact .inr ⟨g, cap, cur, h1, h2, (hb.block g (Array.getElem?_eq_some_iff.1 h3).1).trans h3, h4⟩
theorem OL.alloc (h : OL k enc e w B v l) (o : Obj) : OL k enc e (w.alloc o) B v l := h.below ((Below.refl _ w).alloc (Nat.le_refl _) o)
theorem OL.base (h : OL k enc e w B v l) : ∀ j, v.ownBlock = some j → B ≤ j := fun j hj => (World.ownsRow.lt h j hj).1
theorem OL.sl (hk : ∀ y, (enc y).length = k) (h : OL k enc e w B v l) : SL k enc w v l := by
  rcases h.2 with ⟨rfl, h0⟩ | ⟨g, cap, cur, rfl, hg, hh, hn, hm, hs, ht⟩
  · have : l = [] := List.eq_nil_of_length_eq_zero h0
    subst this
    exact SL.nil_
  · refine ⟨_, cap, rfl, hn, hm, fun _ => ⟨g, 0, rfl, (Array.getElem?_eq_some_iff.1 hh).1, fun i d hd j x hx => ?_⟩⟩
    have hj := Z.flat_at hk hd hx
    have hlt := (List.getElem?_eq_some_iff.1 hj).1
    rw [Z.flat_len hk] at hlt
    rw [Nat.zero_add, World.ownsRow.cellAt h _ hlt]
    exact hj
end
theorem appL {α : Type} {k by_ : Nat} {enc : α → List Value} {e t : TypeId} {P : Program} {ops : Array Oper} {rest : List Oper} {o : Oper} {a : Act} {Q : Exit → Act → World → Prop} (hk : ∀ y, (enc y).length = k) (h1 : ∀ y, ∀ u ∈ enc y, u.oneCell' = true) (hgd : o.guard = none) (s x : Operand)
    (ho : o.op = .call { callee := .builtin .append, args := #[s, x], argTypes := #[t, t] }) (hI : ∃ i z, P.info? e = some i ∧ i.zero = some z ∧ i.size = k ∧ i.bytes = by_ ∧ z.cells.size = k) (hby : by_ ≤ 1000) (hk0 : 0 < k) (ht : P.underlying t = some (.slice e))
    (w : World) (B : Nat) (v : Value) (l : List α) (y : α) (arr : Array Value) (harr : arr = (enc y).toArray) (hs : a.eval s = v) (hown : OL k enc e w B v l) (hx : a.eval x = .slice (some ⟨w.heap.size, 0, none⟩) 1 1)
    (hlen : l.length ≤ 20000) (hB : B ≤ w.heap.size)
    (h : ∀ v' w', OL k enc e w' B v' (l ++ [y]) → Below B w w' → w.grownBy w' v.ownBlock → wpList P ops Q rest (a.put o.dst v') w') :
    wpList P ops Q (o :: rest) a (w.alloc (.cells arr e)) := by
  obtain ⟨i, z, hi, hz, hsz, hbs, hzs⟩ := hI
  subst harr
  refine wpList_append_own _ hgd s x t ho B e i z k by_ ht hi hz hsz hbs hzs hk0 v l.length (l.flatMap enc) hs (World.ownsRow.alloc hown _) ⟨w.heap.size, 0, none⟩ 1 1 (enc y) hx (by rw [hk, Nat.one_mul]) (fun j u hu => ?_) (h1 y) (by unfold maxLen; omega) (by
      have : (l.length + 1) * by_ ≤ (l.length + 1) * 1000 := Nat.mul_le_mul_left _ hby
      omega) (by simp; omega) ?_
  · rw [Go.WideShapes.add_plain, Nat.zero_add, (Blk.new w e _).cell j]
    simpa using hu
  · intro v' w' hown' hg _
    refine h v' w' ?_ ?_ ?_
    · unfold OL
      rw [List.flatMap_append, List.length_append]
      simpa using hown'
    · exact ((Below.refl B w).alloc hB _).grown hg (by simp; omega) (fun k hk => (World.ownsRow.lt hown k hk).1)
    · exact (World.grownBy_alloc w _ _).trans hg
theorem SL.shape {α : Type} {k : Nat} {enc : α → List Value} {w : World} {v : Value} {zs : List α} (h : SL k enc w v zs) : ∃ A c, v = .slice A zs.length c ∧ zs.length ≤ c ∧ c ≤ maxLen := by
  obtain ⟨A, c, h1, h2, h3, _⟩ := h
  exact ⟨A, c, h1, h2, h3⟩
theorem OL.shape {α : Type} {k : Nat} {enc : α → List Value} {e : TypeId} {w : World} {B : Nat} {v : Value} {l : List α} (h : OL k enc e w B v l) : ∃ A c, v = .slice A l.length c := by
  rcases h.2 with ⟨rfl, h0⟩ | ⟨g, cap, cur, rfl, _⟩
  · exact ⟨none, 0, by rw [h0]⟩
  · exact ⟨_, _, rfl⟩
theorem OL.kept {α : Type} {k : Nat} {enc : α → List Value} {e : TypeId} {w w' : World} {B : Nat} {v : Value} {l : List α} {row : Option Nat} (h : OL k enc e w B v l) (hg : w.grownBy w' row) (hne : v.ownBlock = none ∨ v.ownBlock ≠ row) : OL k enc e w' B v l := World.ownsRow.kept h hg hne
/-- The cell of element k of a slice of one-cell elements. -/
theorem SL.cell1 {α : Type} {enc : α → List Value} {w : World} {A : Option Addr} {n c k : Nat} {zs : List α} {d : α} {x : Value} (h : SL 1 enc w (.slice A n c) zs) (hd : zs[k]? = some d) (hx : enc d = [x]) :
    ∃ b o, A = some ⟨b, o, none⟩ ∧ b < w.heap.size ∧ w.cell? ⟨b, o + k, none⟩ = some x := by
  have hk : k < zs.length := (List.getElem?_eq_some_iff.1 hd).1
  obtain ⟨b, o, rfl, hb, hc⟩ := h.at_ (by omega)
  have := hc k d hd 0 x (by rw [hx]; rfl)
  rw [Nat.mul_one, Nat.add_zero] at this
  exact ⟨b, o, rfl, hb, this⟩

theorem appL1 {α : Type} {k by_ : Nat} {enc : α → List Value} {e t : TypeId} {P : Program} {ops : Array Oper} {rest : List Oper} {o : Oper} {a : Act} {Q : Exit → Act → World → Prop} (y : α) (h1 : ∀ u ∈ enc y, u.oneCell' = true) (hk : (enc y).length = k) (hgd : o.guard = none) (s x : Operand)
    (ho : o.op = .call { callee := .builtin .append, args := #[s, x], argTypes := #[t, t] }) (hI : ∃ i z, P.info? e = some i ∧ i.zero = some z ∧ i.size = k ∧ i.bytes = by_ ∧ z.cells.size = k) (hby : by_ ≤ 1000) (hk0 : 0 < k) (ht : P.underlying t = some (.slice e))
    (w : World) (B : Nat) (v : Value) (l : List α) (arr : Array Value) (harr : arr = (enc y).toArray) (hs : a.eval s = v) (hown : OL k enc e w B v l) (hx : a.eval x = .slice (some ⟨w.heap.size, 0, none⟩) 1 1)
    (hlen : l.length ≤ 20000) (hB : B ≤ w.heap.size)
    (h : ∀ v' w', OL k enc e w' B v' (l ++ [y]) → Below B w w' → w.grownBy w' v.ownBlock → wpList P ops Q rest (a.put o.dst v') w') :
    wpList P ops Q (o :: rest) a (w.alloc (.cells arr e)) := by
  obtain ⟨i, z, hi, hz, hsz, hbs, hzs⟩ := hI
  subst harr
  refine wpList_append_own _ hgd s x t ho B e i z k by_ ht hi hz hsz hbs hzs hk0 v l.length (l.flatMap enc) hs (World.ownsRow.alloc hown _) ⟨w.heap.size, 0, none⟩ 1 1 (enc y) hx (by rw [hk, Nat.one_mul]) (fun j u hu => ?_) h1 (by unfold maxLen; omega) (by
      have : (l.length + 1) * by_ ≤ (l.length + 1) * 1000 := Nat.mul_le_mul_left _ hby
      omega) (by simp; omega) ?_
  · rw [Go.WideShapes.add_plain, Nat.zero_add, (Blk.new w e _).cell j]
    simpa using hu
  · intro v' w' hown' hg _
    refine h v' w' ?_ ?_ ?_
    · unfold OL
      rw [List.flatMap_append, List.length_append]
      simpa using hown'
    · exact ((Below.refl B w).alloc hB _).grown hg (by simp; omega) (fun k hk => (World.ownsRow.lt hown k hk).1)
    · exact (World.grownBy_alloc w _ _).trans hg
def dE (d : Int) : List Value := [.int .i64 d]
def sE (s : ByteArray) : List Value := [.string s]
abbrev SD := SL 1 dE
abbrev SR := SL 1 sE
theorem dE_len (x : Int) : (dE x).length = 1 := rfl
theorem sE_len (x : ByteArray) : (sE x).length = 1 := rfl
/-! Elements that hold slices. -/
def Dp {α β : Type} (k : Nat) (enc : α → List Value) (R : α → β → Prop) (w : World) (v : Value) (l : List β) : Prop :=
  ∃ raws : List α, SL k enc w v raws ∧ raws.length = l.length ∧ ∀ (i : Nat) (r : α) (x : β), raws[i]? = some r → l[i]? = some x → R r x
section
variable {α β : Type} {k : Nat} {enc : α → List Value} {R R' : α → β → Prop} {w w' : World} {v : Value} {l : List β}
theorem Dp.below (h : Dp k enc R w v l) (hb : Below w.heap.size w w') (hR : ∀ r x, R r x → R' r x) : Dp k enc R' w' v l := by
  obtain ⟨raws, h1, h2, h3⟩ := h
  exact ⟨raws, h1.below hb, h2, fun i r x hr hx => hR r x (h3 i r x hr hx)⟩
theorem Dp.shape (h : Dp k enc R w v l) : ∃ A c, v = .slice A l.length c ∧ l.length ≤ c ∧ c ≤ maxLen := by
  obtain ⟨raws, ⟨A, c, h1, h2, h3, _⟩, h4, _⟩ := h
  rw [h4] at h1 h2
  exact ⟨A, c, h1, h2, h3⟩
theorem Dp.nil_ : Dp k enc R w (.slice none 0 0) [] := ⟨[], SL.nil_, rfl, fun i r x hr => by simp at hr⟩
/-- Element i. -/
theorem Dp.at_ {A : Option Addr} {n c i : Nat} {x : β} (h : Dp k enc R w (.slice A n c) l) (hx : l[i]? = some x) :
    ∃ b o r, A = some ⟨b, o, none⟩ ∧ b < w.heap.size ∧ (∀ (j : Nat) (y : Value), (enc r)[j]? = some y → w.cell? ⟨b, o + i * k + j, none⟩ = some y) ∧ R r x := by
  obtain ⟨raws, h1, h2, h3⟩ := h
  have hk : i < raws.length := by rw [h2]; exact (List.getElem?_eq_some_iff.1 hx).1
  have hr : raws[i]? = some raws[i] := List.getElem?_eq_getElem hk
  obtain ⟨b, o, rfl, hb, hc⟩ := h1.at_ (by omega)
  exact ⟨b, o, raws[i], rfl, hb, hc i _ hr, h3 i _ x hr hx⟩
end
/-! Expressions. -/
def xvs (r : Z.XN × Value) : List Value := [.int .u8 r.1.k, .string r.1.rat, .string r.1.name, .int .i64 r.1.date, r.2]
theorem xvs_len (r : Z.XN × Value) : (xvs r).length = 5 := rfl
/-- The node and the slice value read, in the world w, as this expression. -/
def XV (w : World) : (n : Nat) → Z.Ex n → Z.XN × Value → Prop
  | 0, _, _ => False
  | n + 1, x, r => r.1 = x.top ∧ (0 ≤ r.1.k ∧ r.1.k ≤ 255) ∧ Dp 5 xvs (fun r y => XV w n y r) w r.2 x.sub
/-- The slice value v reads, in the world w, as these expressions. -/
abbrev ES (w : World) (n : Nat) (v : Value) (l : List (Z.Ex n)) : Prop := Dp 5 xvs (fun r y => XV w n y r) w v l
theorem XV.below {w w' : World} (hb : Below w.heap.size w w') : ∀ (n : Nat) {x : Z.Ex n} {r : Z.XN × Value}, XV w n x r → XV w' n x r
  | 0, _, _, h => h
  | n + 1, _, _, h => ⟨h.1, h.2.1, Dp.below h.2.2 hb fun _ _ h => XV.below hb n h⟩
theorem ES.below {w w' : World} (hb : Below w.heap.size w w') {n : Nat} {v : Value} {l : List (Z.Ex n)} (h : ES w n v l) : ES w' n v l := Dp.below h hb fun _ _ h => XV.below hb n h
/-- The cells of expression i. -/
theorem ES.cells {w : World} {n m c i : Nat} {A : Option Addr} {l : List (Z.Ex n)} {x : Z.Ex n} (h : ES w n (.slice A m c) l) (hx : l[i]? = some x) :
    ∃ b o a u, A = some ⟨b, o, none⟩ ∧ b < w.heap.size ∧ w.cell? ⟨b, o + i * 5, none⟩ = some (.int .u8 a.k) ∧ w.cell? ⟨b, o + i * 5 + 1, none⟩ = some (.string a.rat) ∧ w.cell? ⟨b, o + i * 5 + 2, none⟩ = some (.string a.name) ∧
      w.cell? ⟨b, o + i * 5 + 3, none⟩ = some (.int .i64 a.date) ∧ w.cell? ⟨b, o + i * 5 + 4, none⟩ = some u ∧ XV w n x (a, u) := by
  obtain ⟨b, o, ⟨a, u⟩, rfl, hb, hc, hu⟩ := Dp.at_ h hx
  exact ⟨b, o, a, u, rfl, hb, hc 0 _ rfl, hc 1 _ rfl, hc 2 _ rfl, hc 3 _ rfl, hc 4 _ rfl, hu⟩
theorem XV.open_ {w : World} {n : Nat} {x : Z.Ex (n + 1)} {a : Z.XN} {u : Value} (h : XV w (n + 1) x (a, u)) : a = x.top ∧ ES w n u x.sub := ⟨h.1, h.2.2⟩
theorem XV.kind {w : World} {n : Nat} {x : Z.Ex (n + 1)} {a : Z.XN} {u : Value} (h : XV w (n + 1) x (a, u)) : 0 ≤ a.k ∧ a.k ≤ 255 := h.2.1
theorem XV.shut {w : World} {n : Nat} {x : Z.Ex (n + 1)} {u : Value} (hk : 0 ≤ x.top.k ∧ x.top.k ≤ 255) (h : ES w n u x.sub) : XV w (n + 1) x (x.top, u) := ⟨rfl, hk, h⟩
theorem XV.shape {w : World} : ∀ {n : Nat} {x : Z.Ex n} {a : Z.XN} {u : Value}, XV w n x (a, u) → ∃ A k c, u = .slice A k c
  | 0, _, _, _, h => h.elim
  | _ + 1, _, _, _, h => by
    obtain ⟨A, c, e, _⟩ := Dp.shape h.2.2
    exact ⟨A, _, c, e⟩
/-! Contracts. -/
/-- A contract as it lies: its node, the slice of its expression, its days, its parts. -/
structure CR (m : Nat) where
  a : Z.CN m
  u : Value
  dv : Value
  sv : Value
section
variable {m : Nat}
def CR.vs (r : CR m) : List Value := [.int .u8 r.a.k, .string r.a.fr, .string r.a.tu, .string r.a.nm, .int .u8 r.a.ex.top.k, .string r.a.ex.top.rat, .string r.a.ex.top.name, .int .i64 r.a.ex.top.date, r.u, .int .i64 r.a.date, r.dv, r.sv]
theorem CR.vs_len (r : CR m) : r.vs.length = 12 := rfl
/-- What lies reads, in the world w, as this contract. -/
def CV (w : World) : (n : Nat) → Z.Co m n → CR m → Prop
  | 0, _, _ => False
  | n + 1, c, r => r.a = c.top ∧ (0 ≤ r.a.k ∧ r.a.k ≤ 255) ∧ XV w (m + 1) r.a.ex (r.a.ex.top, r.u) ∧ SD w r.dv r.a.dates ∧ Dp 12 (CR.vs (m := m)) (fun r y => CV w n y r) w r.sv c.sub
abbrev CS (w : World) (n : Nat) (v : Value) (l : List (Z.Co m n)) : Prop := Dp 12 (CR.vs (m := m)) (fun r y => CV w n y r) w v l
theorem CV.below {w w' : World} (hb : Below w.heap.size w w') : ∀ (n : Nat) {c : Z.Co m n} {r : CR m}, CV w n c r → CV w' n c r
  | 0, _, _, h => h
  | n + 1, _, _, h => ⟨h.1, h.2.1, XV.below hb (m + 1) h.2.2.1, SL.below h.2.2.2.1 hb, Dp.below h.2.2.2.2 hb fun _ _ h => CV.below hb n h⟩
theorem CS.below {w w' : World} (hb : Below w.heap.size w w') {n : Nat} {v : Value} {l : List (Z.Co m n)} (h : CS w n v l) : CS w' n v l := Dp.below h hb fun _ _ h => CV.below hb n h
/-- The cells of contract i. -/
theorem CS.cells {w : World} {n k c i : Nat} {A : Option Addr} {l : List (Z.Co m n)} {x : Z.Co m n} (h : CS w n (.slice A k c) l) (hx : l[i]? = some x) :
    ∃ (b o : Nat) (a : Z.CN m) (u dv sv : Value), A = some ⟨b, o, none⟩ ∧ b < w.heap.size ∧ w.cell? ⟨b, o + i * 12, none⟩ = some (.int .u8 a.k) ∧ w.cell? ⟨b, o + i * 12 + 1, none⟩ = some (.string a.fr) ∧ w.cell? ⟨b, o + i * 12 + 2, none⟩ = some (.string a.tu) ∧
      w.cell? ⟨b, o + i * 12 + 3, none⟩ = some (.string a.nm) ∧ w.cell? ⟨b, o + i * 12 + 4, none⟩ = some (.int .u8 a.ex.top.k) ∧ w.cell? ⟨b, o + i * 12 + 5, none⟩ = some (.string a.ex.top.rat) ∧
      w.cell? ⟨b, o + i * 12 + 6, none⟩ = some (.string a.ex.top.name) ∧ w.cell? ⟨b, o + i * 12 + 7, none⟩ = some (.int .i64 a.ex.top.date) ∧ w.cell? ⟨b, o + i * 12 + 8, none⟩ = some u ∧
      w.cell? ⟨b, o + i * 12 + 9, none⟩ = some (.int .i64 a.date) ∧ w.cell? ⟨b, o + i * 12 + 10, none⟩ = some dv ∧ w.cell? ⟨b, o + i * 12 + 11, none⟩ = some sv ∧ CV w n x ⟨a, u, dv, sv⟩ := by
  obtain ⟨b, o, ⟨a, u, dv, sv⟩, rfl, hb, hc, hv⟩ := Dp.at_ h hx
  exact ⟨b, o, a, u, dv, sv, rfl, hb, hc 0 _ rfl, hc 1 _ rfl, hc 2 _ rfl, hc 3 _ rfl, hc 4 _ rfl, hc 5 _ rfl, hc 6 _ rfl, hc 7 _ rfl, hc 8 _ rfl, hc 9 _ rfl, hc 10 _ rfl, hc 11 _ rfl, hv⟩
theorem CV.open_ {w : World} {n : Nat} {c : Z.Co m (n + 1)} {a : Z.CN m} {u dv sv : Value} (h : CV w (n + 1) c ⟨a, u, dv, sv⟩) : a = c.top ∧ XV w (m + 1) a.ex (a.ex.top, u) ∧ SD w dv a.dates ∧ CS w n sv c.sub := ⟨h.1, h.2.2⟩
theorem CV.kind {w : World} {n : Nat} {c : Z.Co m (n + 1)} {a : Z.CN m} {u dv sv : Value} (h : CV w (n + 1) c ⟨a, u, dv, sv⟩) : 0 ≤ a.k ∧ a.k ≤ 255 := h.2.1
theorem CV.shape {w : World} : ∀ {n : Nat} {c : Z.Co m n} {a : Z.CN m} {u dv sv : Value}, CV w n c ⟨a, u, dv, sv⟩ → (∃ A k c, u = .slice A k c) ∧ (∃ A k c, dv = .slice A k c) ∧ ∃ A k c, sv = .slice A k c
  | 0, _, _, _, _, _, h => h.elim
  | _ + 1, _, _, _, _, _, h => by
    obtain ⟨A, c, e, _⟩ := SL.shape h.2.2.2.1
    obtain ⟨A', c', e', _⟩ := Dp.shape h.2.2.2.2
    exact ⟨XV.shape h.2.2.1, ⟨A, _, c, e⟩, ⟨A', _, c', e'⟩⟩
theorem CV.shut {w : World} {n : Nat} {c : Z.Co m (n + 1)} {u dv sv : Value} (hk : 0 ≤ c.top.k ∧ c.top.k ≤ 255) (h1 : XV w (m + 1) c.top.ex (c.top.ex.top, u)) (h2 : SD w dv c.top.dates) (h3 : CS w n sv c.sub) : CV w (n + 1) c ⟨c.top, u, dv, sv⟩ := ⟨rfl, hk, h1, h2, h3⟩
end
end Go.Proofs.YtifafmomkpkgdaaDoor
