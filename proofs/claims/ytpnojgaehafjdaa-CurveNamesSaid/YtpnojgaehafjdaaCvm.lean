/- Words for curves and quotes in memory: slices of elements of several cells, own ones too. -/
import Derived.Test.YtpnojgaehafjdaaZcurb
import Derived.Test.YtpnojgaehafjdaaMi
import Derived.Laws.AppendOwnNone
import Derived.Lib.Hide
namespace Go.Proofs.Ytpnojgaehafjdaa
open Go.RowKit
/-- The slice value v reads, in the world w, as these elements of k cells each. -/
def SL {α : Type} (k : Nat) (enc : α → List Value) (w : World) (v : Value) (zs : List α) : Prop :=
  ∃ (A : Option Addr) (c : Nat), v = .slice A zs.length c ∧ zs.length ≤ c ∧ c ≤ maxLen ∧
    (0 < zs.length → ∃ b o, A = some ⟨b, o, none⟩ ∧ b < w.heap.size ∧ ∀ (i : Nat) (d : α), zs[i]? = some d → ∀ (j : Nat) (x : Value), (enc d)[j]? = some x → w.cell? ⟨b, o + i * k + j, none⟩ = some x)
section
variable {α : Type} {k : Nat} {enc : α → List Value} {w w' : World} {v : Value} {zs : List α}
theorem SL.below (h : SL k enc w v zs) (hb : Below w.heap.size w w') : SL k enc w' v zs := by
  obtain ⟨A, c, hv, h1, h2, h3⟩ := h
  refine ⟨A, c, hv, h1, h2, fun hp => ?_⟩
  obtain ⟨b, o, hA, hlt, hc⟩ := h3 hp
  exact ⟨b, o, hA, Nat.lt_of_lt_of_le hlt hb.size, fun i d hd j x hx => (hb.cell (p := ⟨b, o + i * k + j, none⟩) hlt).trans (hc i d hd j x hx)⟩
theorem SL.alloc (h : SL k enc w v zs) (o : Obj) : SL k enc (w.alloc o) v zs := h.below ((Below.refl _ w).alloc (Nat.le_refl _) o)
theorem SL.nil_ : SL k enc w (.slice none 0 0) [] := ⟨none, 0, rfl, Nat.le_refl _, Nat.zero_le _, fun h => absurd h (by simp)⟩
end
/-- Where such a slice lies. -/
theorem SL.at_ {α : Type} {k : Nat} {enc : α → List Value} {w : World} {A : Option Addr} {n c : Nat} {zs : List α} (h : SL k enc w (.slice A n c) zs) (h0 : 0 < zs.length) :
    ∃ b o, A = some ⟨b, o, none⟩ ∧ b < w.heap.size ∧ ∀ (i : Nat) (d : α), zs[i]? = some d → ∀ (j : Nat) (x : Value), (enc d)[j]? = some x → w.cell? ⟨b, o + i * k + j, none⟩ = some x := by
  obtain ⟨A', c', hv, h1, h2, h3⟩ := h
  obtain ⟨rfl, rfl, rfl⟩ := hv
  exact h3 h0
/-! Own slices. -/
namespace Z
theorem flat_at {α : Type} {enc : α → List Value} {k : Nat} (hk : ∀ y, (enc y).length = k) {l : List α} {i j : Nat} {d : α} {x : Value} (h : l[i]? = some d) (hj : (enc d)[j]? = some x) : (l.flatMap enc)[i * k + j]? = some x := by
  have hjk : j < k := by rw [← hk d]; exact (List.getElem?_eq_some_iff.1 hj).1
  induction l generalizing i with
  | nil => simp at h
  | cons y r ih =>
    rw [List.flatMap_cons]
    cases i with
    | zero =>
      simp only [List.getElem?_cons_zero, Option.some.injEq] at h
      subst h
      rw [Nat.zero_mul, Nat.zero_add, List.getElem?_append_left (by rw [hk]; exact hjk)]
      exact hj
    | succ i =>
      rw [List.getElem?_cons_succ] at h
      rw [List.getElem?_append_right (by rw [hk, Nat.succ_mul]; omega), hk, show (i + 1) * k + j - k = i * k + j by rw [Nat.succ_mul]; omega]
      exact ih h
theorem flat_len {α : Type} {enc : α → List Value} {k : Nat} (hk : ∀ y, (enc y).length = k) (l : List α) : (l.flatMap enc).length = l.length * k := by
  induction l with
  | nil => simp
  | cons y r ih => rw [List.flatMap_cons, List.length_append, hk, ih, List.length_cons, Nat.succ_mul]; omega
end Z
/-- The slice value v is one of the call's own, from the block B on, and holds these elements of k cells each. -/
def OL {α : Type} (k : Nat) (enc : α → List Value) (e : TypeId) (w : World) (B : Nat) (v : Value) (l : List α) : Prop := w.ownsRow B e k v l.length (l.flatMap enc)
section
variable {α : Type} {k : Nat} {enc : α → List Value} {e : TypeId} {w w' : World} {B B' : Nat} {v : Value} {l : List α}
theorem OL.nil_ : OL k enc e w B (.slice none 0 0) [] := World.ownsRow_nil _ _ _ _
theorem OL.mono (h : OL k enc e w B v l) (hB : B' ≤ B) : OL k enc e w B' v l := by
  refine ⟨h.1, ?_⟩
  rcases h.2 with h | ⟨g, cap, cur, h1, h2, h3⟩
  · exact .inl h
  · exact .inr ⟨g, cap, cur, h1, Nat.le_trans hB h2, h3⟩
theorem OL.below (h : OL k enc e w B v l) (hb : Below w.heap.size w w') : OL k enc e w' B v l := by
  refine ⟨h.1, ?_⟩
  rcases h.2 with h | ⟨g, cap, cur, h1, h2, h3, h4⟩
  · exact .inl h
  · exact .inr ⟨g, cap, cur, h1, h2, (hb.block g (Array.getElem?_eq_some_iff.1 h3).1).trans h3, h4⟩
theorem OL.alloc (h : OL k enc e w B v l) (o : Obj) : OL k enc e (w.alloc o) B v l := h.below ((Below.refl _ w).alloc (Nat.le_refl _) o)
theorem OL.base (h : OL k enc e w B v l) : ∀ j, v.ownBlock = some j → B ≤ j := fun j hj => (World.ownsRow.lt h j hj).1
theorem OL.sl (hk : ∀ y, (enc y).length = k) (h : OL k enc e w B v l) : SL k enc w v l := by
  rcases h.2 with ⟨rfl, h0⟩ | ⟨g, cap, cur, rfl, hg, hh, hn, hm, hs, ht⟩
  · have : l = [] := List.eq_nil_of_length_eq_zero h0
    subst this
    exact SL.nil_
  · refine ⟨_, cap, rfl, hn, hm, fun _ => ⟨g, 0, rfl, (Array.getElem?_eq_some_iff.1 hh).1, fun i d hd j x hx => ?_⟩⟩
    have hj := Z.flat_at hk hd hx
    have hlt := (List.getElem?_eq_some_iff.1 hj).1
    rw [Z.flat_len hk] at hlt
    rw [Nat.zero_add, World.ownsRow.cellAt h _ hlt]
    exact hj
end
theorem appL {α : Type} {k by_ : Nat} {enc : α → List Value} {e t : TypeId} {P : Program} {ops : Array Oper} {rest : List Oper} {o : Oper} {a : Act} {Q : Exit → Act → World → Prop} (hk : ∀ y, (enc y).length = k) (h1 : ∀ y, ∀ u ∈ enc y, u.oneCell' = true) (hgd : o.guard = none) (s x : Operand)
    (ho : o.op = .call { callee := .builtin .append, args := #[s, x], argTypes := #[t, t] }) (hI : ∃ i z, P.info? e = some i ∧ i.zero = some z ∧ i.size = k ∧ i.bytes = by_ ∧ z.cells.size = k) (hby : by_ ≤ 1000) (hk0 : 0 < k) (ht : P.underlying t = some (.slice e))
    (w : World) (B : Nat) (v : Value) (l : List α) (y : α) (arr : Array Value) (harr : arr = (enc y).toArray) (hs : a.eval s = v) (hown : OL k enc e w B v l) (hx : a.eval x = .slice (some ⟨w.heap.size, 0, none⟩) 1 1)
    (hlen : l.length ≤ 20000) (hB : B ≤ w.heap.size)
    (h : ∀ v' w', OL k enc e w' B v' (l ++ [y]) → Below B w w' → w.grownBy w' v.ownBlock → wpList P ops Q rest (a.put o.dst v') w') :
    wpList P ops Q (o :: rest) a (w.alloc (.cells arr e)) := by
  obtain ⟨i, z, hi, hz, hsz, hbs, hzs⟩ := hI
  subst harr
  refine wpList_append_own _ hgd s x t ho B e i z k by_ ht hi hz hsz hbs hzs hk0 v l.length (l.flatMap enc) hs (World.ownsRow.alloc hown _) ⟨w.heap.size, 0, none⟩ 1 1 (enc y) hx (by rw [hk, Nat.one_mul]) (fun j u hu => ?_) (h1 y) (by unfold maxLen; omega) (by
      have : (l.length + 1) * by_ ≤ (l.length + 1) * 1000 := Nat.mul_le_mul_left _ hby
      omega) (by simp; omega) ?_
  · rw [Go.WideShapes.add_plain, Nat.zero_add, (Blk.new w e _).cell j]
    simpa using hu
  · intro v' w' hown' hg _
    refine h v' w' ?_ ?_ ?_
    · unfold OL
      rw [List.flatMap_append, List.length_append]
      simpa using hown'
    · exact ((Below.refl B w).alloc hB _).grown hg (by simp; omega) (fun k hk => (World.ownsRow.lt hown k hk).1)
    · exact (World.grownBy_alloc w _ _).trans hg
/-! Points, days, numbers, quotes. -/
def Z.Pt.vs (p : Z.Pt) : List Value := [.int .i64 p.d, .string p.f]
abbrev SP := SL 2 Z.Pt.vs
def dE (d : Int) : List Value := [.int .i64 d]
def sE (s : ByteArray) : List Value := [.string s]
abbrev SD := SL 1 dE
abbrev SR := SL 1 sE
theorem Z.Pt.vs_len (x : Z.Pt) : x.vs.length = 2 := rfl
theorem dE_len (x : Int) : (dE x).length = 1 := rfl
theorem sE_len (x : ByteArray) : (sE x).length = 1 := rfl
theorem Z.Pt.one (y : Z.Pt) : ∀ u ∈ y.vs, u.oneCell' = true := by
  intro u hu
  simp only [Z.Pt.vs, List.mem_cons, List.not_mem_nil, or_false] at hu
  rcases hu with rfl | rfl <;> rfl
/-- A quote as it lies: its two slices and its rate. -/
structure QV where
  dv : Value
  pv : Value
  rate : ByteArray
def QV.vs (r : QV) : List Value := [r.dv, r.pv, .string r.rate]
theorem QV.vs_len (x : QV) : x.vs.length = 3 := rfl
def QOk (w : World) (r : QV) (q : Z.Qt) : Prop := SD w r.dv q.dates ∧ SR w r.pv q.parts ∧ r.rate = q.rate
/-- The slice value v reads, in the world w, as these quotes. -/
def SQ (w : World) (v : Value) (l : List Z.Qt) : Prop := ∃ raws : List QV, SL 3 QV.vs w v raws ∧ raws.length = l.length ∧ ∀ (i : Nat) (r : QV) (q : Z.Qt), raws[i]? = some r → l[i]? = some q → QOk w r q
section
variable {w w' : World} {v : Value} {l : List Z.Qt} {r : QV} {q : Z.Qt}
theorem QOk.below (h : QOk w r q) (hb : Below w.heap.size w w') : QOk w' r q := ⟨h.1.below hb, h.2.1.below hb, h.2.2⟩
theorem SQ.below (h : SQ w v l) (hb : Below w.heap.size w w') : SQ w' v l := by
  obtain ⟨raws, h1, h2, h3⟩ := h
  exact ⟨raws, h1.below hb, h2, fun i r q hr hq => (h3 i r q hr hq).below hb⟩
theorem SQ.shape (h : SQ w v l) : ∃ A c, v = .slice A l.length c ∧ l.length ≤ c ∧ c ≤ maxLen := by
  obtain ⟨raws, ⟨A, c, h1, h2, h3, _⟩, h4, _⟩ := h
  rw [h4] at h1 h2
  exact ⟨A, c, h1, h2, h3⟩
theorem SL.shape {α : Type} {k : Nat} {enc : α → List Value} {v : Value} {zs : List α} (h : SL k enc w v zs) : ∃ A c, v = .slice A zs.length c ∧ zs.length ≤ c ∧ c ≤ maxLen := by
  obtain ⟨A, c, h1, h2, h3, _⟩ := h
  exact ⟨A, c, h1, h2, h3⟩
/-- The three cells of quote k. -/
theorem SQ.at_ {A : Option Addr} {n c k : Nat} (h : SQ w (.slice A n c) l) (hq : l[k]? = some q) :
    ∃ b o r, A = some ⟨b, o, none⟩ ∧ b < w.heap.size ∧ w.cell? ⟨b, o + k * 3, none⟩ = some r.dv ∧ w.cell? ⟨b, o + k * 3 + 1, none⟩ = some r.pv ∧ w.cell? ⟨b, o + k * 3 + 2, none⟩ = some (.string r.rate) ∧ QOk w r q := by
  obtain ⟨raws, h1, h2, h3⟩ := h
  have hk : k < raws.length := by rw [h2]; exact (List.getElem?_eq_some_iff.1 hq).1
  have hr : raws[k]? = some raws[k] := List.getElem?_eq_getElem hk
  obtain ⟨b, o, rfl, hb, hc⟩ := h1.at_ (by omega)
  exact ⟨b, o, raws[k], rfl, hb, hc k _ hr 0 _ rfl, hc k _ hr 1 _ rfl, hc k _ hr 2 _ rfl, h3 k _ q hr hq⟩
/-- The cell of element k of a slice of one-cell elements. -/
theorem SL.cell1 {α : Type} {enc : α → List Value} {A : Option Addr} {n c k : Nat} {zs : List α} {d : α} {x : Value} (h : SL 1 enc w (.slice A n c) zs) (hd : zs[k]? = some d) (hx : enc d = [x]) :
    ∃ b o, A = some ⟨b, o, none⟩ ∧ b < w.heap.size ∧ w.cell? ⟨b, o + k, none⟩ = some x := by
  have hk : k < zs.length := (List.getElem?_eq_some_iff.1 hd).1
  obtain ⟨b, o, rfl, hb, hc⟩ := h.at_ (by omega)
  have := hc k d hd 0 x (by rw [hx]; rfl)
  rw [Nat.mul_one, Nat.add_zero] at this
  exact ⟨b, o, rfl, hb, this⟩
theorem SP.cells {A : Option Addr} {n c k : Nat} {zs : List Z.Pt} {p : Z.Pt} (h : SP w (.slice A n c) zs) (hd : zs[k]? = some p) :
    ∃ b o, A = some ⟨b, o, none⟩ ∧ b < w.heap.size ∧ w.cell? ⟨b, o + k * 2, none⟩ = some (.int .i64 p.d) ∧ w.cell? ⟨b, o + k * 2 + 1, none⟩ = some (.string p.f) := by
  have hk : k < zs.length := (List.getElem?_eq_some_iff.1 hd).1
  obtain ⟨b, o, rfl, hb, hc⟩ := h.at_ (by omega)
  exact ⟨b, o, rfl, hb, hc k p hd 0 _ rfl, hc k p hd 1 _ rfl⟩
end
end Go.Proofs.Ytpnojgaehafjdaa
