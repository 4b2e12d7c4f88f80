/- The nodes of a contract as they lie in memory, in the order in which they are visited; what a loop over them keeps. -/
import Derived.Test.YtifafmomkpkgdaaDoorCom
import Derived.RangeFuncKeeps
namespace Go.Proofs.YtifafmomkpkgdaaDoor
open Go.RowKit
/-- The blocks of w are as they were. -/
def AG (w W : World) : Prop := w.heap.size ≤ W.heap.size ∧ ∀ k, k < w.heap.size → W.heap[k]? = w.heap[k]?
theorem AG.refl (w : World) : AG w w := ⟨Nat.le_refl _, fun _ _ => rfl⟩
theorem AG.of_below {w W W' : World} (h : AG w W) (hb : Below W.heap.size W W') : AG w W' := ⟨Nat.le_trans h.1 hb.size, fun k hk => (hb.block k (Nat.lt_of_lt_of_le hk h.1)).trans (h.2 k hk)⟩
theorem AG.alloc {w W : World} (h : AG w W) (o : Obj) : AG w (W.alloc o) := h.of_below ((Below.refl _ W).alloc (Nat.le_refl _) o)
/-- What was there before block B, and all cells but those of the blocks E, are kept. -/
structure Kq (E : Nat → Prop) (B : Nat) (A A' : World) : Prop where
  size : A.heap.size ≤ A'.heap.size
  low : ∀ k, k < B → A'.heap[k]? = A.heap[k]?
  cells : ∀ (k : Nat) (cs : Array Value), A.heap[k]? = some (.cells cs 29 (0, 0)) → ¬ E k → A'.heap[k]? = some (.cells cs 29 (0, 0))
section
variable {E : Nat → Prop} {B : Nat} {A A' C : World}
theorem Kq.refl : Kq E B A A := ⟨Nat.le_refl _, fun _ _ => rfl, fun _ _ h _ => h⟩
theorem Kq.trans (h : Kq E B A A') (k : Kq E B A' C) : Kq E B A C := ⟨Nat.le_trans h.size k.size, fun i hi => (k.low i hi).trans (h.low i hi), fun i o ho hE => k.cells i o (h.cells i o ho hE) hE⟩
theorem Kq.of_below (hB : B ≤ A.heap.size) (h : Below A.heap.size A A') : Kq E B A A' := ⟨h.size, fun k hk => h.block k (Nat.lt_of_lt_of_le hk hB), fun k _ ho _ => (h.block k (Array.getElem?_eq_some_iff.1 ho).1).trans ho⟩
theorem Kq.set {b j : Nat} (hE : E b) (hb : B ≤ b) (v : Value) : Kq E B A (A.setCell ⟨b, j, none⟩ v) :=
  ⟨by simp [World.setCell], fun k hk => Below.heap_setCell _ _ _ k (Nat.ne_of_lt (Nat.lt_of_lt_of_le hk hb)), fun k o ho hn => (Below.heap_setCell _ _ _ k (fun e => hn (by rw [e]; exact hE))).trans ho⟩
/-- A row of another type that grows, or is written. -/
theorem Kq.grown {row : Option Nat} (hB : B ≤ A.heap.size) (hg : A.grownBy A' row) (hr : ∀ r, row = some r → B ≤ r ∧ ∀ cs : Array Value, A.heap[r]? ≠ some (.cells cs 29 (0, 0))) : Kq E B A A' :=
  ⟨hg.size, fun k hk => hg.block k (Nat.lt_of_lt_of_le hk hB) (fun e => by have := (hr k e.symm).1; omega), fun k cs ho _ => (hg.block k (Array.getElem?_eq_some_iff.1 ho).1 (fun e => (hr k e.symm).2 cs ho)).trans ho⟩
theorem Kq.put {w : World} (hB : B ≤ w.heap.size) (W : World) (l : Nat) (o o' : Obj) (hl : w.heap.size ≤ l) (h : W.heap[l]? = some o) (hc : o.isCells = false) (_ : o.isWalk = false) : Kq E B W (W.putObj l o') :=
  ⟨by simp [World.putObj], fun k hk => World.putObj_heap_other (by omega), fun k q hq _ => (World.putObj_heap_other (fun e => by
    subst e
    rw [h] at hq
    cases hq
    cases hc)).trans hq⟩
theorem AG.kq {w : World} (h : AG w A) (k : Kq E w.heap.size A A') : AG w A' := ⟨Nat.le_trans h.1 k.size, fun i hi => (k.low i hi).trans (h.2 i hi)⟩
end
theorem SL.ag {α : Type} {k : Nat} {enc : α → List Value} {A B : World} {v : Value} {zs : List α} (h : SL k enc A v zs) (hs : AG A B) : SL k enc B v zs := by
  obtain ⟨a, c, hv, h1, h2, h3⟩ := h
  refine ⟨a, c, hv, h1, h2, fun hp => ?_⟩
  obtain ⟨b, o, hA, hlt, hc⟩ := h3 hp
  refine ⟨b, o, hA, Nat.lt_of_lt_of_le hlt hs.1, fun i d hd j x hx => ?_⟩
  rw [← hc i d hd j x hx]
  simp [World.cell?, hs.2 b hlt]
theorem Dp.ag {α β : Type} {k : Nat} {enc : α → List Value} {R R' : α → β → Prop} {A B : World} {v : Value} {l : List β} (h : Dp k enc R A v l) (hb : AG A B) (hR : ∀ r x, R r x → R' r x) : Dp k enc R' B v l := by
  obtain ⟨raws, h1, h2, h3⟩ := h
  exact ⟨raws, h1.ag hb, h2, fun i r x hr hx => hR r x (h3 i r x hr hx)⟩
theorem XV.ag {w w' : World} (hb : AG w w') : ∀ (n : Nat) {x : Z.Ex n} {r : Z.XN × Value}, XV w n x r → XV w' n x r
  | 0, _, _, h => h
  | n + 1, _, _, h => ⟨h.1, h.2.1, Dp.ag h.2.2 hb fun _ _ h => XV.ag hb n h⟩
section
variable {m : Nat}
/-- A node as it lies, with the number of its parts. -/
structure Nd (m : Nat) where
  r : CR m
  ns : Nat
def CR.ag (r : CR m) : Value := .agg #[.int .u8 r.a.k, .string r.a.fr, .string r.a.tu, .string r.a.nm, .int .u8 r.a.ex.top.k, .string r.a.ex.top.rat, .string r.a.ex.top.name, .int .i64 r.a.ex.top.date, r.u, .int .i64 r.a.date, r.dv, r.sv]
/-- The node reads so in the world w. -/
structure NV (w : World) (t : Z.CN m) (ns : Nat) (u dv sv : Value) : Prop where
  kind : 0 ≤ t.k ∧ t.k ≤ 255
  ex : XV w (m + 1) t.ex (t.ex.top, u)
  dates : SD w dv t.dates
  sub : ∃ A c, sv = .slice A ns c
abbrev Nd.ok (w : World) (d : Nd m) : Prop := NV w d.r.a d.ns d.r.u d.r.dv d.r.sv
theorem NV.ag {w w' : World} {t : Z.CN m} {ns : Nat} {u dv sv : Value} (h : NV w t ns u dv sv) (hb : AG w w') : NV w' t ns u dv sv := ⟨h.kind, XV.ag hb _ h.ex, h.dates.ag hb, h.sub⟩
theorem CV.nv {w : World} {n : Nat} {c : Z.Co m (n + 1)} {r : CR m} (h : CV w (n + 1) c r) : NV w r.a c.sub.length r.u r.dv r.sv :=
  ⟨h.2.1, h.2.2.1, h.2.2.2.1, by
    obtain ⟨A, k, e, _⟩ := Dp.shape h.2.2.2.2
    exact ⟨A, k, e⟩⟩
open Classical in
noncomputable def rawsOf (w : World) (n : Nat) (v : Value) (l : List (Z.Co m n)) : List (CR m) := if h : CS w n v l then Classical.choose h else []
theorem rawsOf_spec {w : World} {n : Nat} {v : Value} {l : List (Z.Co m n)} (h : CS w n v l) : SL 12 (CR.vs (m := m)) w v (rawsOf w n v l) ∧ (rawsOf w n v l).length = l.length ∧ ∀ (i : Nat) (r : CR m) (x : Z.Co m n), (rawsOf w n v l)[i]? = some r → l[i]? = some x → CV w n x r := by
  unfold rawsOf
  rw [dif_pos h]
  exact Classical.choose_spec h
/-- The nodes, each before its parts, as they lie. -/
noncomputable def enum (w : World) : (n : Nat) → Z.Co m n → CR m → List (Nd m)
  | 0, _, _ => []
  | n + 1, c, r => ⟨r, c.sub.length⟩ :: (c.sub.zip (rawsOf w n r.sv c.sub)).flatMap fun p => enum w n p.1 p.2
theorem zip_flat {α β γ : Type} {g : α × β → List γ} {h : α → List γ} : ∀ (l : List α) (rs : List β), rs.length = l.length → (∀ (i : Nat) (r : β) (x : α), rs[i]? = some r → l[i]? = some x → g (x, r) = h x) → (l.zip rs).flatMap g = l.flatMap h
  | [], [], _, _ => rfl
  | [], _ :: _, e, _ => by cases e
  | _ :: _, [], e, _ => by cases e
  | x :: l, r :: rs, e, H => by
    rw [List.zip_cons_cons, List.flatMap_cons, List.flatMap_cons, H 0 r x rfl rfl, zip_flat l rs (by simpa using e) fun i r x h1 h2 => H (i + 1) r x (by simpa using h1) (by simpa using h2)]
theorem enum_map {w : World} : ∀ (n : Nat) (c : Z.Co m n) (r : CR m), CV w n c r → (enum w n c r).map (fun d => (d.r.a, d.ns)) = Z.coNodes n c
  | 0, c, _, _ => c.no
  | n + 1, c, r, h => by
    obtain ⟨_, h2, h3⟩ := rawsOf_spec h.2.2.2.2
    have ht : r.a = c.top := h.1
    rw [enum, Z.coNodes, List.map_cons, List.map_flatMap, ht, zip_flat c.sub _ h2 fun i r x hr hx => enum_map n x r (h3 i r x hr hx)]
theorem enum_ok {w : World} : ∀ (n : Nat) (c : Z.Co m n) (r : CR m), CV w n c r → ∀ d ∈ enum w n c r, d.ok w
  | 0, c, _, _ => c.no
  | n + 1, c, r, h => fun d hd => by
    obtain ⟨_, h2, h3⟩ := rawsOf_spec h.2.2.2.2
    rw [enum] at hd
    rcases List.mem_cons.1 hd with rfl | hd
    · exact h.nv
    · obtain ⟨⟨x, q⟩, hp, hd⟩ := List.mem_flatMap.1 hd
      obtain ⟨i, hi, he⟩ := List.mem_iff_getElem.1 hp
      rw [List.getElem_zip] at he
      injection he with he1 he2
      rw [List.length_zip] at hi
      exact enum_ok n x q (h3 i q x (by rw [← he2]; exact List.getElem?_eq_getElem _) (by rw [← he1]; exact List.getElem?_eq_getElem _)) d hd
theorem enum_len {w : World} {n : Nat} {c : Z.Co m n} {r : CR m} (h : CV w n c r) : (enum w n c r).length = (Z.coNodes n c).length := by rw [← enum_map n c r h, List.length_map]
end
end Go.Proofs.YtifafmomkpkgdaaDoor
