/- The queues while they are emptied. -/
import Derived.Test.YtdjghmpaopfboaaCltake
import Derived.Test.YtdjghmpaopfboaaClopen
import Derived.Test.YtdjghmpaopfboaaZclu
namespace Go.Proofs.Ytdjghmpaopfboaa
open Go.RowKit
def QJ (w : World) (D : Nat) (φ : Z.Fl → Option Nat) (ψ : Z.Fl → Value) (Q : Z.Fl → List Int) (J : Z.Fl → Nat) (u : Z.Fl → Value) : Prop :=
  (∀ f b, φ f = some b → D ≤ b ∧ Blk w b 68 #[u f] ∧ OQ w D (ψ f) (Q f) ∧ SubV (ψ f) (J f) (u f)) ∧
  (∀ f, φ f = none → Q f = []) ∧
  (∀ f g b, φ f = some b → φ g = some b → f = g)
section
variable {w w' : World} {D : Nat} {φ : Z.Fl → Option Nat} {ψ : Z.Fl → Value} {Q : Z.Fl → List Int} {J : Z.Fl → Nat} {u : Z.Fl → Value}
theorem QI.qj (h : QI w D φ ψ Q) : QJ w D φ ψ Q (fun _ => 0) ψ :=
  ⟨fun f b hf => ⟨(h.1 f b hf).1, (h.1 f b hf).2.1, (h.1 f b hf).2.2, SubV.zero (h.1 f b hf).2.2⟩, h.2.1, h.2.2.1⟩
theorem QJ.below (h : QJ w D φ ψ Q J u) (hb : Below w.heap.size w w') : QJ w' D φ ψ Q J u := by
  obtain ⟨h1, h2⟩ := h
  refine ⟨fun f b hf => ?_, h2⟩
  obtain ⟨q1, q2, q3, q4⟩ := h1 f b hf
  exact ⟨q1, q2.below hb, OL.below q3 hb, q4⟩
theorem QJ.kept {row : Option Nat} (h : QJ w D φ ψ Q J u) (hg : w.grownBy w' row) (r1 : ∀ b cs, Blk w b 68 cs → some b ≠ row) (r2 : ∀ v q, OQ w D v q → ∀ j, v.ownBlock = some j → some j ≠ row) : QJ w' D φ ψ Q J u := by
  obtain ⟨h1, h2⟩ := h
  refine ⟨fun f b hf => ?_, h2⟩
  obtain ⟨q1, q2, q3, q4⟩ := h1 f b hf
  exact ⟨q1, q2.kept hg (r1 _ _ q2), OL.kept q3 hg (r2 _ _ q3), q4⟩
theorem blk_blk {b : Nat} {t t' : TypeId} {cs cs' : Array Value} (h : Blk w b t cs) (h' : Blk w b t' cs') : t = t' := by
  have h1 : w.heap[b]? = some (.cells cs t (0, 0)) := h
  have h2 : w.heap[b]? = some (.cells cs' t' (0, 0)) := h'
  rw [h1] at h2
  injection h2 with h2
  injection h2
/-- A block of truth values is written. -/
theorem QJ.bool {g : Nat} {cs : Array Value} (h : QJ w D φ ψ Q J u) (hB : Blk w g 4 cs) (hg : w.grownBy w' (some g)) : QJ w' D φ ψ Q J u := by
  refine h.kept hg (fun b cs' hb e => ?_) (fun v q hO j hj e => ?_)
  · injection e with e
    subst e
    exact absurd (blk_blk hb hB) (by decide)
  · injection e with e
    subst e
    exact hB.not_row (by decide) hO hj.symm
/-- A row of flows grows. -/
theorem QJ.flow {B : Nat} {v : Value} {l : List Z.Fl} (h : QJ w D φ ψ Q J u) (hO : OFl w B v l) (hg : w.grownBy w' v.ownBlock) : QJ w' D φ ψ Q J u := by
  refine h.kept hg (fun b cs' hb => hb.not_row (by decide) hO) (fun v' q hO' j hj e => ?_)
  rcases hO'.2 with ⟨rfl, _⟩ | ⟨g, cap, cur, rfl, _, hgb, _⟩
  · simp [Value.ownBlock] at hj
  · obtain rfl : g = j := by simpa [Value.ownBlock] using hj
    have hb : Blk w g 3 cur := hgb
    exact hb.not_row (by decide) hO e
/-- A queue is taken from. -/
theorem QJ.take {f : Z.Fl} {b : Nat} {u' : Value} (h : QJ w D φ ψ Q J u) (hf : φ f = some b) (hu : SubV (ψ f) (J f + 1) u') : QJ (w.setCell ⟨b, 0, none⟩ u') D φ ψ Q (fun g => if g = f then J f + 1 else J g) (fun g => if g = f then u' else u g) := by
  obtain ⟨h1, h2, h3⟩ := h
  have hset := grownBy_setAt w b 0 u'
  obtain ⟨_, p2, _⟩ := h1 f b hf
  refine ⟨fun g b' hg => ?_, h2, h3⟩
  obtain ⟨q1, q2, q3, q4⟩ := h1 g b' hg
  have hO : OQ (w.setCell ⟨b, 0, none⟩ u') D (ψ g) (Q g) := OL.kept q3 hset fun j hj e => by
    injection e with e
    subst e
    exact p2.not_row (by decide) q3 hj.symm
  by_cases e : g = f
  · subst e
    obtain rfl : b' = b := by rw [hf] at hg; exact (Option.some.inj hg).symm
    simp only [if_true]
    exact ⟨q1, q2.set 0 u', hO, hu⟩
  · simp only [if_neg e]
    have hbb : b' ≠ b := by rintro rfl; exact e (h3 g f b' hg hf)
    exact ⟨q1, q2.kept hset (fun e' => hbb (Option.some.inj e')), hO, q4⟩
theorem MapAt.ne_rowF {D B : Nat} {v : Value} {l : List Z.Fl} (h : MapAt w D) (hO : OFl w B v l) : some D ≠ v.ownBlock := by
  obtain ⟨es, clock, hd⟩ := h
  rcases hO.2 with ⟨rfl, _⟩ | ⟨g, cap, cur, rfl, _, hgb, _⟩
  · simp [Value.ownBlock]
  · intro e'
    obtain rfl : D = g := by simpa [Value.ownBlock] using e'
    rw [hd] at hgb
    cases hgb
theorem MapAt.ne_g {D g : Nat} {t : TypeId} {cs : Array Value} (h : MapAt w D) (hB : Blk w g t cs) : D ≠ g := fun e => h.ne_blk hB e.symm
theorem OFl.kept_blk {B g : Nat} {t : TypeId} {cs : Array Value} {v : Value} {l : List Z.Fl} (hO : OFl w B v l) (hB : Blk w g t cs) (ht : t ≠ 36) (hg : w.grownBy w' (some g)) : OFl w' B v l :=
  OL.kept hO hg fun j hj e => by
    injection e with e
    subst e
    exact hB.not_row ht hO hj.symm
end
theorem qk_full (op : List Z.Cl) (f : Z.Fl) : qk op op.length f = (op.filter fun x => decide (x.fl = f)).map Z.Cl.n := by
  unfold qk
  rw [List.take_length]
theorem qk_cnt (op : List Z.Cl) (f : Z.Fl) : (qk op op.length f).length = Z.cntO op f := by
  rw [qk_full, List.length_map]
  rfl
theorem Z.flE_len {l : List Z.Fl} (h : Z.flE l = 0) : l.length ≤ 5000 ∧ Z.flsOk 0 l = true := by
  unfold Z.flE at h
  split at h
  · cases h
  · rename_i h1
    split at h
    · rename_i h2; exact ⟨by omega, h2⟩
    · cases h
theorem Z.flOk_d {p : Int} {x : Z.Fl} (h : Z.flOk p x = true) : p ≤ x.d ∧ x.d ≤ 99999 := by
  unfold Z.flOk at h
  simp only [Bool.and_eq_true, decide_eq_true_iff] at h
  exact ⟨h.1.1.1.1.2, h.1.1.1.2⟩
theorem Z.flsOk_mem : ∀ {l : List Z.Fl} {p : Int}, 0 ≤ p → Z.flsOk p l = true → ∀ x ∈ l, 0 ≤ x.d ∧ x.d ≤ 99999
  | [], _, _, _, x, hx => by simp at hx
  | y :: r, p, hp, h, x, hx => by
    unfold Z.flsOk at h
    rw [Bool.and_eq_true] at h
    have hy := Z.flOk_d h.1
    rcases List.mem_cons.1 hx with rfl | hx
    · exact ⟨by omega, hy.2⟩
    · exact Z.flsOk_mem (by omega) h.2 x hx
theorem ko_of {x : Z.Fl} (h : 0 ≤ x.d ∧ x.d ≤ 99999) (hs : x.small) : KO x := by
  unfold Z.Fl.small at hs
  exact ⟨h.1, h.2, hs.1, hs.2.1, hs.2.2.1, hs.2.2.2⟩
theorem Z.valid_flow {l : List Z.Cl} (h : Z.valid l = true) {x : Z.Cl} (hx : x ∈ l) : Z.flE [x.fl] = 0 := by
  obtain ⟨i, hi⟩ := List.getElem?_of_mem hx
  have := Z.valid_at h hi
  rw [Z.clOk_eq, Bool.and_eq_true] at this
  have := this.1
  unfold Z.c1B at this
  simp only [Bool.and_eq_true, decide_eq_true_iff] at this
  exact this.2
theorem open_ko {l : List Z.Cl} (h : Z.valid l = true) (hs : ∀ x ∈ l, x.fl.small) : ∀ x ∈ Z.openL l, KO x.fl := by
  intro x hx
  have hxl := (List.mem_filter.1 hx).1
  have h1 := Z.flE_len (Z.valid_flow h hxl)
  exact ko_of (Z.flsOk_mem (Int.le_refl 0) h1.2 x.fl (by simp)) (hs x hxl)
theorem flows_ko {fs : List Z.Fl} (h : Z.flE fs = 0) (hs : ∀ x ∈ fs, x.small) : ∀ x ∈ fs, KO x :=
  fun x hx => ko_of (Z.flsOk_mem (Int.le_refl 0) (Z.flE_len h).2 x hx) (hs x hx)
theorem open_num {l : List Z.Cl} (h : Z.valid l = true) : ∀ x ∈ Z.openL l, ∃ m : Nat, x.n = m ∧ m ≤ l.length := by
  intro x hx
  obtain ⟨i, hi⟩ := List.getElem?_of_mem (List.mem_filter.1 hx).1
  have := Z.valid_n h hi
  have hlt := (List.getElem?_eq_some_iff.1 hi).1
  exact ⟨i + 1, by omega, by omega⟩
theorem qk_num {l : List Z.Cl} (h : Z.valid l = true) (f : Z.Fl) (j : Nat) (num : Int) (hj : (qk (Z.openL l) (Z.openL l).length f)[j]? = some num) : ∃ m : Nat, num = m ∧ m ≤ l.length := by
  rw [qk_full, List.getElem?_map, Option.map_eq_some_iff] at hj
  obtain ⟨x, hx, rfl⟩ := hj
  exact open_num h x (List.mem_filter.1 (List.mem_of_getElem? hx)).1
/-- The open claims' numbers are apart. -/
theorem open_apart {l : List Z.Cl} (h : Z.valid l = true) : Z.Apart (Z.openL l) := by
  have key : ∀ (L : List Z.Cl) (s : Nat), (∀ i x, L[i]? = some x → x.n = ((s + i : Nat) : Int) + 1) → ∀ (p : Z.Cl → Bool) (i j : Nat) (x y : Z.Cl), (L.filter p)[i]? = some x → (L.filter p)[j]? = some y → x.n = y.n → i = j := by
    intro L s hL p i j x y hx hy e
    obtain ⟨i', a1, _, a3⟩ := (Z.filter_at L i x).1 hx
    obtain ⟨j', b1, _, b3⟩ := (Z.filter_at L j y).1 hy
    have h1 := hL i' x a1
    have h2 := hL j' y b1
    have : i' = j' := by omega
    subst this
    omega
  exact key l 0 (fun i x hx => by have := Z.valid_n h hx; omega) (Z.isOpen l)
end Go.Proofs.Ytdjghmpaopfboaa
