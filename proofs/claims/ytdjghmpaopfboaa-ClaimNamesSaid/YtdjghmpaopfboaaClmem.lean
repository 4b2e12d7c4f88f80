/- Words for a slice of flows and for a slice of claims that came in. -/
import Derived.Test.YtdjghmpaopfboaaZclm
import Derived.Test.YtdjghmpaopfboaaMi
namespace Go.Proofs.Ytdjghmpaopfboaa
open Go.RowKit

def Z.Fl.vs (x : Z.Fl) : List Value := [.int .i64 x.d, .string x.f, .string x.t, .string x.c, .string x.a]
def Z.Cl.vs (x : Z.Cl) : List Value := [.int .i64 x.n, .int .i64 x.r, .int .i64 x.e, .int .i64 x.fl.d, .string x.fl.f, .string x.fl.t, .string x.fl.c, .string x.fl.a]
/-- The slice value v reads, in the world w, as these elements of k cells each. -/
def SL {α : Type} (k : Nat) (enc : α → List Value) (w : World) (v : Value) (zs : List α) : Prop :=
  ∃ (A : Option Addr) (c : Nat), v = .slice A zs.length c ∧ zs.length ≤ c ∧ c ≤ maxLen ∧
    (0 < zs.length → ∃ b o, A = some ⟨b, o, none⟩ ∧ b < w.heap.size ∧ ∀ (i : Nat) (d : α), zs[i]? = some d → ∀ (j : Nat) (x : Value), (enc d)[j]? = some x → w.cell? ⟨b, o + i * k + j, none⟩ = some x)
abbrev SF := SL 5 Z.Fl.vs
abbrev SC := SL 8 Z.Cl.vs
section
variable {α : Type} {k : Nat} {enc : α → List Value} {w w' : World} {v : Value} {zs : List α}
theorem SL.below (h : SL k enc w v zs) (hb : Below w.heap.size w w') : SL k enc w' v zs := by
  obtain ⟨A, c, hv, h1, h2, h3⟩ := h
  refine ⟨A, c, hv, h1, h2, fun hp => ?_⟩
  obtain ⟨b, o, hA, hlt, hc⟩ := h3 hp
  exact ⟨b, o, hA, Nat.lt_of_lt_of_le hlt hb.size, fun i d hd j x hx => (hb.cell (p := ⟨b, o + i * k + j, none⟩) hlt).trans (hc i d hd j x hx)⟩
theorem SL.alloc (h : SL k enc w v zs) (o : Obj) : SL k enc (w.alloc o) v zs := h.below ((Below.refl _ w).alloc (Nat.le_refl _) o)
theorem SL.nil_ : SL k enc w (.slice none 0 0) [] := ⟨none, 0, rfl, Nat.le_refl _, Nat.zero_le _, fun h => absurd h (by simp)⟩
end
/-- Where a slice of flows lies. -/
theorem SL.at_ {α : Type} {k : Nat} {enc : α → List Value} {w : World} {A : Option Addr} {n c : Nat} {zs : List α} (h : SL k enc w (.slice A n c) zs) (h0 : 0 < zs.length) :
    ∃ b o, A = some ⟨b, o, none⟩ ∧ b < w.heap.size ∧ ∀ (i : Nat) (d : α), zs[i]? = some d → ∀ (j : Nat) (x : Value), (enc d)[j]? = some x → w.cell? ⟨b, o + i * k + j, none⟩ = some x := by
  obtain ⟨A', c', hv, h1, h2, h3⟩ := h
  obtain ⟨rfl, rfl, rfl⟩ := hv
  exact h3 h0
/-- The five cells of a flow, at an address. -/
def FC (w : World) (b o : Nat) (x : Z.Fl) : Prop :=
  w.cell? ⟨b, o, none⟩ = some (.int .i64 x.d) ∧ w.cell? ⟨b, o + 1, none⟩ = some (.string x.f) ∧ w.cell? ⟨b, o + 2, none⟩ = some (.string x.t) ∧ w.cell? ⟨b, o + 3, none⟩ = some (.string x.c) ∧ w.cell? ⟨b, o + 4, none⟩ = some (.string x.a)
theorem fc_of {w : World} {b o i : Nat} {x : Z.Fl} (h : ∀ (j : Nat) (y : Value), x.vs[j]? = some y → w.cell? ⟨b, o + i * 5 + j, none⟩ = some y) : FC w b (o + i * 5) x :=
  ⟨h 0 _ rfl, h 1 _ rfl, h 2 _ rfl, h 3 _ rfl, h 4 _ rfl⟩
/-- The eight cells of a claim. -/
def CC (w : World) (b o : Nat) (x : Z.Cl) : Prop :=
  w.cell? ⟨b, o, none⟩ = some (.int .i64 x.n) ∧ w.cell? ⟨b, o + 1, none⟩ = some (.int .i64 x.r) ∧ w.cell? ⟨b, o + 2, none⟩ = some (.int .i64 x.e) ∧ w.cell? ⟨b, o + 3, none⟩ = some (.int .i64 x.fl.d) ∧ w.cell? ⟨b, o + 4, none⟩ = some (.string x.fl.f) ∧
  w.cell? ⟨b, o + 5, none⟩ = some (.string x.fl.t) ∧ w.cell? ⟨b, o + 6, none⟩ = some (.string x.fl.c) ∧ w.cell? ⟨b, o + 7, none⟩ = some (.string x.fl.a)
theorem cc_of {w : World} {b o i : Nat} {x : Z.Cl} (h : ∀ (j : Nat) (y : Value), x.vs[j]? = some y → w.cell? ⟨b, o + i * 8 + j, none⟩ = some y) : CC w b (o + i * 8) x :=
  ⟨h 0 _ rfl, h 1 _ rfl, h 2 _ rfl, h 3 _ rfl, h 4 _ rfl, h 5 _ rfl, h 6 _ rfl, h 7 _ rfl⟩
theorem CC.below {w w' : World} {b o : Nat} {x : Z.Cl} (h : CC w b o x) (hb : Below w.heap.size w w') (hlt : b < w.heap.size) : CC w' b o x := by
  obtain ⟨h0, h1, h2, h3, h4, h5, h6, h7⟩ := h
  exact ⟨(hb.cell (p := ⟨b, o, none⟩) hlt).trans h0, (hb.cell (p := ⟨b, o + 1, none⟩) hlt).trans h1, (hb.cell (p := ⟨b, o + 2, none⟩) hlt).trans h2, (hb.cell (p := ⟨b, o + 3, none⟩) hlt).trans h3,
    (hb.cell (p := ⟨b, o + 4, none⟩) hlt).trans h4, (hb.cell (p := ⟨b, o + 5, none⟩) hlt).trans h5, (hb.cell (p := ⟨b, o + 6, none⟩) hlt).trans h6, (hb.cell (p := ⟨b, o + 7, none⟩) hlt).trans h7⟩
theorem FC.below {w w' : World} {b o : Nat} {x : Z.Fl} (h : FC w b o x) (hb : Below w.heap.size w w') (hlt : b < w.heap.size) : FC w' b o x := by
  obtain ⟨h0, h1, h2, h3, h4⟩ := h
  exact ⟨(hb.cell (p := ⟨b, o, none⟩) hlt).trans h0, (hb.cell (p := ⟨b, o + 1, none⟩) hlt).trans h1, (hb.cell (p := ⟨b, o + 2, none⟩) hlt).trans h2, (hb.cell (p := ⟨b, o + 3, none⟩) hlt).trans h3, (hb.cell (p := ⟨b, o + 4, none⟩) hlt).trans h4⟩
end Go.Proofs.Ytdjghmpaopfboaa
