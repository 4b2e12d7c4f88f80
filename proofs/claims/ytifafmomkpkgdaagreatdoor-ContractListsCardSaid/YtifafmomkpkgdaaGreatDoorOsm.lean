/- Walks: equality of lists of days, of expressions and of contracts, in the program and in the reference. -/
import Derived.Test.YtifafmomkpkgdaaGreatDoorOtg
namespace Go.Proofs.YtifafmomkpkgdaaGreatDoor
open Go.RowKit
namespace Z
def all2 {α : Type} (f : α → α → Bool) : List α → List α → Bool
  | [], [] => true
  | x :: r, y :: s => f x y && all2 f r s
  | _, _ => false
theorem all2_len {α : Type} {f : α → α → Bool} : ∀ (l m : List α), l.length ≠ m.length → all2 f l m = false
  | [], [], h => absurd rfl h
  | [], _ :: _, _ => rfl
  | _ :: _, [], _ => rfl
  | x :: r, y :: s, h => by
    rw [all2, all2_len r s (fun e => h (by simp [e])), Bool.and_false]
theorem all2_drop {α : Type} {f : α → α → Bool} {l m : List α} {k : Nat} {x y : α} (h1 : l[k]? = some x) (h2 : m[k]? = some y) : all2 f (l.drop k) (m.drop k) = (f x y && all2 f (l.drop (k + 1)) (m.drop (k + 1))) := by
  obtain ⟨hl, rfl⟩ := List.getElem?_eq_some_iff.1 h1
  obtain ⟨hm, rfl⟩ := List.getElem?_eq_some_iff.1 h2
  rw [List.drop_eq_getElem_cons hl, List.drop_eq_getElem_cons hm]
  rfl
theorem all2_end {α : Type} {f : α → α → Bool} {l m : List α} (h : l.length = m.length) : all2 f (l.drop l.length) (m.drop l.length) = true := by
  rw [List.drop_length, List.drop_of_length_le (by omega)]
  rfl
theorem all2_iff {α : Type} {f : α → α → Bool} : ∀ (l m : List α), (∀ x ∈ l, ∀ y, f x y = true ↔ x = y) → (all2 f l m = true ↔ l = m)
  | [], [], _ => by simp [all2]
  | [], _ :: _, _ => by simp [all2]
  | _ :: _, [], _ => by simp [all2]
  | x :: r, y :: s, h => by
    rw [all2, Bool.and_eq_true, h x (List.mem_cons_self ..), all2_iff r s fun z hz => h z (List.mem_cons_of_mem _ hz), List.cons.injEq]
def eqD (l m : List Int) : Bool := all2 (fun a b => decide (a = b)) l m
theorem eqD_iff (l m : List Int) : eqD l m = true ↔ l = m := all2_iff l m fun _ _ _ => decide_eq_true_iff
def topX (a b : XN) : Bool := decide (a.k = b.k) && (decide (a.rat = b.rat) && (decide (a.name = b.name) && decide (a.date = b.date)))
theorem topX_iff (a b : XN) : topX a b = true ↔ a = b := by
  unfold topX
  simp only [Bool.and_eq_true, decide_eq_true_eq]
  exact ⟨fun h => XN.ext' h.1 h.2.1 h.2.2.1 h.2.2.2, fun h => by subst h; exact ⟨rfl, rfl, rfl, rfl⟩⟩
def exSame : (n : Nat) → Ex n → Ex n → Bool
  | 0, _, _ => true
  | n + 1, a, b => topX a.top b.top && all2 (exSame n) a.sub b.sub
theorem exSame_iff : ∀ (n : Nat) (a b : Ex n), exSame n a b = true ↔ a = b
  | 0, a, _ => a.no
  | n + 1, a, b => by
    rw [exSame, Bool.and_eq_true, topX_iff, all2_iff a.sub b.sub fun x _ y => exSame_iff n x y]
    exact ⟨fun h => Ex.ext h.1 h.2, fun h => by subst h; exact ⟨rfl, rfl⟩⟩
def topC {m : Nat} (a b : CN m) : Bool := decide (a.k = b.k) && (decide (a.fr = b.fr) && (decide (a.tu = b.tu) && (decide (a.nm = b.nm) && decide (a.date = b.date))))
def coSame {m : Nat} : (n : Nat) → Co m n → Co m n → Bool
  | 0, _, _ => true
  | n + 1, a, b => topC a.top b.top && (exSame (m + 1) a.top.ex b.top.ex && (eqD a.top.dates b.top.dates && all2 (coSame n) a.sub b.sub))
theorem coSame_iff {m : Nat} : ∀ (n : Nat) (a b : Co m n), coSame n a b = true ↔ a = b
  | 0, a, _ => a.no
  | n + 1, a, b => by
    rw [coSame, Bool.and_eq_true, Bool.and_eq_true, Bool.and_eq_true, all2_iff a.sub b.sub fun x _ y => coSame_iff n x y, exSame_iff, eqD_iff]
    unfold topC
    simp only [Bool.and_eq_true, decide_eq_true_eq]
    exact ⟨fun h => Co.ext (CN.ext' h.1.1 h.1.2.1 h.1.2.2.1 h.1.2.2.2.1 h.2.1 h.1.2.2.2.2 h.2.2.1) h.2.2.2, fun h => by subst h; exact ⟨⟨rfl, rfl, rfl, rfl, rfl⟩, rfl, rfl, rfl⟩⟩
theorem neI (a b : Int) : (a != b) = !decide (a = b) := rfl
theorem neS (a b : ByteArray) : (a.toList != b.toList) = !decide (a = b) := by rw [← eqS]; rfl
end Z
end Go.Proofs.YtifafmomkpkgdaaGreatDoor
