/- Plain: expressions and contracts as trees (each of some greatest depth); their sizes, depths and sorts; what is well formed. -/
import Derived.Test.YtifafmomkpkgdaaDoorClname
import Derived.Test.YtifafmomkpkgdaaDoorZr
namespace Go.Proofs.YtifafmomkpkgdaaDoor
namespace Z
/-! Sums, greatest values and counts over the parts of a node. -/
def sumL {α : Type} (f : α → Nat) : List α → Nat
  | [] => 0
  | x :: r => f x + sumL f r
def maxL {α : Type} (f : α → Nat) : List α → Nat
  | [] => 0
  | x :: r => max (f x) (maxL f r)
def lastL {α : Type} (f : α → Int) : Int → List α → Int
  | a, [] => a
  | a, x :: r => lastL f (max a (f x)) r
section
variable {α : Type} {f g : α → Nat}
theorem sumL_mem : ∀ {l : List α} {x : α}, x ∈ l → f x ≤ sumL f l
  | y :: r, x, h => by
    rw [sumL]
    rcases List.mem_cons.1 h with rfl | h
    · omega
    · have := sumL_mem h; omega
theorem maxL_mem : ∀ {l : List α} {x : α}, x ∈ l → f x ≤ maxL f l
  | y :: r, x, h => by
    rw [maxL]
    rcases List.mem_cons.1 h with rfl | h
    · omega
    · have := maxL_mem h; omega
theorem sumL_drop {l : List α} {k : Nat} {x : α} (h : l[k]? = some x) : sumL f (l.drop k) = f x + sumL f (l.drop (k + 1)) := by
  obtain ⟨hlt, rfl⟩ := List.getElem?_eq_some_iff.1 h
  rw [List.drop_eq_getElem_cons hlt]
  rfl
theorem maxL_drop {l : List α} {k : Nat} {x : α} (h : l[k]? = some x) : maxL f (l.drop k) = max (f x) (maxL f (l.drop (k + 1))) := by
  obtain ⟨hlt, rfl⟩ := List.getElem?_eq_some_iff.1 h
  rw [List.drop_eq_getElem_cons hlt]
  rfl
theorem sumL_le (a b : Nat) : ∀ l : List α, (∀ x ∈ l, f x ≤ a * g x) → sumL f l ≤ a * sumL g l
  | [], _ => by simp [sumL]
  | x :: r, h => by
    rw [sumL, sumL, Nat.mul_add]
    have := h x (List.mem_cons_self ..)
    have := sumL_le a b r fun y hy => h y (List.mem_cons_of_mem _ hy)
    omega
theorem sumL_len (h : ∀ x, 1 ≤ f x) : ∀ l : List α, l.length ≤ sumL f l
  | [] => Nat.zero_le _
  | x :: r => by
    rw [sumL, List.length_cons]
    have := h x
    have := sumL_len h r
    omega
theorem maxL_min (h : α → Nat) (n : Nat) : ∀ l : List α, (∀ x ∈ l, f x = min (h x) (n + 1)) → maxL f l = min (maxL h l) (n + 1)
  | [], _ => by simp [maxL]
  | x :: r, e => by
    rw [maxL, maxL, e x (List.mem_cons_self ..), maxL_min h n r (fun y hy => e y (List.mem_cons_of_mem _ hy))]
    omega
theorem lastL_drop {f : α → Int} {l : List α} {k : Nat} {x : α} (a : Int) (h : l[k]? = some x) : lastL f a (l.drop k) = lastL f (max a (f x)) (l.drop (k + 1)) := by
  obtain ⟨hlt, rfl⟩ := List.getElem?_eq_some_iff.1 h
  rw [List.drop_eq_getElem_cons hlt]
  rfl
theorem lastL_max {f : α → Int} : ∀ (l : List α) (a b : Int), lastL f (max a b) l = max a (lastL f b l)
  | [], _, _ => rfl
  | x :: r, a, b => by rw [lastL, lastL, Int.max_assoc, lastL_max r a]
end
/-- A node of an expression. -/
structure XN where
  k : Int
  rat : ByteArray
  name : ByteArray
  date : Int
/-- The expressions of depth at most n. -/
def Ex : Nat → Type
  | 0 => Empty
  | n + 1 => XN × List (Ex n)
namespace Ex
variable {n : Nat}
def mk (a : XN) (l : List (Ex n)) : Ex (n + 1) := (a, l)
def top (e : Ex (n + 1)) : XN := Prod.fst (show XN × List (Ex n) from e)
def sub (e : Ex (n + 1)) : List (Ex n) := Prod.snd (show XN × List (Ex n) from e)
def no {α : Sort _} (e : Ex 0) : α := Empty.elim (show Empty from e)
theorem ext {a b : Ex (n + 1)} (h1 : a.top = b.top) (h2 : a.sub = b.sub) : a = b := Prod.ext h1 h2
theorem eta (e : Ex (n + 1)) : e = mk e.top e.sub := rfl
end Ex
theorem XN.ext' {a b : XN} (h1 : a.k = b.k) (h2 : a.rat = b.rat) (h3 : a.name = b.name) (h4 : a.date = b.date) : a = b := by
  cases a; cases b
  simp only at h1 h2 h3 h4
  subst h1 h2 h3 h4
  rfl
def exSize : (n : Nat) → Ex n → Nat
  | 0, _ => 1
  | n + 1, e => 1 + sumL (exSize n) e.sub
def exDepth : (n : Nat) → Ex n → Nat
  | 0, _ => 0
  | n + 1, e => maxL (exDepth n) e.sub + 1
/-- The depth, at most one more than a limit. -/
def exDepthL : (n : Nat) → Ex n → Nat → Nat
  | 0, _, _ => 0
  | n + 1, e, m => (if m = 0 then 0 else maxL (fun x => exDepthL n x (m - 1)) e.sub) + 1
theorem exSize_pos : ∀ (n : Nat) (e : Ex n), 1 ≤ exSize n e
  | 0, _ => Nat.le_refl 1
  | n + 1, e => by rw [exSize]; omega
theorem exDepthL_min : ∀ (n : Nat) (e : Ex n) (m : Nat), exDepthL n e m = min (exDepth n e) (m + 1)
  | 0, e, _ => e.no
  | n + 1, e, m => by
    rw [exDepthL, exDepth]
    by_cases h : m = 0
    · subst h; simp
    · rw [if_neg h, maxL_min (exDepth n) (m - 1) e.sub (fun x _ => exDepthL_min n x (m - 1))]
      omega
/-- The sorts of the parts of a kind, and its own: 1 a number, 2 a truth value. -/
def shp (k : Int) : Option (List Int × Int) :=
  if k = 4 ∨ k = 5 ∨ k = 6 ∨ k = 7 ∨ k = 8 then some ([1, 1], 1) else if k = 9 then some ([2, 1, 1], 1) else if k = 11 ∨ k = 12 then some ([1, 1], 2) else if k = 13 ∨ k = 14 then some ([2, 2], 2) else if k = 15 then some ([2], 2) else none
def e0 : ByteArray := ⟨#[]⟩
def dayC (d : Int) : Bool := decide (0 ≤ d) && decide (d ≤ 99999)
/-- The sort of an expression without parts; 0 if it is not well formed. -/
def leafS (a : XN) (n : Nat) : Int :=
  if n = 0 ∧ ((a.k = 1 ∧ rchk a.rat = 0 ∧ a.name = e0 ∧ a.date = 0) ∨ (a.k = 2 ∧ a.rat = e0 ∧ nameB a.name = true ∧ dayC a.date = true) ∨ (a.k = 3 ∧ a.rat = e0 ∧ nameB a.name = true ∧ a.date = 0)) then 1 else 0
def sortN (a : XN) (l : List Int) : Int :=
  match shp a.k with
  | none => leafS a l.length
  | some (ps, own) => if l = ps ∧ a.rat = e0 ∧ a.name = e0 ∧ a.date = 0 then own else 0
def exSort : (n : Nat) → Ex n → Int
  | 0, _ => 0
  | n + 1, e => sortN e.top (e.sub.map (exSort n))
def exE (n : Nat) (e : Ex n) : Int := if 500 < exSize n e ∨ 60 < exDepth n e then 4 else if exSort n e = 0 then 8 else 0
def numB (n : Nat) (e : Ex n) : Bool := decide (exE n e = 0) && decide (exSort n e = 1)
def truB (n : Nat) (e : Ex n) : Bool := decide (exE n e = 0) && decide (exSort n e = 2)
def bareX {n : Nat} (e : Ex (n + 1)) : Bool := decide (e.top.k = 0) && (decide (e.top.rat = e0) && (decide (e.top.name = e0) && (decide (e.top.date = 0) && decide (e.sub.length = 0))))
def exLast : (n : Nat) → Ex n → Int
  | 0, _ => 0
  | n + 1, e => lastL (exLast n) e.top.date e.sub

/-- A node of a contract. -/
structure CN (m : Nat) where
  k : Int
  fr : ByteArray
  tu : ByteArray
  nm : ByteArray
  ex : Ex (m + 1)
  date : Int
  dates : List Int
theorem CN.ext' {m : Nat} {a b : CN m} (h1 : a.k = b.k) (h2 : a.fr = b.fr) (h3 : a.tu = b.tu) (h4 : a.nm = b.nm) (h5 : a.ex = b.ex) (h6 : a.date = b.date) (h7 : a.dates = b.dates) : a = b := by
  cases a; cases b
  simp only at h1 h2 h3 h4 h5 h6 h7
  subst h1 h2 h3 h4 h5 h6 h7
  rfl
/-- The contracts of depth at most n (with expressions of depth at most m + 1). -/
def Co (m : Nat) : Nat → Type
  | 0 => Empty
  | n + 1 => CN m × List (Co m n)
namespace Co
variable {m n : Nat}
def mk (a : CN m) (l : List (Co m n)) : Co m (n + 1) := (a, l)
def top (e : Co m (n + 1)) : CN m := Prod.fst (show CN m × List (Co m n) from e)
def sub (e : Co m (n + 1)) : List (Co m n) := Prod.snd (show CN m × List (Co m n) from e)
def no {α : Sort _} (e : Co m 0) : α := Empty.elim (show Empty from e)
theorem ext {a b : Co m (n + 1)} (h1 : a.top = b.top) (h2 : a.sub = b.sub) : a = b := Prod.ext h1 h2
theorem eta (e : Co m (n + 1)) : e = mk e.top e.sub := rfl
end Co
section
variable {m : Nat}
/-- The size and the depth of a node's expression: nothing where there is none. -/
def exZ (e : Ex (m + 1)) : Nat := if bareX e = true then 0 else exSize (m + 1) e
def exD (e : Ex (m + 1)) : Nat := if bareX e = true then 0 else exDepth (m + 1) e
def coSize : (n : Nat) → Co m n → Nat
  | 0, _ => 1
  | n + 1, c => 1 + exZ c.top.ex + sumL (coSize n) c.sub
def coDepth : (n : Nat) → Co m n → Nat
  | 0, _ => 0
  | n + 1, c => max (exD c.top.ex) (maxL (coDepth n) c.sub) + 1
/-- The nodes, each before its parts, and with their number. -/
def coNodes : (n : Nat) → Co m n → List (CN m × Nat)
  | 0, _ => []
  | n + 1, c => (c.top, c.sub.length) :: c.sub.flatMap (coNodes n)
/-- Strictly increasing days, one to 100 of them. -/
def ascD : Int → List Int → Bool
  | _, [] => true
  | a, d :: r => decide (a < d) && ascD d r
def ascO : List Int → Bool
  | [] => true
  | d :: r => ascD d r
def daysB (l : List Int) : Bool := decide (1 ≤ l.length) && (decide (l.length ≤ 100) && (l.all dayC && ascO l))
/-- The parts of a kind: From, To, Name, number, truth, date, dates; how many contracts. -/
structure Pa where
  fr : Bool
  tu : Bool
  nm : Bool
  num : Bool
  tru : Bool
  date : Bool
  dates : Bool
  subs : Nat
def pas (k : Int) : Option Pa :=
  if k = 1 then some ⟨false, false, false, false, false, false, false, 0⟩
  else if k = 2 then some ⟨true, true, true, true, false, false, false, 0⟩
  else if k = 3 then some ⟨false, false, false, false, false, false, false, 2⟩
  else if k = 4 then some ⟨false, false, false, true, false, false, false, 1⟩
  else if k = 5 then some ⟨false, false, false, false, true, false, false, 2⟩
  else if k = 6 then some ⟨false, false, false, false, false, true, false, 1⟩
  else if k = 7 then some ⟨true, false, true, false, false, false, false, 2⟩
  else if k = 8 then some ⟨true, false, true, false, false, false, true, 1⟩
  else if k = 9 then some ⟨false, false, false, false, true, false, true, 1⟩
  else if k = 10 then some ⟨false, false, false, false, true, false, true, 1⟩
  else none
def wordB (has : Bool) (s : ByteArray) : Bool := if has then nameB s else decide (s = e0)
def partB (p : Pa) (c : CN m) (ns : Nat) : Bool :=
  wordB p.fr c.fr && (wordB p.tu c.tu && (wordB p.nm c.nm && (!(p.tu && decide (c.fr = c.tu)) && ((if p.num then numB (m + 1) c.ex else if p.tru then truB (m + 1) c.ex else bareX c.ex) && ((if p.date then dayC c.date else decide (c.date = 0)) && ((if p.dates then daysB c.dates else decide (c.dates.length = 0)) && decide (ns = p.subs)))))))
def nodeB (x : CN m × Nat) : Bool :=
  match pas x.1.k with
  | none => false
  | some p => partB p x.1 x.2
def coFormed : (n : Nat) → Co m n → Bool
  | 0, _ => true
  | n + 1, c => c.sub.all (coFormed n) && nodeB (c.top, c.sub.length)
def coE (n : Nat) (c : Co m n) : Int := if 500 < coSize n c ∨ 60 < coDepth n c then 4 else if coFormed n c = true then 0 else 8
theorem coFormed_nodes : ∀ (n : Nat) (c : Co m n), coFormed n c = (coNodes n c).all nodeB
  | 0, _ => rfl
  | n + 1, c => by
    rw [coFormed, coNodes, List.all_cons, List.all_flatMap, Bool.and_comm]
    congr 1
    exact List.all_congr rfl fun x => coFormed_nodes n x
end
end Z
end Go.Proofs.YtifafmomkpkgdaaDoor
