/- Plain: what Update answers. -/
import Derived.Test.YtdjghmpaopfboaaZclr
namespace Go.Proofs.Ytdjghmpaopfboaa
namespace Z
theorem filter_at {α : Type} {p : α → Bool} : ∀ (L : List α) (J : Nat) (x : α), (L.filter p)[J]? = some x ↔ ∃ i, L[i]? = some x ∧ p x = true ∧ ((L.take i).filter p).length = J
  | [], J, x => by simp
  | y :: r, J, x => by
    have ih := fun J => filter_at (p := p) r J x
    by_cases hy : p y = true
    · rw [List.filter_cons_of_pos hy]
      cases J with
      | zero =>
        constructor
        · intro h
          simp only [List.getElem?_cons_zero, Option.some.injEq] at h
          subst h
          exact ⟨0, rfl, hy, rfl⟩
        · rintro ⟨i, h1, h2, h3⟩
          cases i with
          | zero => simpa using h1
          | succ i =>
            rw [List.take_succ_cons, List.filter_cons_of_pos hy] at h3
            simp at h3
      | succ J =>
        rw [List.getElem?_cons_succ, ih]
        constructor
        · rintro ⟨i, h1, h2, h3⟩
          exact ⟨i + 1, h1, h2, by rw [List.take_succ_cons, List.filter_cons_of_pos hy, List.length_cons, h3]⟩
        · rintro ⟨i, h1, h2, h3⟩
          cases i with
          | zero => simp at h3
          | succ i =>
            rw [List.take_succ_cons, List.filter_cons_of_pos hy, List.length_cons] at h3
            exact ⟨i, h1, h2, by omega⟩
    · rw [List.filter_cons_of_neg hy, ih]
      constructor
      · rintro ⟨i, h1, h2, h3⟩
        exact ⟨i + 1, h1, h2, by rw [List.take_succ_cons, List.filter_cons_of_neg hy, h3]⟩
      · rintro ⟨i, h1, h2, h3⟩
        cases i with
        | zero =>
          simp only [List.getElem?_cons_zero, Option.some.injEq] at h1
          subst h1
          exact absurd h2 hy
        | succ i =>
          rw [List.take_succ_cons, List.filter_cons_of_neg hy] at h3
          exact ⟨i, h1, h2, h3⟩
/-- How many claims have a flow. -/
def cntO (op : List Cl) (f : Fl) : Nat := (op.filter fun x => decide (x.fl = f)).length
/-- How often a flow is in a list. -/
def cnt (fs : List Fl) (f : Fl) : Nat := (fs.filter fun g => decide (g = f)).length
theorem cnt_snoc {fs : List Fl} {k : Nat} {f : Fl} (h : fs[k]? = some f) (g : Fl) : cnt (fs.take (k + 1)) g = cnt (fs.take k) g + (if f = g then 1 else 0) := by
  obtain ⟨hlt, rfl⟩ := List.getElem?_eq_some_iff.1 h
  unfold cnt
  rw [List.take_succ_eq_append_getElem hlt, List.filter_append, List.length_append]
  congr 1
  by_cases e : fs[k] = g
  · simp [e]
  · simp [e]
theorem rank_lt {op : List Cl} {i : Nat} {x : Cl} (h : op[i]? = some x) : cntO (op.take i) x.fl < cntO op x.fl := by
  obtain ⟨hlt, hx⟩ := List.getElem?_eq_some_iff.1 h
  have e : op = op.take i ++ x :: op.drop (i + 1) := by
    rw [← hx, ← List.drop_eq_getElem_cons hlt, List.take_append_drop]
  have h2 : cntO op x.fl = cntO (op.take i ++ x :: op.drop (i + 1)) x.fl := by rw [← e]
  rw [h2]
  unfold cntO
  rw [List.filter_append, List.length_append, List.filter_cons_of_pos (by simp), List.length_cons]
  omega
/-- The number of a claim that is kept, c being how often each flow was asked for. -/
def keptN (op : List Cl) (c : Fl → Nat) (num : Int) : Bool := (List.range op.length).any fun i => match op[i]? with | some x => decide (x.n = num) && decide (cntO (op.take i) x.fl < c x.fl) | none => false
theorem keptN_iff {op : List Cl} {c : Fl → Nat} {num : Int} : keptN op c num = true ↔ ∃ i x, op[i]? = some x ∧ x.n = num ∧ cntO (op.take i) x.fl < c x.fl := by
  unfold keptN
  rw [List.any_eq_true]
  constructor
  · rintro ⟨i, hi, h⟩
    cases hx : op[i]? with
    | none => rw [hx] at h; cases h
    | some x =>
      rw [hx] at h
      simp only [Bool.and_eq_true, decide_eq_true_iff] at h
      exact ⟨i, x, hx, h.1, h.2⟩
  · rintro ⟨i, x, hx, h1, h2⟩
    refine ⟨i, List.mem_range.2 (List.getElem?_eq_some_iff.1 hx).1, ?_⟩
    rw [hx]
    simp [h1, h2]
/-- The numbers of the claims are apart. -/
def Apart (op : List Cl) : Prop := ∀ (i j : Nat) (x y : Cl), op[i]? = some x → op[j]? = some y → x.n = y.n → i = j
theorem keptN_at {op : List Cl} {c : Fl → Nat} (hA : Apart op) {i : Nat} {x : Cl} (h : op[i]? = some x) : keptN op c x.n = decide (cntO (op.take i) x.fl < c x.fl) := by
  rw [Bool.eq_iff_iff, keptN_iff, decide_eq_true_iff]
  constructor
  · rintro ⟨j, y, hy, h1, h2⟩
    obtain rfl := hA j i y x hy h h1
    rw [h] at hy
    obtain rfl := Option.some.inj hy
    exact h2
  · intro h2
    exact ⟨i, x, h, rfl, h2⟩
theorem keptN_zero (op : List Cl) (num : Int) : keptN op (fun _ => 0) num = false := by
  rw [Bool.eq_false_iff]
  intro h
  obtain ⟨_, _, _, _, h2⟩ := keptN_iff.1 h
  omega
theorem keptN_take {op : List Cl} {c c' : Fl → Nat} {f : Fl} {num : Int} (hc : ∀ g, c' g = c g + (if f = g then 1 else 0)) (hq : ((op.filter fun x => decide (x.fl = f)).map Cl.n)[c f]? = some num) (k : Int) :
    keptN op c' k = (keptN op c k || decide (k = num)) := by
  rw [List.getElem?_map, Option.map_eq_some_iff] at hq
  obtain ⟨y, hy, rfl⟩ := hq
  obtain ⟨i0, h1, h2, h3⟩ := (filter_at op (c f) y).1 hy
  have h2 : y.fl = f := by simpa using h2
  rw [Bool.eq_iff_iff, Bool.or_eq_true, keptN_iff, keptN_iff, decide_eq_true_iff]
  constructor
  · rintro ⟨i, x, hx, hn, hr⟩
    rw [hc] at hr
    by_cases e : f = x.fl
    · rw [if_pos e] at hr
      rcases Nat.lt_or_ge (cntO (op.take i) x.fl) (c x.fl) with h9 | h9
      · exact .inl ⟨i, x, hx, hn, h9⟩
      · right
        subst e
        have hJ : cntO (op.take i) x.fl = c x.fl := by omega
        have : (op.filter fun z => decide (z.fl = x.fl))[c x.fl]? = some x := (filter_at op (c x.fl) x).2 ⟨i, hx, by simp, hJ⟩
        rw [hy] at this
        obtain rfl := Option.some.inj this
        exact hn.symm
    · rw [if_neg e] at hr
      exact .inl ⟨i, x, hx, hn, by omega⟩
  · rintro (⟨i, x, hx, hn, hr⟩ | rfl)
    · exact ⟨i, x, hx, hn, by rw [hc]; omega⟩
    · refine ⟨i0, y, h1, rfl, ?_⟩
      rw [hc, h2, if_pos rfl]
      have : cntO (op.take i0) f = c f := h3
      omega
theorem keptN_full {op : List Cl} {c c' : Fl → Nat} {f : Fl} (hc : ∀ g, c' g = c g + (if f = g then 1 else 0)) (hq : cntO op f ≤ c f) (k : Int) : keptN op c' k = keptN op c k := by
  rw [Bool.eq_iff_iff, keptN_iff, keptN_iff]
  constructor
  · rintro ⟨i, x, hx, hn, hr⟩
    rw [hc] at hr
    by_cases e : f = x.fl
    · have := rank_lt hx
      exact ⟨i, x, hx, hn, by rw [← e] at *; omega⟩
    · rw [if_neg e] at hr
      exact ⟨i, x, hx, hn, by omega⟩
  · rintro ⟨i, x, hx, hn, hr⟩
    exact ⟨i, x, hx, hn, by rw [hc]; omega⟩
/-- Which numbers up to N are kept. -/
def kb (op : List Cl) (N : Nat) (c : Fl → Nat) : List Bool := (List.range (N + 1)).map fun j : Nat => keptN op c (j : Int)
theorem kb_len (op : List Cl) (N : Nat) (c : Fl → Nat) : (kb op N c).length = N + 1 := by simp [kb]
theorem kb_zero (op : List Cl) (N : Nat) : kb op N (fun _ => 0) = List.replicate (N + 1) false := by
  apply List.ext_getElem (by simp [kb])
  intro j h1 h2
  simp [kb, keptN_zero]
theorem kb_at {op : List Cl} {N j : Nat} {c : Fl → Nat} (hj : j ≤ N) : (kb op N c)[j]? = some (keptN op c j) := by
  unfold kb
  rw [List.getElem?_map, List.getElem?_range (by omega)]
  rfl
theorem kb_take {op : List Cl} {N : Nat} {c c' : Fl → Nat} {f : Fl} {num : Nat} (hc : ∀ g, c' g = c g + (if f = g then 1 else 0)) (hq : ((op.filter fun x => decide (x.fl = f)).map Cl.n)[c f]? = some (num : Int)) :
    kb op N c' = (kb op N c).set num true := by
  apply List.ext_getElem (by simp [kb])
  intro j h1 h2
  rw [List.getElem_set]
  simp only [kb, List.getElem_map, List.getElem_range]
  rw [keptN_take hc hq]
  by_cases e : num = j
  · subst e
    rw [if_pos rfl, decide_eq_true rfl, Bool.or_true]
  · rw [if_neg e, decide_eq_false (by omega : ¬ (j : Int) = num), Bool.or_false]
theorem kb_full {op : List Cl} {N : Nat} {c c' : Fl → Nat} {f : Fl} (hc : ∀ g, c' g = c g + (if f = g then 1 else 0)) (hq : cntO op f ≤ c f) : kb op N c' = kb op N c := by
  unfold kb
  apply List.map_congr_left
  intro j _
  exact keptN_full hc hq j
/-- The fresh flows among the first k. -/
def fr (op : List Cl) (fs : List Fl) : Nat → List Fl
  | 0 => []
  | k + 1 => match fs[k]? with
    | some f => if cntO op f ≤ cnt (fs.take k) f then fr op fs k ++ [f] else fr op fs k
    | none => fr op fs k
theorem fr_new {op : List Cl} {fs : List Fl} {k : Nat} {f : Fl} (h : fs[k]? = some f) (h2 : cntO op f ≤ cnt (fs.take k) f) : fr op fs (k + 1) = fr op fs k ++ [f] := by
  show (match fs[k]? with | some f => _ | none => _) = _
  rw [h]
  exact if_pos h2
theorem fr_old {op : List Cl} {fs : List Fl} {k : Nat} {f : Fl} (h : fs[k]? = some f) (h2 : ¬ cntO op f ≤ cnt (fs.take k) f) : fr op fs (k + 1) = fr op fs k := by
  show (match fs[k]? with | some f => _ | none => _) = _
  rw [h]
  exact if_neg h2
theorem fr_len (op : List Cl) (fs : List Fl) : ∀ k, (fr op fs k).length ≤ k
  | 0 => Nat.le_refl _
  | k + 1 => by
    have ih := fr_len op fs k
    show (match fs[k]? with | some f => if cntO op f ≤ cnt (fs.take k) f then fr op fs k ++ [f] else fr op fs k | none => fr op fs k).length ≤ k + 1
    cases fs[k]? with
    | none => simp only; omega
    | some f =>
      simp only
      split
      · rw [List.length_append]; simp; omega
      · omega
/-- The open claims among the first k that are not kept. -/
def rm (op : List Cl) (c : Fl → Nat) : Nat → List Cl
  | 0 => []
  | k + 1 => match op[k]? with
    | some x => if cntO (op.take k) x.fl < c x.fl then rm op c k else rm op c k ++ [x]
    | none => rm op c k
theorem rm_kept {op : List Cl} {c : Fl → Nat} {k : Nat} {x : Cl} (h : op[k]? = some x) (h2 : cntO (op.take k) x.fl < c x.fl) : rm op c (k + 1) = rm op c k := by
  show (match op[k]? with | some x => _ | none => _) = _
  rw [h]
  exact if_pos h2
theorem rm_not {op : List Cl} {c : Fl → Nat} {k : Nat} {x : Cl} (h : op[k]? = some x) (h2 : ¬ cntO (op.take k) x.fl < c x.fl) : rm op c (k + 1) = rm op c k ++ [x] := by
  show (match op[k]? with | some x => _ | none => _) = _
  rw [h]
  exact if_neg h2
/-- A reversal, a claim for a flow, behind claims. -/
def addR (en : Int) (out : List Cl) (x : Cl) : List Cl := out ++ [⟨(out.length : Int) + 1, x.n, en, opp x.fl⟩]
def addF (en : Int) (out : List Cl) (f : Fl) : List Cl := out ++ [⟨(out.length : Int) + 1, 0, en, f⟩]
/-- The claims behind an update. -/
def updL (l : List Cl) (fs : List Fl) (en : Int) : List Cl := (fr (openL l) fs fs.length).foldl (addF en) ((rm (openL l) (cnt fs) (openL l).length).foldl (addR en) l)
/-- The error of an update. -/
def updE (l : List Cl) (fs : List Fl) (en : Int) : Int :=
  if valid l = true then (if flE fs = 0 then (if en < 0 ∨ 1125899906842624 < en then 2 else if 0 < l.length ∧ en < prevE l l.length then 21 else if 5000 < (updL l fs en).length then 22 else 0) else flE fs) else 8
end Z
end Go.Proofs.Ytdjghmpaopfboaa
