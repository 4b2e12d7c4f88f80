/- Plain: ordered lists of words; the words and the horizon of a contract; the limits of the laws. -/
import Derived.Test.YtifafmomkpkgdaaDoorZtree
import Derived.Lib.SlicesCompact
namespace Go.Proofs.YtifafmomkpkgdaaDoor
namespace Z
abbrev BS := List UInt8
theorem bs_tri (a b : BS) : a < b ∨ a = b ∨ b < a := by
  by_cases h1 : a < b
  · exact .inl h1
  by_cases h2 : b < a
  · exact .inr (.inr h2)
  exact .inr (.inl (List.le_antisymm (List.not_lt.1 h2) (List.not_lt.1 h1)))
theorem bs_irrefl (a : BS) : ¬ a < a := List.lt_irrefl a
theorem bs_trans {a b c : BS} (h1 : a < b) (h2 : b < c) : a < c := List.lt_trans h1 h2
abbrev Asc (l : List BS) : Prop := l.Pairwise (· < ·)
/-- Two strictly ascending lists with the same elements are the same. -/
theorem bs_uniq : ∀ (l m : List BS), Asc l → Asc m → (∀ x, x ∈ l ↔ x ∈ m) → l = m
  | [], [], _, _, _ => rfl
  | [], b :: m, _, _, h => absurd ((h b).2 (List.mem_cons_self ..)) (by simp)
  | a :: l, [], _, _, h => absurd ((h a).1 (List.mem_cons_self ..)) (by simp)
  | a :: l, b :: m, hl, hm, h => by
    obtain ⟨ha, hl'⟩ := List.pairwise_cons.1 hl
    obtain ⟨hb, hm'⟩ := List.pairwise_cons.1 hm
    have e : a = b := by
      rcases List.mem_cons.1 ((h a).1 (List.mem_cons_self ..)) with e | e
      · exact e
      · rcases List.mem_cons.1 ((h b).2 (List.mem_cons_self ..)) with e' | e'
        · exact e'.symm
        · exact absurd (bs_trans (ha b e') (hb a e)) (bs_irrefl a)
    subst e
    congr 1
    refine bs_uniq l m hl' hm' fun x => ⟨fun hx => ?_, fun hx => ?_⟩
    · rcases List.mem_cons.1 ((h x).1 (List.mem_cons_of_mem _ hx)) with e | e
      · subst e; exact absurd (ha x hx) (bs_irrefl x)
      · exact e
    · rcases List.mem_cons.1 ((h x).2 (List.mem_cons_of_mem _ hx)) with e | e
      · subst e; exact absurd (hb x hx) (bs_irrefl x)
      · exact e
theorem getW {l : List BS} {i : Nat} (h : i < l.length) : l.toArray[i]! = l[i] := by simp [h]
theorem cmp_mem (l : List BS) (x : BS) : x ∈ Lib.compact l ↔ x ∈ l := by
  unfold Lib.compact Lib.compactUpTo
  constructor
  · intro h
    obtain ⟨j, hj, rfl⟩ := List.mem_map.1 h
    have hj' := List.mem_range.1 (List.mem_filter.1 hj).1
    rw [getW hj']
    exact List.getElem_mem hj'
  · intro h
    have hex : ∃ j, j < l.length ∧ l.toArray[j]! = x := by
      obtain ⟨j, hj, e⟩ := List.mem_iff_getElem.1 h
      exact ⟨j, hj, by rw [getW hj, e]⟩
    obtain ⟨j, ⟨hj, e⟩, hmin⟩ : ∃ j, (j < l.length ∧ l.toArray[j]! = x) ∧ ∀ i, i < j → ¬ (i < l.length ∧ l.toArray[i]! = x) := by
      obtain ⟨j0, h0⟩ := hex
      revert h0
      induction j0 using Nat.strongRecOn with
      | ind j0 ih =>
        intro h0
        by_cases hc : ∃ i, i < j0 ∧ (i < l.length ∧ l.toArray[i]! = x)
        · obtain ⟨i, hi, hp⟩ := hc
          exact ih i hi hp
        · exact ⟨j0, h0, fun i hi hp => hc ⟨i, hi, hp⟩⟩
    refine List.mem_map.2 ⟨j, List.mem_filter.2 ⟨List.mem_range.2 hj, ?_⟩, e⟩
    unfold Lib.keeps
    rw [decide_eq_true_iff]
    rcases Nat.eq_zero_or_pos j with h0 | h0
    · exact .inl h0
    · refine .inr fun hh => hmin (j - 1) (by omega) ⟨by omega, by rw [← hh]; exact e⟩
theorem cmp_asc {l : List BS} (h : l.Pairwise (· ≤ ·)) : Asc (Lib.compact l) := by
  unfold Lib.compact Lib.compactUpTo
  rw [Asc, List.pairwise_map]
  have hr : (List.range l.length).Pairwise (· < ·) := List.pairwise_lt_range
  have hf := hr.filter (Lib.keeps l.toArray)
  refine hf.imp_of_mem fun {i j} hi hj hij => ?_
  have hj2 := List.mem_filter.1 hj
  have hjl := List.mem_range.1 hj2.1
  have hk := hj2.2
  unfold Lib.keeps at hk
  rw [decide_eq_true_iff] at hk
  have hne := hk.resolve_left (by omega)
  rw [getW hjl, getW (show j - 1 < l.length by omega)] at hne
  rw [getW hjl, getW (show i < l.length by omega)]
  have le : ∀ p q : Nat, p ≤ q → ∀ hq : q < l.length, ∀ hp : p < l.length, l[p] ≤ l[q] := fun p q hpq hq hp => by
    rcases Nat.lt_or_eq_of_le hpq with h1 | h1
    · exact List.pairwise_iff_getElem.1 h p q hp hq h1
    · subst h1; exact List.le_refl _
  have a1 := le i (j - 1) (by omega) (by omega) (by omega)
  have a2 := le (j - 1) j (by omega) (by omega) (by omega)
  have a3 : l[i] ≤ l[j] := List.le_trans a1 a2
  rcases bs_tri l[i] l[j] with e | e | e
  · exact e
  · refine absurd ?_ hne
    rw [e] at a1
    exact (List.le_antisymm a2 a1).symm
  · exact absurd e (List.not_lt.2 a3)
/-- The words of a list, each once, in order. -/
def uniqW (l : List BS) : List BS := Lib.compact (l.mergeSort fun x y => decide (x ≤ y))
theorem uniqW_mem (l : List BS) (x : BS) : x ∈ uniqW l ↔ x ∈ l := by
  unfold uniqW
  rw [cmp_mem, List.mem_mergeSort]
theorem uniqW_asc (l : List BS) : Asc (uniqW l) := by
  refine cmp_asc ?_
  have h := List.pairwise_mergeSort (le := fun x y : BS => decide (x ≤ y)) (fun a b c h1 h2 => by
    rw [decide_eq_true_iff] at h1 h2 ⊢
    exact List.le_trans h1 h2) (fun a b => by
    rw [Bool.or_eq_true, decide_eq_true_iff, decide_eq_true_iff]
    exact List.le_total a b) l
  exact h.imp fun h => of_decide_eq_true h
/-- An ordered list with one more word. -/
def withB : List BS → BS → List BS
  | [], s => [s]
  | x :: r, s => if x < s then x :: withB r s else if x = s then x :: r else s :: x :: r
theorem withB_mem (s x : BS) : ∀ l : List BS, x ∈ withB l s ↔ x ∈ l ∨ x = s
  | [] => by simp [withB]
  | y :: r => by
    unfold withB
    split
    · rw [List.mem_cons, withB_mem s x r, List.mem_cons]
      constructor
      · rintro (h | h | h)
        · exact .inl (.inl h)
        · exact .inl (.inr h)
        · exact .inr h
      · rintro ((h | h) | h)
        · exact .inl h
        · exact .inr (.inl h)
        · exact .inr (.inr h)
    · split
      · rename_i e
        constructor
        · exact .inl
        · rintro (h | h)
          · exact h
          · rw [h, ← e]; exact List.mem_cons_self ..
      · rw [List.mem_cons, or_comm]
theorem withB_asc (s : BS) : ∀ l : List BS, Asc l → Asc (withB l s)
  | [], _ => by simp [withB]
  | y :: r, h => by
    obtain ⟨h1, h2⟩ := List.pairwise_cons.1 h
    unfold withB
    split
    · rename_i hy
      refine List.pairwise_cons.2 ⟨fun z hz => ?_, withB_asc s r h2⟩
      rcases (withB_mem s z r).1 hz with hz | rfl
      · exact h1 z hz
      · exact hy
    · rename_i hy
      split
      · exact h
      · rename_i he
        have hs : s < y := by
          rcases bs_tri s y with e | e | e
          · exact e
          · exact absurd e.symm he
          · exact absurd e hy
        refine List.pairwise_cons.2 ⟨fun z hz => ?_, h⟩
        rcases List.mem_cons.1 hz with rfl | hz
        · exact hs
        · exact bs_trans hs (h1 z hz)
theorem foldW_asc : ∀ (ws l : List BS), Asc l → Asc (ws.foldl withB l)
  | [], _, h => h
  | w :: r, l, h => foldW_asc r _ (withB_asc w l h)
theorem foldW_mem (x : BS) : ∀ (ws l : List BS), x ∈ ws.foldl withB l ↔ x ∈ l ∨ x ∈ ws
  | [], l => by simp
  | w :: r, l => by
    rw [List.foldl_cons, foldW_mem x r, withB_mem, List.mem_cons]
    constructor
    · rintro ((h | h) | h)
      · exact .inl h
      · exact .inr (.inl h)
      · exact .inr (.inr h)
    · rintro (h | h | h)
      · exact .inl (.inl h)
      · exact .inl (.inr h)
      · exact .inr h
theorem foldW_uniq (ws : List BS) : ws.foldl withB [] = uniqW ws :=
  bs_uniq _ _ (foldW_asc ws [] List.Pairwise.nil) (uniqW_asc ws) fun x => by rw [foldW_mem, uniqW_mem]; simp
theorem foldW_perm {ws vs l m : List BS} (hl : Asc l) (hm : Asc m) (h : ∀ x, (x ∈ l ∨ x ∈ ws) ↔ (x ∈ m ∨ x ∈ vs)) : ws.foldl withB l = vs.foldl withB m :=
  bs_uniq _ _ (foldW_asc ws l hl) (foldW_asc vs m hm) fun x => by rw [foldW_mem, foldW_mem]; exact h x
/-- With, seen from the place i. -/
theorem withB_skip (s : BS) : ∀ (l : List BS) (i : Nat), (∀ j (x : BS), j < i → l[j]? = some x → x < s) → i ≤ l.length → withB l s = l.take i ++ withB (l.drop i) s
  | l, 0, _, _ => by simp
  | [], i + 1, _, h => by simp at h
  | x :: r, i + 1, h, hi => by
    rw [List.take_succ_cons, List.drop_succ_cons, List.cons_append, ← withB_skip s r i (fun j y hj hy => h (j + 1) y (by omega) (by simpa using hy)) (by simpa using hi)]
    conv => lhs; unfold withB
    rw [if_pos (h 0 x (by omega) rfl)]
/-! Words of contracts. -/
def ne0 (s : ByteArray) : Bool := !decide (s = e0)
def bytesW (s : ByteArray) : BS := s.data.toList
section
variable {m : Nat}
/-- The words that a node adds. -/
def pw (c : CN m) : List BS := ([c.fr, c.tu].filter ne0).map bytesW
def mw (c : CN m) : List BS := if c.k = 2 then ([c.nm].filter ne0).map bytesW else []
def allW (at_ : CN m → List BS) (n : Nat) (c : Co m n) : List BS := (coNodes n c).flatMap fun x => at_ x.1
theorem allW_eq (at_ : CN m → List BS) (n : Nat) (c : Co m (n + 1)) : allW at_ (n + 1) c = at_ c.top ++ c.sub.flatMap (allW at_ n) := by
  unfold allW
  rw [coNodes, List.flatMap_cons, List.flatMap_assoc]
/-! The horizon. -/
/-- What a node makes of the greatest day so far, in the program. -/
def hStep (a : Int) (x : CN m × Nat) : Int :=
  if 0 < x.1.dates.length then max (max (max a x.1.date) (exLast (m + 1) x.1.ex)) (x.1.dates.getLastD 0) else max (max a x.1.date) (exLast (m + 1) x.1.ex)
def coLast : (n : Nat) → Co m n → Int
  | 0, _ => 0
  | n + 1, c => lastL (coLast n) (c.top.dates.foldl max (max c.top.date (exLast (m + 1) c.top.ex))) c.sub
end
theorem asc_end : ∀ (r : List Int) (p q : Int), p ≤ q → ascD q r = true → p ≤ r.getLastD q
  | [], _, _, h, _ => h
  | z :: t, p, q, h, h3 => by
    unfold ascD at h3
    rw [Bool.and_eq_true, decide_eq_true_iff] at h3
    rw [List.getLastD_cons]
    exact asc_end t p z (by omega) h3.2
theorem asc_foldmax : ∀ (l : List Int) (a b : Int), ascD a l = true → l.foldl max b = if 0 < l.length then max b (l.getLastD 0) else b
  | [], _, _, _ => rfl
  | [x], a, b, _ => by simp
  | x :: y :: r, a, b, h => by
    unfold ascD at h
    rw [Bool.and_eq_true] at h
    have h2 := h.2
    have ih := asc_foldmax (y :: r) x (max b x) h2
    rw [List.foldl_cons, ih, if_pos (by simp), if_pos (by simp), List.getLastD_cons, List.getLastD_cons, List.getLastD_cons]
    unfold ascD at h2
    rw [Bool.and_eq_true, decide_eq_true_iff] at h2
    have hle := asc_end r x y (by omega) h2.2
    omega
section
variable {m : Nat}
theorem node_dates {x : CN m × Nat} (h : nodeB x = true) : x.1.dates = [] ∨ daysB x.1.dates = true := by
  unfold nodeB at h
  split at h
  · cases h
  · unfold partB at h
    simp only [Bool.and_eq_true] at h
    have h7 := h.2.2.2.2.2.2.1
    split at h7
    · exact .inr h7
    · rw [decide_eq_true_iff] at h7
      exact .inl (List.eq_nil_of_length_eq_zero h7)
theorem node_foldmax {x : CN m × Nat} (h : nodeB x = true) (b : Int) : x.1.dates.foldl max b = if 0 < x.1.dates.length then max b (x.1.dates.getLastD 0) else b := by
  rcases node_dates h with e | e
  · rw [e]; rfl
  · unfold daysB at e
    simp only [Bool.and_eq_true] at e
    have e4 := e.2.2.2
    generalize x.1.dates = l at *
    match l, e4 with
    | [], _ => rfl
    | x :: r, e4 => exact asc_foldmax (x :: r) (x - 1) b (by unfold ascD; rw [Bool.and_eq_true, decide_eq_true_iff]; exact ⟨by omega, e4⟩)
theorem hor_nodes : ∀ (n : Nat) (c : Co m n), (∀ x ∈ coNodes n c, nodeB x = true) → ∀ a, (coNodes n c).foldl hStep a = if n = 0 then a else max a (coLast n c)
  | 0, _, _, _ => rfl
  | n + 1, c, h, a => by
    rw [coNodes] at h ⊢
    rw [List.foldl_cons, coLast, if_neg (by omega)]
    have hn := h _ (List.mem_cons_self ..)
    have key : ∀ l : List (Co m n), (∀ x ∈ l, ∀ y ∈ coNodes n x, nodeB y = true) → ∀ a, (l.flatMap (coNodes n)).foldl hStep a = lastL (coLast n) a l := by
      intro l
      induction l with
      | nil => intro _ _; rfl
      | cons x r ihl =>
        intro hx a
        have hn0 : n ≠ 0 := fun e => by subst e; exact x.no
        rw [List.flatMap_cons, List.foldl_append, hor_nodes n x (hx x (List.mem_cons_self ..)), if_neg hn0, ihl (fun y hy => hx y (List.mem_cons_of_mem _ hy)), lastL]
    rw [key c.sub (fun x hx y hy => h y (List.mem_cons_of_mem _ (List.mem_flatMap.2 ⟨x, hx, hy⟩))), ← lastL_max, node_foldmax hn]
    congr 1
    unfold hStep
    simp only
    split <;> omega
end
/-! The limits of the laws. -/
def cntL {α : Type} (f : α → Int → Int → Int × Bool) (lim deep : Int) : Int → List α → Int × Bool
  | n, [] => (n, true)
  | n, x :: r => if n ≤ lim then (if (f x (lim - n) (deep - 1)).2 = true then cntL f lim deep (n + (f x (lim - n) (deep - 1)).1) r else (n, false)) else (n, true)
section
variable {α : Type} {f : α → Int → Int → Int × Bool} {s : α → Nat}
theorem cntL_le : ∀ (l : List α) (lim deep n : Int), (∀ x ∈ l, ∀ lim deep, 0 ≤ lim → 1 ≤ (f x lim deep).1 ∧ (f x lim deep).1 ≤ lim + 1) → 1 ≤ n → n ≤ lim + 1 → 1 ≤ (cntL f lim deep n l).1 ∧ (cntL f lim deep n l).1 ≤ lim + 1
  | [], _, _, _, _, h1, h2 => ⟨h1, h2⟩
  | x :: r, lim, deep, n, h, h1, h2 => by
    rw [cntL]
    split
    · have hx := h x (List.mem_cons_self ..) (lim - n) (deep - 1) (by omega)
      split
      · exact cntL_le r lim deep _ (fun y hy => h y (List.mem_cons_of_mem _ hy)) (by omega) (by omega)
      · exact ⟨h1, h2⟩
    · exact ⟨h1, h2⟩
theorem cntL_ok : ∀ (l : List α) (lim deep n : Int), (∀ x ∈ l, ∀ lim deep, (f x lim deep).2 = true → (f x lim deep).1 ≤ lim → (f x lim deep).1 = s x) → (cntL f lim deep n l).2 = true → (cntL f lim deep n l).1 ≤ lim → (cntL f lim deep n l).1 = n + sumL s l ∧ n ≤ lim
  | [], _, _, n, _, _, h3 => ⟨by simp [cntL, sumL], h3⟩
  | x :: r, lim, deep, n, h, h2, h3 => by
    rw [cntL] at h2 h3 ⊢
    split at h2
    · rename_i hn
      rw [if_pos hn] at h3 ⊢
      split at h2
      · rename_i hx
        rw [if_pos hx] at h3 ⊢
        obtain ⟨e1, e2⟩ := cntL_ok r lim deep _ (fun y hy => h y (List.mem_cons_of_mem _ hy)) h2 h3
        have e3 := h x (List.mem_cons_self ..) _ _ hx (by omega)
        rw [e3] at e1
        refine ⟨?_, hn⟩
        rw [e3, e1, sumL]
        omega
      · cases h2
    · rename_i hn
      rw [if_neg hn] at h3
      exact absurd h3 hn
theorem cntL_drop {l : List α} {k : Nat} {x : α} (lim deep n : Int) (h : l[k]? = some x) : cntL f lim deep n (l.drop k) = if n ≤ lim then (if (f x (lim - n) (deep - 1)).2 = true then cntL f lim deep (n + (f x (lim - n) (deep - 1)).1) (l.drop (k + 1)) else (n, false)) else (n, true) := by
  obtain ⟨hlt, rfl⟩ := List.getElem?_eq_some_iff.1 h
  rw [List.drop_eq_getElem_cons hlt]
  rfl
end
def exCount : (n : Nat) → Ex n → Int → Int → Int × Bool
  | 0, _, _, _ => (1, true)
  | n + 1, e, lim, deep => if deep = 0 then (1, false) else cntL (exCount n) lim deep 1 e.sub
theorem exCount_le : ∀ (n : Nat) (e : Ex n) (lim deep : Int), 0 ≤ lim → 1 ≤ (exCount n e lim deep).1 ∧ (exCount n e lim deep).1 ≤ lim + 1
  | 0, e, _, _, _ => e.no
  | n + 1, e, lim, deep, h => by
    rw [exCount]
    split
    · exact ⟨by simp, by simp; omega⟩
    · exact cntL_le e.sub lim deep 1 (fun x _ => exCount_le n x) (by omega) (by omega)
theorem exCount_ok : ∀ (n : Nat) (e : Ex n) (lim deep : Int), (exCount n e lim deep).2 = true → (exCount n e lim deep).1 ≤ lim → (exCount n e lim deep).1 = exSize n e
  | 0, e, _, _, _, _ => e.no
  | n + 1, e, lim, deep, h1, h2 => by
    rw [exCount] at h1 h2 ⊢
    split at h1
    · cases h1
    · rename_i hd
      rw [if_neg hd] at h2 ⊢
      rw [(cntL_ok e.sub lim deep 1 (fun x _ => exCount_ok n x) h1 h2).1, exSize]
      omega
def exBytes : (n : Nat) → Ex n → Nat
  | 0, _ => 0
  | n + 1, e => e.top.rat.size + e.top.name.size + sumL (exBytes n) e.sub
def exG (n : Nat) (e : Ex n) : Bool := !(exCount n e 600 100).2 || (decide (600 < (exCount n e 600 100).1) || decide (3000 < exBytes n e))
/-- An expression within the limits. -/
def XSm (n : Nat) (e : Ex n) : Prop := exSize n e ≤ 600 ∧ exBytes n e ≤ 3000
theorem exG_sm {n : Nat} {e : Ex n} (h : exG n e = false) : XSm n e := by
  unfold exG at h
  rw [Bool.or_eq_false_iff, Bool.or_eq_false_iff, decide_eq_false_iff_not, decide_eq_false_iff_not] at h
  have h1 : (exCount n e 600 100).2 = true := by
    have := h.1
    cases hc : (exCount n e 600 100).2
    · rw [hc] at this; cases this
    · rfl
  have := exCount_ok n e 600 100 h1 (by omega)
  exact ⟨by omega, by omega⟩
theorem XSm.sub {n : Nat} {e : Ex (n + 1)} {x : Ex n} (h : XSm (n + 1) e) (hx : x ∈ e.sub) : XSm n x := by
  obtain ⟨h1, h2⟩ := h
  rw [exSize] at h1
  rw [exBytes] at h2
  have := sumL_mem (f := exSize n) hx
  have := sumL_mem (f := exBytes n) hx
  exact ⟨by omega, by omega⟩
theorem XSm.str {n : Nat} {e : Ex (n + 1)} (h : XSm (n + 1) e) : e.top.rat.size ≤ 3000 ∧ e.top.name.size ≤ 3000 := by
  have h2 := h.2
  rw [exBytes] at h2
  exact ⟨by omega, by omega⟩
theorem XSm.len {n : Nat} {e : Ex (n + 1)} (h : XSm (n + 1) e) : e.sub.length ≤ 600 := by
  have h1 := h.1
  rw [exSize] at h1
  have := sumL_len (exSize_pos n) e.sub
  omega
/-- All strings of an expression are of at most M bytes. -/
def XLe (M : Nat) : (n : Nat) → Ex n → Prop
  | 0, _ => True
  | n + 1, e => e.top.rat.size ≤ M ∧ e.top.name.size ≤ M ∧ ∀ x ∈ e.sub, XLe M n x
theorem exBytes_le {M : Nat} : ∀ (n : Nat) (e : Ex n), XLe M n e → exBytes n e ≤ 2 * M * exSize n e
  | 0, e, _ => e.no
  | n + 1, e, h => by
    obtain ⟨h1, h2, h3⟩ := h
    have := sumL_le (f := exBytes n) (g := exSize n) (2 * M) 0 e.sub fun x hx => exBytes_le n x (h3 x hx)
    rw [exBytes, exSize, Nat.mul_add]
    omega
section
variable {m : Nat}
def coCnt : (n : Nat) → Co m n → Nat
  | 0, _ => 1
  | n + 1, c => 1 + sumL (coCnt n) c.sub
theorem coCnt_pos : ∀ (n : Nat) (e : Co m n), 1 ≤ coCnt n e
  | 0, _ => Nat.le_refl 1
  | n + 1, e => by rw [coCnt]; omega
theorem coNodes_len : ∀ (n : Nat) (c : Co m n), (coNodes n c).length = coCnt n c
  | 0, c => c.no
  | n + 1, c => by
    rw [coNodes, coCnt, List.length_cons, List.length_flatMap]
    have : ∀ l : List (Co m n), (l.map fun x => (coNodes n x).length).sum = sumL (coCnt n) l := by
      intro l
      induction l with
      | nil => rfl
      | cons x r ih => rw [List.map_cons, List.sum_cons, sumL, ih, coNodes_len n x]
    rw [this]
    omega
def coCount : (n : Nat) → Co m n → Int → Int → Int × Bool
  | 0, _, _, _ => (1, true)
  | n + 1, e, lim, deep => if deep = 0 then (1, false) else cntL (coCount n) lim deep 1 e.sub
theorem coCount_le : ∀ (n : Nat) (e : Co m n) (lim deep : Int), 0 ≤ lim → 1 ≤ (coCount n e lim deep).1 ∧ (coCount n e lim deep).1 ≤ lim + 1
  | 0, e, _, _, _ => e.no
  | n + 1, e, lim, deep, h => by
    rw [coCount]
    split
    · exact ⟨by simp, by simp; omega⟩
    · exact cntL_le e.sub lim deep 1 (fun x _ => coCount_le n x) (by omega) (by omega)
theorem coCount_ok : ∀ (n : Nat) (e : Co m n) (lim deep : Int), (coCount n e lim deep).2 = true → (coCount n e lim deep).1 ≤ lim → (coCount n e lim deep).1 = coCnt n e
  | 0, e, _, _, _, _ => e.no
  | n + 1, e, lim, deep, h1, h2 => by
    rw [coCount] at h1 h2 ⊢
    split at h1
    · cases h1
    · rename_i hd
      rw [if_neg hd] at h2 ⊢
      rw [(cntL_ok e.sub lim deep 1 (fun x _ => coCount_ok n x) h1 h2).1, coCnt]
      omega
def ownW (c : CN m) : Int := c.fr.size + c.tu.size + c.nm.size + c.dates.length + 4 * exSize (m + 1) c.ex
def weiL {α : Type} (f : α → Int) : Int → List α → Int
  | n, [] => n
  | n, x :: r => if n < 100000 then weiL f (n + f x) r else n
def coWeight : (n : Nat) → Co m n → Int
  | 0, _ => 0
  | n + 1, c => if exG (m + 1) c.top.ex = true then 200000 else weiL (coWeight n) (ownW c.top) c.sub
theorem weiL_drop {α : Type} {f : α → Int} {l : List α} {k : Nat} {x : α} (n : Int) (h : l[k]? = some x) : weiL f n (l.drop k) = if n < 100000 then weiL f (n + f x) (l.drop (k + 1)) else n := by
  obtain ⟨hlt, rfl⟩ := List.getElem?_eq_some_iff.1 h
  rw [List.drop_eq_getElem_cons hlt]
  rfl
theorem weiL_ge {α : Type} {f : α → Int} (h : ∀ x, 0 ≤ f x) : ∀ (l : List α) (n : Int), n ≤ weiL f n l
  | [], n => Int.le_refl n
  | x :: r, n => by
    rw [weiL]
    split
    · have h1 := h x
      have h2 := weiL_ge h r (n + f x)
      omega
    · exact Int.le_refl n
theorem ownW_nn (c : CN m) : 0 ≤ ownW c := by unfold ownW; omega
theorem coWeight_nn : ∀ (n : Nat) (c : Co m n), 0 ≤ coWeight n c
  | 0, c => c.no
  | n + 1, c => by
    rw [coWeight]
    split
    · omega
    · have := weiL_ge (coWeight_nn n) c.sub (ownW c.top)
      have := ownW_nn c.top
      omega
theorem weiL_sm {α : Type} {f : α → Int} (h : ∀ x, 0 ≤ f x) : ∀ (l : List α) (n : Int), 0 ≤ n → weiL f n l ≤ 12000 → n ≤ 12000 ∧ ∀ x ∈ l, f x ≤ 12000
  | [], n, _, e => ⟨e, fun x hx => absurd hx (by simp)⟩
  | x :: r, n, h0, e => by
    have hn : n ≤ 12000 := Int.le_trans (weiL_ge h (x :: r) n) e
    rw [weiL, if_pos (by omega)] at e
    have hx := h x
    obtain ⟨h1, h2⟩ := weiL_sm h r _ (by omega) e
    refine ⟨hn, fun y hy => ?_⟩
    rcases List.mem_cons.1 hy with rfl | hy
    · omega
    · exact h2 y hy
/-- A contract within the limits. -/
structure NSm (c : CN m) : Prop where
  ex : XSm (m + 1) c.ex
  fr : c.fr.size ≤ 12000
  tu : c.tu.size ≤ 12000
  nm : c.nm.size ≤ 12000
  dates : c.dates.length ≤ 12000
def CSm : (n : Nat) → Co m n → Prop
  | 0, _ => True
  | n + 1, c => NSm c.top ∧ coCnt (n + 1) c ≤ 1500 ∧ ∀ x ∈ c.sub, CSm n x
theorem exG_no {n : Nat} {e : Ex n} (h : ¬ exG n e = true) : exG n e = false := by
  cases hb : exG n e
  · rfl
  · exact absurd hb h
theorem csm_of : ∀ (n : Nat) (c : Co m n), coWeight n c ≤ 12000 → coCnt n c ≤ 1500 → CSm n c
  | 0, c, _, _ => c.no
  | n + 1, c, h, hc => by
    rw [coWeight] at h
    split at h
    · omega
    · rename_i hg
      have hw := ownW_nn c.top
      obtain ⟨h1, h2⟩ := weiL_sm (coWeight_nn n) c.sub _ hw h
      unfold ownW at h1
      have hx := exG_sm (exG_no hg)
      refine ⟨⟨hx, by omega, by omega, by omega, by omega⟩, hc, fun x hx => csm_of n x (h2 x hx) ?_⟩
      rw [coCnt] at hc
      have := sumL_mem (f := coCnt n) hx
      omega
def coG (n : Nat) (c : Co m n) : Bool := !(coCount n c 600 100).2 || (decide (600 < (coCount n c 600 100).1) || decide (12000 < coWeight n c))
theorem coG_sm {n : Nat} {c : Co m n} (h : coG n c = false) : CSm n c := by
  unfold coG at h
  rw [Bool.or_eq_false_iff, Bool.or_eq_false_iff, decide_eq_false_iff_not, decide_eq_false_iff_not] at h
  have h1 : (coCount n c 600 100).2 = true := by
    have := h.1
    cases hc : (coCount n c 600 100).2
    · rw [hc] at this; cases this
    · rfl
  have := coCount_ok n c 600 100 h1 (by omega)
  exact csm_of n c (by omega) (by omega)
theorem exZ_le (e : Ex (m + 1)) : exZ e ≤ exSize (m + 1) e := by unfold exZ; split <;> omega
theorem CSm.size_cnt : ∀ (n : Nat) (c : Co m n), CSm n c → coSize n c ≤ 601 * coCnt n c
  | 0, c, _ => c.no
  | n + 1, c, h => by
    obtain ⟨h1, h2, h3⟩ := h
    have := sumL_le (f := coSize n) (g := coCnt n) 601 0 c.sub fun x hx => CSm.size_cnt n x (h3 x hx)
    have := exZ_le c.top.ex
    have := h1.ex.1
    rw [coSize, coCnt]
    omega
theorem CSm.cnt {n : Nat} {c : Co m (n + 1)} (h : CSm (n + 1) c) : coCnt (n + 1) c ≤ 1500 := h.2.1
theorem CSm.top {n : Nat} {c : Co m (n + 1)} (h : CSm (n + 1) c) : NSm c.top := h.1
theorem CSm.sub {n : Nat} {c : Co m (n + 1)} (h : CSm (n + 1) c) : ∀ x ∈ c.sub, CSm n x := h.2.2
theorem CSm.size {n : Nat} {c : Co m (n + 1)} (h : CSm (n + 1) c) : coSize (n + 1) c ≤ 1000000 := by
  have := CSm.size_cnt (n + 1) c h
  have := h.cnt
  omega
theorem CSm.len {n : Nat} {c : Co m (n + 1)} (h : CSm (n + 1) c) : c.sub.length ≤ 1500 := by
  have h1 := h.cnt
  rw [coCnt] at h1
  have := sumL_len (coCnt_pos n) c.sub
  omega
theorem CSm.nodes : ∀ (n : Nat) (c : Co m n), CSm n c → ∀ x ∈ coNodes n c, NSm x.1
  | 0, c, _, _, _ => c.no
  | n + 1, c, h, x, hx => by
    rw [coNodes] at hx
    rcases List.mem_cons.1 hx with rfl | hx
    · exact h.1
    · obtain ⟨y, hy, hxy⟩ := List.mem_flatMap.1 hx
      exact CSm.nodes n y (h.2.2 y hy) x hxy
/-- All strings and lists of days of a contract are of at most M bytes. -/
def CLe (M : Nat) : (n : Nat) → Co m n → Prop
  | 0, _ => True
  | n + 1, c => XLe M (m + 1) c.top.ex ∧ c.top.fr.size ≤ M ∧ c.top.tu.size ≤ M ∧ c.top.nm.size ≤ M ∧ c.top.dates.length ≤ M ∧ ∀ x ∈ c.sub, CLe M n x
theorem weiL_le {α : Type} {f : α → Int} {g : α → Nat} (W : Int) : ∀ (l : List α) (n : Int), 0 ≤ W → (∀ x ∈ l, f x ≤ W + 200000 * g x) → weiL f n l ≤ max n (100000 + W + 200000 * sumL g l)
  | [], n, hW, _ => by rw [weiL, sumL]; omega
  | x :: r, n, hW, h => by
    rw [weiL, sumL]
    have hx := h x (List.mem_cons_self ..)
    split
    · have := weiL_le (g := g) W r (n + f x) hW fun y hy => h y (List.mem_cons_of_mem _ hy)
      omega
    · omega
theorem coWeight_le {M : Nat} : ∀ (n : Nat) (c : Co m n), CLe M n c → coWeight n c ≤ (4 * M + 2400) + 200000 * coCnt n c
  | 0, c, _ => c.no
  | n + 1, c, h => by
    obtain ⟨h1, h2, h3, h4, h5, h6⟩ := h
    rw [coWeight, coCnt]
    split
    · omega
    · rename_i hg
      have e1 := weiL_le (f := coWeight n) (g := coCnt n) (4 * M + 2400) c.sub (ownW c.top) (by omega) fun x hx => coWeight_le n x (h6 x hx)
      have e2 : ownW c.top ≤ 4 * M + 2400 := by
        have := (exG_sm (exG_no hg)).1
        unfold ownW
        omega
      omega
end
end Z
end Go.Proofs.YtifafmomkpkgdaaDoor
