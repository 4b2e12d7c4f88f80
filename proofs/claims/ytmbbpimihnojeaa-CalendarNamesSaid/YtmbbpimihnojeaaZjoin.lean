/- Plain: the union of two ascending lists; the weekend of a joint calendar. -/
import Derived.Test.YtmbbpimihnojeaaZcal
import Derived.Lib.SlicesCompact
namespace Go.Proofs.Ytmbbpimihnojeaa
namespace Z
/-- Two strictly ascending lists with the same elements are the same. -/
theorem asc_uniq : ∀ (l m : List Int), l.Pairwise (· < ·) → m.Pairwise (· < ·) → (∀ x, x ∈ l ↔ x ∈ m) → l = m
  | [], [], _, _, _ => rfl
  | [], b :: m, _, _, h => absurd ((h b).2 (List.mem_cons_self ..)) (by simp)
  | a :: l, [], _, _, h => absurd ((h a).1 (List.mem_cons_self ..)) (by simp)
  | a :: l, b :: m, hl, hm, h => by
    obtain ⟨ha, hl'⟩ := List.pairwise_cons.1 hl
    obtain ⟨hb, hm'⟩ := List.pairwise_cons.1 hm
    have e : a = b := by
      rcases List.mem_cons.1 ((h a).1 (List.mem_cons_self ..)) with e | e
      · exact e
      · rcases List.mem_cons.1 ((h b).2 (List.mem_cons_self ..)) with e' | e'
        · exact e'.symm
        · have := ha b e'; have := hb a e; omega
    subst e
    congr 1
    refine asc_uniq l m hl' hm' fun x => ⟨fun hx => ?_, fun hx => ?_⟩
    · rcases List.mem_cons.1 ((h x).1 (List.mem_cons_of_mem _ hx)) with e | e
      · have := ha x hx; omega
      · exact e
    · rcases List.mem_cons.1 ((h x).2 (List.mem_cons_of_mem _ hx)) with e | e
      · have := hb x hx; omega
      · exact e
def leI : Int → Int → Bool := fun x y => decide (x ≤ y)
/-- The union of two lists, in order. -/
def J (a b : List Int) : List Int := Lib.compact ((a ++ b).mergeSort leI)
theorem getB {l : List Int} {i : Nat} (h : i < l.length) : l.toArray[i]! = l[i] := by simp [h]
theorem compact_mem (l : List Int) (x : Int) : x ∈ Lib.compact l ↔ x ∈ l := by
  unfold Lib.compact Lib.compactUpTo
  constructor
  · intro h
    obtain ⟨j, hj, rfl⟩ := List.mem_map.1 h
    have hj' := List.mem_range.1 (List.mem_filter.1 hj).1
    rw [getB hj']
    exact List.getElem_mem hj'
  · intro h
    have hex : ∃ j, j < l.length ∧ l.toArray[j]! = x := by
      obtain ⟨j, hj, e⟩ := List.mem_iff_getElem.1 h
      exact ⟨j, hj, by rw [getB hj, e]⟩
    obtain ⟨j, ⟨hj, e⟩, hmin⟩ : ∃ j, (j < l.length ∧ l.toArray[j]! = x) ∧ ∀ i, i < j → ¬ (i < l.length ∧ l.toArray[i]! = x) := by
      obtain ⟨j0, h0⟩ := hex
      revert h0
      induction j0 using Nat.strongRecOn with
      | ind j0 ih =>
        intro h0
        by_cases hc : ∃ i, i < j0 ∧ (i < l.length ∧ l.toArray[i]! = x)
        · obtain ⟨i, hi, hp⟩ := hc
          exact ih i hi hp
        · exact ⟨j0, h0, fun i hi hp => hc ⟨i, hi, hp⟩⟩
    refine List.mem_map.2 ⟨j, List.mem_filter.2 ⟨List.mem_range.2 hj, ?_⟩, e⟩
    unfold Lib.keeps
    rw [decide_eq_true_iff]
    rcases Nat.eq_zero_or_pos j with h0 | h0
    · exact .inl h0
    · refine .inr fun hh => hmin (j - 1) (by omega) ⟨by omega, by rw [← hh]; exact e⟩
theorem compact_asc {l : List Int} (h : l.Pairwise (· ≤ ·)) : (Lib.compact l).Pairwise (· < ·) := by
  unfold Lib.compact Lib.compactUpTo
  rw [List.pairwise_map]
  have hr : (List.range l.length).Pairwise (· < ·) := List.pairwise_lt_range
  have hf := hr.filter (Lib.keeps l.toArray)
  refine hf.imp_of_mem fun {i j} hi hj hij => ?_
  have hj2 := List.mem_filter.1 hj
  have hjl := List.mem_range.1 hj2.1
  have hk := hj2.2
  unfold Lib.keeps at hk
  rw [decide_eq_true_iff] at hk
  have hne := hk.resolve_left (by omega)
  rw [getB hjl, getB (show j - 1 < l.length by omega)] at hne
  rw [getB hjl, getB (show i < l.length by omega)]
  have le : ∀ p q : Nat, p ≤ q → ∀ hq : q < l.length, ∀ hp : p < l.length, l[p] ≤ l[q] := fun p q hpq hq hp => by
    rcases Nat.lt_or_eq_of_le hpq with h1 | h1
    · exact List.pairwise_iff_getElem.1 h p q hp hq h1
    · subst h1; exact Int.le_refl _
  have a1 := le i (j - 1) (by omega) (by omega) (by omega)
  have a2 := le (j - 1) j (by omega) (by omega) (by omega)
  omega
theorem sorted_le (l : List Int) : (l.mergeSort leI).Pairwise (· ≤ ·) := by
  have := List.pairwise_mergeSort (le := leI) (fun a b c h1 h2 => by unfold leI at *; simp at *; omega) (fun a b => by unfold leI; simp; omega) l
  exact this.imp fun {a b} h => by unfold leI at h; simpa using h
theorem J_asc (a b : List Int) : (J a b).Pairwise (· < ·) := compact_asc (sorted_le _)
theorem J_mem (a b : List Int) (x : Int) : x ∈ J a b ↔ x ∈ a ∨ x ∈ b := by
  unfold J
  rw [compact_mem, List.mem_mergeSort, List.mem_append]
theorem J_len (a b : List Int) : (J a b).length ≤ a.length + b.length := by
  unfold J Lib.compact Lib.compactUpTo
  rw [List.length_map]
  have h1 := List.length_filter_le (Lib.keeps ((a ++ b).mergeSort leI).toArray) (List.range ((a ++ b).mergeSort leI).length)
  have h2 : ((a ++ b).mergeSort leI).length = a.length + b.length := by rw [List.length_mergeSort, List.length_append]
  rw [List.length_range] at h1
  omega
/-- What the reference has gathered, when it has read i days of the one list and k of the other. -/
structure Mg (a b : List Int) (i k : Nat) (o : List Int) : Prop where
  asc : o.Pairwise (· < ·)
  mem : ∀ x, x ∈ o ↔ x ∈ a.take i ∨ x ∈ b.take k
  lo1 : ∀ x, x ∈ o → ∀ y, y ∈ a.drop i → x < y
  lo2 : ∀ x, x ∈ o → ∀ y, y ∈ b.drop k → x < y
theorem Mg.start (a b : List Int) : Mg a b 0 0 [] := ⟨List.Pairwise.nil, by simp, by simp, by simp⟩
theorem Mg.done {a b o : List Int} (h : Mg a b a.length b.length o) : o = J a b := by
  refine asc_uniq o _ h.asc (J_asc a b) fun x => ?_
  rw [J_mem, h.mem, List.take_length, List.take_length]
theorem Mg.len {a b o : List Int} {i k : Nat} (h : Mg a b i k o) : o.length ≤ (a.take i).length + (b.take k).length := by
  have hs : o = J (a.take i) (b.take k) := asc_uniq o _ h.asc (J_asc _ _) fun x => by rw [J_mem, h.mem]
  rw [hs]; exact J_len _ _
theorem take_step {l : List Int} {i : Nat} (h : i < l.length) : l.take (i + 1) = l.take i ++ [l[i]] := by rw [List.take_add_one, List.getElem?_eq_getElem h]; rfl
theorem drop_step {l : List Int} {i : Nat} (h : i < l.length) : l.drop i = l[i] :: l.drop (i + 1) := List.drop_eq_getElem_cons h
/-- One round. -/
theorem Mg.step {a b o : List Int} {i k i' k' : Nat} {x : Int} (ha : a.Pairwise (· < ·)) (hb : b.Pairwise (· < ·)) (h : Mg a b i k o)
    (hx : (∃ y, a[i]? = some y ∧ y = x) ∨ (∃ y, b[k]? = some y ∧ y = x)) (h1 : ∀ y, a[i]? = some y → x ≤ y) (h2 : ∀ y, b[k]? = some y → x ≤ y)
    (hi : (a[i]? = some x ∧ i' = i + 1) ∨ (a[i]? ≠ some x ∧ i' = i)) (hk : (b[k]? = some x ∧ k' = k + 1) ∨ (b[k]? ≠ some x ∧ k' = k)) : Mg a b i' k' (o ++ [x]) := by
  have low : ∀ l : List Int, ∀ n : Nat, l.Pairwise (· < ·) → (∀ y, l[n]? = some y → x ≤ y) → ∀ y, y ∈ l.drop n → x ≤ y := by
    intro l n hl hn y hy
    have hlt : n < l.length := by
      rcases Nat.lt_or_ge n l.length with h | h
      · exact h
      · rw [List.drop_eq_nil_of_le h] at hy; simp at hy
    have h0 := hn l[n] (List.getElem?_eq_getElem hlt)
    rw [drop_step hlt] at hy
    rcases List.mem_cons.1 hy with rfl | hy
    · exact h0
    · have hp := hl.sublist (List.drop_sublist n l)
      rw [drop_step hlt] at hp
      have := (List.pairwise_cons.1 hp).1 y hy
      omega
  have nxt : ∀ l : List Int, ∀ n n' : Nat, l.Pairwise (· < ·) → (∀ y, l[n]? = some y → x ≤ y) → ((l[n]? = some x ∧ n' = n + 1) ∨ (l[n]? ≠ some x ∧ n' = n)) →
      (∀ y, y ∈ l.drop n' → x < y) ∧ (∀ z, z ∈ l.take n' ↔ z ∈ l.take n ∨ (z = x ∧ l[n]? = some x)) := by
    intro l n n' hl hn hc
    rcases hc with ⟨he, rfl⟩ | ⟨he, rfl⟩
    · obtain ⟨hlt, hv⟩ := List.getElem?_eq_some_iff.1 he
      constructor
      · intro y hy
        have hp := hl.sublist (List.drop_sublist n l)
        rw [drop_step hlt, hv] at hp
        exact (List.pairwise_cons.1 hp).1 y hy
      · intro z
        rw [take_step hlt, hv, List.mem_append, List.mem_singleton]
        simp [he]
    · constructor
      · intro y hy
        have hle := low l n' hl hn y hy
        have hlt : n' < l.length := by
          rcases Nat.lt_or_ge n' l.length with h | h
          · exact h
          · rw [List.drop_eq_nil_of_le h] at hy; simp at hy
        have h0 := hn l[n'] (List.getElem?_eq_getElem hlt)
        have hne : l[n'] ≠ x := fun e => he (by rw [List.getElem?_eq_getElem hlt, e])
        rw [drop_step hlt] at hy
        rcases List.mem_cons.1 hy with rfl | hy
        · omega
        · have hp := hl.sublist (List.drop_sublist n' l)
          rw [drop_step hlt] at hp
          have := (List.pairwise_cons.1 hp).1 y hy
          omega
      · intro z
        simp [he]
  obtain ⟨d1, t1⟩ := nxt a i i' ha h1 hi
  obtain ⟨d2, t2⟩ := nxt b k k' hb h2 hk
  have sub : ∀ l : List Int, ∀ n n' : Nat, (n' = n ∨ n' = n + 1) → ∀ y, y ∈ l.drop n' → y ∈ l.drop n := by
    intro l n n' hn y hy
    rcases hn with rfl | rfl
    · exact hy
    · rw [← List.drop_drop] at hy
      exact List.mem_of_mem_drop hy
  have hi' : i' = i ∨ i' = i + 1 := by rcases hi with ⟨_, h⟩ | ⟨_, h⟩ <;> omega
  have hk' : k' = k ∨ k' = k + 1 := by rcases hk with ⟨_, h⟩ | ⟨_, h⟩ <;> omega
  have gt : ∀ y, y ∈ o → y < x := by
    intro y hy
    rcases hx with ⟨z, hz, rfl⟩ | ⟨z, hz, rfl⟩
    · refine h.lo1 y hy _ ?_
      obtain ⟨hlt, hv⟩ := List.getElem?_eq_some_iff.1 hz
      rw [drop_step hlt, hv]; exact List.mem_cons_self ..
    · refine h.lo2 y hy _ ?_
      obtain ⟨hlt, hv⟩ := List.getElem?_eq_some_iff.1 hz
      rw [drop_step hlt, hv]; exact List.mem_cons_self ..
  refine ⟨?_, ?_, ?_, ?_⟩
  · rw [List.pairwise_append]
    exact ⟨h.asc, List.pairwise_singleton .., fun y hy z hz => by rw [List.mem_singleton.1 hz]; exact gt y hy⟩
  · intro z
    rw [List.mem_append, List.mem_singleton, h.mem, t1, t2]
    have hany : z = x → (a[i]? = some x ∨ b[k]? = some x) := fun _ => by
      rcases hx with ⟨y, hy, rfl⟩ | ⟨y, hy, rfl⟩
      · exact .inl hy
      · exact .inr hy
    constructor
    · rintro ((hz | hz) | hz)
      · exact .inl (.inl hz)
      · exact .inr (.inl hz)
      · rcases hany hz with hh | hh
        · exact .inl (.inr ⟨hz, hh⟩)
        · exact .inr (.inr ⟨hz, hh⟩)
    · rintro ((hz | hz) | (hz | hz))
      · exact .inl (.inl hz)
      · exact .inr hz.1
      · exact .inl (.inr hz)
      · exact .inr hz.1
  · intro y hy z hz
    rcases List.mem_append.1 hy with hy | hy
    · exact h.lo1 y hy z (sub a i i' hi' z hz)
    · rw [List.mem_singleton.1 hy]; exact d1 z hz
  · intro y hy z hz
    rcases List.mem_append.1 hy with hy | hy
    · exact h.lo2 y hy z (sub b k k' hk' z hz)
    · rw [List.mem_singleton.1 hy]; exact d2 z hz
/-- The weekend of both. -/
def orW (a b : Int) : Int := bits BinOp.or IntKind.u8 a b
def joinE (wa wb : Int) (a b : List Int) : Int := if calB wa a = true ∧ calB wb b = true then if orW wa wb = 127 then 6 else if 1000 < (J a b).length then 4 else 0 else 8
def joinW (wa wb : Int) (a b : List Int) : Int := if joinE wa wb a b = 0 then orW wa wb else 0
def joinH (wa wb : Int) (a b : List Int) : List Int := if joinE wa wb a b = 0 then J a b else []
end Z
end Go.Proofs.Ytmbbpimihnojeaa
