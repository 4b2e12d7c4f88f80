/- Plain: the reference's Update keeps flags of the open claims. -/
import Derived.Test.YtdjghmpaopfboaaZclu
namespace Go.Proofs.Ytdjghmpaopfboaa
namespace Z
/-- Which of the open claims are kept. -/
def kr (op : List Cl) (c : Fl → Nat) : List Bool := (List.range op.length).map fun k => match op[k]? with | some x => decide (cntO (op.take k) x.fl < c x.fl) | none => false
theorem kr_len (op : List Cl) (c : Fl → Nat) : (kr op c).length = op.length := by simp [kr]
theorem kr_at {op : List Cl} {c : Fl → Nat} {k : Nat} {x : Cl} (h : op[k]? = some x) : (kr op c)[k]? = some (decide (cntO (op.take k) x.fl < c x.fl)) := by
  have hlt := (List.getElem?_eq_some_iff.1 h).1
  unfold kr
  rw [List.getElem?_map, List.getElem?_range hlt]
  simp [h]
theorem kr_zero (op : List Cl) : kr op (fun _ => 0) = List.replicate op.length false := by
  apply List.ext_getElem (by simp [kr])
  intro j h1 h2
  have hj : j < op.length := by rw [kr_len] at h1; exact h1
  have := kr_at (c := fun _ => 0) (List.getElem?_eq_getElem hj)
  rw [List.getElem?_eq_getElem h1] at this
  rw [Option.some.inj this]
  simp
/-- The least place from j on at which P holds, -1 if there is none. -/
def At (P : Nat → Bool) (n j : Nat) (v : Int) : Prop := (v = -1 ∧ ∀ i, j ≤ i → i < n → P i = false) ∨ (∃ i : Nat, v = i ∧ j ≤ i ∧ i < n ∧ P i = true ∧ ∀ i', j ≤ i' → i' < i → P i' = false)
theorem At.start (P : Nat → Bool) (n : Nat) : At P n n (-1) := .inl ⟨rfl, fun i h1 h2 => by omega⟩
theorem At.no {P : Nat → Bool} {n j : Nat} {v : Int} (h : At P n (j + 1) v) (hp : P j = false) : At P n j v := by
  rcases h with ⟨h1, h2⟩ | ⟨i, h1, h2, h3, h4, h5⟩
  · exact .inl ⟨h1, fun i hi hn => by
      rcases Nat.eq_or_lt_of_le hi with rfl | hi
      · exact hp
      · exact h2 i hi hn⟩
  · exact .inr ⟨i, h1, by omega, h3, h4, fun i' hi hn => by
      rcases Nat.eq_or_lt_of_le hi with rfl | hi
      · exact hp
      · exact h5 i' hi hn⟩
theorem At.yes {P : Nat → Bool} {n j : Nat} (hj : j < n) (hp : P j = true) : At P n j (j : Int) := .inr ⟨j, rfl, Nat.le_refl _, hj, hp, fun i h1 h2 => by omega⟩
/-- What the reference looks for. -/
def wants (op : List Cl) (c : Fl → Nat) (f : Fl) (i : Nat) : Bool := match op[i]? with | some x => !decide (cntO (op.take i) x.fl < c x.fl) && decide (x.fl = f) | none => false
theorem wants_iff {op : List Cl} {c : Fl → Nat} {f : Fl} {i : Nat} : wants op c f i = true ↔ ∃ x, op[i]? = some x ∧ x.fl = f ∧ c f ≤ cntO (op.take i) f := by
  unfold wants
  constructor
  · intro h
    cases hx : op[i]? with
    | none => rw [hx] at h; cases h
    | some x =>
      rw [hx] at h
      simp only [Bool.and_eq_true, Bool.not_eq_true', decide_eq_false_iff_not, decide_eq_true_iff] at h
      obtain ⟨h1, rfl⟩ := h
      exact ⟨x, rfl, rfl, by omega⟩
  · rintro ⟨x, hx, rfl, h⟩
    rw [hx]
    simp only [Bool.and_eq_true, Bool.not_eq_true', decide_eq_false_iff_not, decide_eq_true_iff]
    exact ⟨by omega, trivial⟩
theorem cntO_mono (op : List Cl) (f : Fl) {i j : Nat} (h : i ≤ j) : cntO (op.take i) f ≤ cntO (op.take j) f := by
  unfold cntO
  have e : op.take j = op.take i ++ (op.take j).drop i := by
    have := List.take_append_drop i (op.take j)
    rw [List.take_take, Nat.min_eq_left h] at this
    exact this.symm
  rw [e, List.filter_append, List.length_append]
  omega
theorem rank_step {op : List Cl} {i j : Nat} {x : Cl} (h : op[i]? = some x) (hij : i < j) : cntO (op.take i) x.fl < cntO (op.take j) x.fl := by
  have h2 : (op.take j)[i]? = some x := by rw [List.getElem?_take_of_lt hij]; exact h
  have := rank_lt h2
  rwa [List.take_take, Nat.min_eq_left (by omega)] at this
theorem at_none {op : List Cl} {c : Fl → Nat} {f : Fl} {v : Int} (h : At (wants op c f) op.length 0 v) (hv : v = -1) : cntO op f ≤ c f := by
  rcases Nat.lt_or_ge (c f) (cntO op f) with hlt | hge
  · obtain ⟨y, hy⟩ : ∃ y, (op.filter fun x => decide (x.fl = f))[c f]? = some y := ⟨_, List.getElem?_eq_getElem hlt⟩
    obtain ⟨i, h1, h2, h3⟩ := (filter_at op (c f) y).1 hy
    have h2 := of_decide_eq_true h2
    have hw : wants op c f i = true := wants_iff.2 ⟨y, h1, h2, by unfold cntO; omega⟩
    have hi := (List.getElem?_eq_some_iff.1 h1).1
    rcases h with ⟨_, h5⟩ | ⟨i', h5, _⟩
    · rw [h5 i (Nat.zero_le _) hi] at hw
      cases hw
    · omega
  · exact hge
theorem at_some {op : List Cl} {c c' : Fl → Nat} {f : Fl} {v : Int} (hc : ∀ g, c' g = c g + (if f = g then 1 else 0)) (h : At (wants op c f) op.length 0 v) (hv : v ≠ -1) :
    ∃ i : Nat, v = i ∧ i < op.length ∧ ¬ cntO op f ≤ c f ∧ kr op c' = (kr op c).set i true := by
  rcases h with ⟨h1, _⟩ | ⟨i, rfl, _, hi, hw, hmin⟩
  · exact absurd h1 hv
  · obtain ⟨x, hx, hxf, hge⟩ := wants_iff.1 hw
    subst hxf
    have hr : cntO (op.take i) x.fl = c x.fl := by
      rcases Nat.eq_or_lt_of_le hge with h | hlt
      · exact h.symm
      · exfalso
        have hlt2 : c x.fl < cntO op x.fl := Nat.lt_of_lt_of_le hlt (by have := rank_lt hx; omega)
        obtain ⟨y, hy⟩ : ∃ y, (op.filter fun z => decide (z.fl = x.fl))[c x.fl]? = some y := ⟨_, List.getElem?_eq_getElem hlt2⟩
        obtain ⟨i0, h1, h2, h3⟩ := (filter_at op (c x.fl) y).1 hy
        have h2 := of_decide_eq_true h2
        have h3 : cntO (op.take i0) x.fl = c x.fl := h3
        rcases Nat.lt_or_ge i0 i with h4 | h4
        · have h5 := hmin i0 (Nat.zero_le _) h4
          rw [wants_iff.2 ⟨y, h1, h2, by omega⟩] at h5
          cases h5
        · have := cntO_mono op x.fl h4
          omega
    refine ⟨i, rfl, hi, by have := rank_lt hx; omega, ?_⟩
    apply List.ext_getElem (by rw [List.length_set, kr_len, kr_len])
    intro j h1 h2
    have hj : j < op.length := by rw [kr_len] at h1; exact h1
    have e1 := kr_at (c := c') (List.getElem?_eq_getElem hj)
    have e2 := kr_at (c := c) (List.getElem?_eq_getElem hj)
    rw [List.getElem?_eq_getElem h1] at e1
    rw [List.getElem?_eq_getElem (by rw [kr_len]; exact hj)] at e2
    rw [Option.some.inj e1, List.getElem_set, Option.some.inj e2, hc]
    by_cases hij : i = j
    · subst hij
      obtain rfl : op[i] = x := by
        have := List.getElem?_eq_getElem hj
        rw [hx] at this
        exact (Option.some.inj this).symm
      rw [if_pos rfl, if_pos rfl, decide_eq_true (by omega)]
    · rw [if_neg hij]
      by_cases hf : x.fl = op[j].fl
      · rw [if_pos hf]
        have hne : cntO (op.take j) op[j].fl ≠ c op[j].fl := by
          rw [← hf, ← hr]
          rcases Nat.lt_or_ge i j with h | h
          · have := rank_step hx h
            omega
          · have := rank_step (List.getElem?_eq_getElem hj) (show j < i by omega)
            rw [← hf] at this
            omega
        rw [decide_eq_decide]
        omega
      · rw [if_neg hf, Nat.add_zero]
theorem kr_full {op : List Cl} {c c' : Fl → Nat} {f : Fl} (hc : ∀ g, c' g = c g + (if f = g then 1 else 0)) (hq : cntO op f ≤ c f) : kr op c' = kr op c := by
  apply List.ext_getElem (by rw [kr_len, kr_len])
  intro j h1 h2
  have hj : j < op.length := by rw [kr_len] at h1; exact h1
  have e1 := kr_at (c := c') (List.getElem?_eq_getElem hj)
  have e2 := kr_at (c := c) (List.getElem?_eq_getElem hj)
  rw [List.getElem?_eq_getElem h1] at e1
  rw [List.getElem?_eq_getElem h2] at e2
  rw [Option.some.inj e1, Option.some.inj e2, hc, decide_eq_decide]
  by_cases hf : f = op[j].fl
  · have := rank_lt (List.getElem?_eq_getElem hj)
    rw [← hf] at this ⊢
    rw [if_pos rfl]
    omega
  · rw [if_neg hf, Nat.add_zero]
end Z
end Go.Proofs.Ytdjghmpaopfboaa
