/- A region that draws its order, walked in stages: reads that float, then effects that lie in one order, again and again; at the end one effect that waits for all reads. -/
import Derived.Test.YtifafmomkpkgdaaDoorFlo
namespace Go.Proofs.YtifafmomkpkgdaaDoor
open Go.RowKit
section
variable {P : Program} {ops : Array Oper} {md : Region.Mode} {C : World → Prop} {m : Nat} {Q : Act → World → Prop}
def setAll (ks : List Nat) (listed : Array Bool) : Array Bool := ks.foldl (fun l k => l.setIfInBounds k true) listed
def lateB (md : Region.Mode) (ops : Array Oper) (m k : Nat) : Bool := (List.range ops.size).all fun j => decide (j < m) || Region.waitsFor md ops j k
def readsB (md : Region.Mode) (ops : Array Oper) (m : Nat) : List Nat → Array Bool → Bool
  | [], _ => true
  | k :: ks, listed => (Region.ready md ops listed).contains k && Region.free md ops listed k && lateB md ops m k && readsB md ops m ks (listed.setIfInBounds k true)
def effB (md : Region.Mode) (ops : Array Oper) : List Nat → Array Bool → Bool
  | [], _ => true
  | k :: ks, listed => decide (Region.ready md ops listed = [k]) && effB md ops ks (listed.setIfInBounds k true)
def stB (md : Region.Mode) (ops : Array Oper) (m : Nat) (last : List Nat) : List (List Nat × List Nat) → Array Bool → Bool
  | [], listed => effB md ops last listed && (Region.ready md ops (setAll last listed)).isEmpty
  | st :: rest, listed => (opsAt ops st.1).all plainOp && readsB md ops m st.1 listed && effB md ops st.2 (setAll st.1 listed) && stB md ops m last rest (setAll st.2 (setAll st.1 listed))
def lenS (last : List Nat) : List (List Nat × List Nat) → Nat
  | [] => last.length
  | st :: rest => st.1.length + (st.2.length + lenS last rest)
/-- The last effects, of whose world nothing is asked. -/
def fxL (P : Program) (ops : Array Oper) (Q : Act → World → Prop) : List Oper → Act → World → Prop
  | [], a, w => Q a w
  | o :: rest, a, w => if Region.wanted o (yielded ops a.tmps) then fxUpon P (fun u w' => fxL P ops Q rest (a.put o.dst u) w') ((execOp a.eval o).run P w) else fxL P ops Q rest (a.put o.dst undef) w
def fxS (P : Program) (ops : Array Oper) (C : World → Prop) (Q : Act → World → Prop) (last : List Nat) : List (List Nat × List Nat) → Act → World → Prop
  | [], a, w => fxL P ops Q (opsAt ops last) a w
  | st :: rest, a, w => wpQuiet P ops C (fun a' => fxP P ops C (fun a'' w'' => fxS P ops C Q last rest a'' w'') (opsAt ops st.2) a' w) (opsAt ops st.1) a
theorem opsAt_cons {k : Nat} {ks : List Nat} {o : Oper} (h : ops[k]? = some o) : opsAt ops (k :: ks) = o :: opsAt ops ks := by unfold opsAt; rw [List.filterMap_cons, h]
theorem reads_lex (hsel : Region.noSelect ops = true) {w : World} (hC : C w) {n : Nat} {K : Act → Prop} :
    ∀ (ks : List Nat) (listed : Array Bool) (a : Act), (opsAt ops ks).all plainOp = true → readsB md ops m ks listed = true → wpQuiet P ops C K (opsAt ops ks) a →
    (∀ a', K a' → fxAny P md ops C m Q n (setAll ks listed) a' w) → fxAny P md ops C m Q (ks.length + n) listed a w
  | [], listed, a, _, _, h, hK => by
    rw [List.length_nil, Nat.zero_add]
    exact hK a h
  | k :: ks, listed, a, hpl, hB, h, hK => by
    simp only [readsB, Bool.and_eq_true] at hB
    obtain ⟨⟨⟨hr, hf⟩, hlt⟩, hB'⟩ := hB
    have hr' : k ∈ Region.ready md ops listed := by simpa using hr
    obtain ⟨_, o, h0, _⟩ := mem_ready.1 hr'
    rw [opsAt_cons h0] at h hpl
    rw [List.all_cons, Bool.and_eq_true] at hpl
    have hlate : ∀ j oj, m ≤ j → ops[j]? = some oj → ∃ e ∈ oj.after, Region.binds md e = true ∧ e.on = k := fun j oj hj hoj => by
      have hjs : j < ops.size := (Array.getElem?_eq_some_iff.1 hoj).1
      have h9 := List.all_eq_true.1 hlt j (List.mem_range.2 hjs)
      rw [Bool.or_eq_true, decide_eq_true_iff] at h9
      rcases h9 with h9 | h9
      · omega
      · obtain ⟨oj', hoj', e, he, hb, heq⟩ := Region.waitsFor_spec h9
        rw [hoj] at hoj'
        obtain rfl := Option.some.inj hoj'
        exact ⟨e, he, hb, heq⟩
    have hst : ∃ v, SY P ops C o v a ∧ wpQuiet P ops C K (opsAt ops ks) (a.put o.dst v) := by
      unfold wpQuiet at h
      by_cases hw : Region.wanted o (yielded ops a.tmps)
      · rw [if_pos hw] at h
        obtain ⟨v, h1, h2⟩ := h
        refine ⟨v, .inl ⟨hw, fun w0 hw0 => ?_⟩, h2⟩
        have h3 := h1 w0 hw0
        unfold Oper.quietAt at h3
        cases hr : (execOp a.eval o).run P w0 with
        | halt x w' => rw [hr] at h3; exact False.elim h3
        | ok nx w' =>
          rw [hr] at h3
          cases nx
          case value u => obtain ⟨e1, e2⟩ := h3; subst e1 e2; exact .inl rfl
          case skip => obtain ⟨e1, e2⟩ := h3; subst e1; exact .inr ⟨rfl, e2⟩
          case enter f args => exact absurd hr (no_enter hpl.1 _ _ _ _ _)
          all_goals exact False.elim h3
      · rw [if_neg hw] at h
        exact ⟨undef, .inr ⟨by simpa using hw, rfl⟩, h⟩
    obtain ⟨v, hy, hK2⟩ := hst
    have := reads_lex hsel hC ks (listed.setIfInBounds k true) (a.put o.dst v) hpl.2 hB' hK2 hK
    have h9 := fxAny_first h0 (Region.noSelect_spec hsel) hlate (ks.length + n) listed a w hC (Region.free_spec h0 hf) hr' hy this
    rw [show (k :: ks).length + n = ks.length + n + 1 by simp; omega]
    exact h9
theorem eff_lex {n : Nat} {R : Act → World → Prop} : ∀ (ks : List Nat) (listed : Array Bool) (a : Act) (w : World), C w → effB md ops ks listed = true → fxP P ops C R (opsAt ops ks) a w →
    (∀ a' w', C w' → R a' w' → fxAny P md ops C m Q n (setAll ks listed) a' w') → fxAny P md ops C m Q (ks.length + n) listed a w
  | [], listed, a, w, hC, _, h, hK => by
    rw [List.length_nil, Nat.zero_add]
    exact hK a w hC h
  | k :: ks, listed, a, w, hC, hB, h, hK => by
    simp only [effB, Bool.and_eq_true, decide_eq_true_eq] at hB
    rw [show (k :: ks).length + n = ks.length + n + 1 by simp; omega]
    refine ⟨fun h1 => (by rw [hB.1] at h1; cases h1), fun i hi => ?_⟩
    rw [hB.1] at hi
    have hik : i = k := by simpa using hi
    subst hik
    obtain ⟨_, o, ho, _⟩ := mem_ready.1 (show i ∈ Region.ready md ops listed by rw [hB.1]; simp)
    rw [opsAt_cons ho] at h
    unfold fxP at h
    have hw : fxOp P ops i (fun a' w' => C w' ∧ fxP P ops C R (opsAt ops ks) a' w') a w := by unfold fxOp; simp only [ho]; exact h
    exact fxOp_mono (fun a' w' h' => ⟨fun _ => h'.1, eff_lex ks _ a' w' h'.1 hB.2 h'.2 hK⟩) hw
theorem last_lex : ∀ (ks : List Nat) (listed : Array Bool) (a : Act) (w : World), (∀ k ∈ ks, m ≤ k) → effB md ops ks listed = true → (Region.ready md ops (setAll ks listed)).isEmpty = true → fxL P ops Q (opsAt ops ks) a w → fxAny P md ops C m Q ks.length listed a w
  | [], listed, a, w, _, _, he, h => ⟨by simpa [setAll] using he, h⟩
  | k :: ks, listed, a, w, hm, hB, he, h => by
    simp only [effB, Bool.and_eq_true, decide_eq_true_eq] at hB
    refine ⟨fun h1 => (by rw [hB.1] at h1; cases h1), fun i hi => ?_⟩
    rw [hB.1] at hi
    have hik : i = k := by simpa using hi
    subst hik
    obtain ⟨_, o, ho, _⟩ := mem_ready.1 (show i ∈ Region.ready md ops listed by rw [hB.1]; simp)
    rw [opsAt_cons ho] at h
    unfold fxL at h
    have hw : fxOp P ops i (fun a' w' => fxL P ops Q (opsAt ops ks) a' w') a w := by unfold fxOp; simp only [ho]; exact h
    have hmi := hm i (List.mem_cons_self ..)
    exact fxOp_mono (fun a' w' h' => ⟨fun hlt => absurd hlt (by omega), last_lex ks _ a' w' (fun j hj => hm j (List.mem_cons_of_mem _ hj)) hB.2 he h'⟩) hw
theorem st_lex (hsel : Region.noSelect ops = true) (last : List Nat) (hm : ∀ k ∈ last, m ≤ k) : ∀ (st : List (List Nat × List Nat)) (listed : Array Bool) (a : Act) (w : World), C w → stB md ops m last st listed = true → fxS P ops C Q last st a w → fxAny P md ops C m Q (lenS last st) listed a w
  | [], listed, a, w, _, hB, h => by
    simp only [stB, Bool.and_eq_true] at hB
    exact last_lex last listed a w hm hB.1 hB.2 h
  | st :: rest, listed, a, w, hC, hB, h => by
    simp only [stB, Bool.and_eq_true] at hB
    obtain ⟨⟨⟨h1, h2⟩, h3⟩, h4⟩ := hB
    unfold fxS at h
    exact reads_lex hsel hC st.1 listed a h1 h2 h fun a' ha' => eff_lex st.2 _ a' w hC h3 ha' fun a'' w'' hC'' hR => st_lex hsel last hm rest _ a'' w'' hC'' h4 hR
def stagesB (ops : Array Oper) (m : Nat) (last : List Nat) (st : List (List Nat × List Nat)) : Bool :=
  Region.noSelect ops && decide (lenS last st = ops.size) && (last.all fun k => decide (m ≤ k)) && stB .any ops m last st (Array.replicate ops.size false)
/-- THE LAW IN STAGES. -/
theorem wp_region_stages {id : Nat} {Q : Exit → Act → World → Prop} {a : Act} {w : World} {l : List Oper} (m : Nat) (st : List (List Nat × List Nat)) (last : List Nat) (C : World → Prop) (hm : P.follows .mixedOrders = true) (hB : stagesB l.toArray m last st = true) (hC : C w.drew)
    (h : fxS P l.toArray C (fun a' w' => Q .normal a' w') last st a w.drew) : (Code.region id l.toArray true).wp P Q a w := by
  simp only [stagesB, Bool.and_eq_true, decide_eq_true_eq] at hB
  obtain ⟨⟨⟨hsel, hn⟩, hl⟩, hst⟩ := hB
  have H := st_lex (Q := fun a' w' => Q .normal a' w') hsel last (fun k hk => by simpa using List.all_eq_true.1 hl k hk) st _ a w.drew hC hst h
  refine wp_region_any hm ?_
  have := wpAny_of_fx (Q' := Q) (fun _ _ h => h) _ _ _ _ H
  rw [hn] at this
  exact this
theorem fxl_value {o : Oper} {rest : List Oper} {a : Act} {w w' : World} {u : Value} (hg : o.guard = none) (hr : (execOp a.eval o).run P w = .ok (.value u) w') (h : fxL P ops Q rest (a.put o.dst u) w') : fxL P ops Q (o :: rest) a w := by
  unfold fxL
  have hw : Region.wanted o (yielded ops a.tmps) = true := by simp [Region.wanted, hg]
  rw [if_pos hw, hr]
  exact h
theorem fxl_skip {o : Oper} {rest : List Oper} {a : Act} {w w' : World} (hg : o.guard = none) (hr : (execOp a.eval o).run P w = .ok .skip w') (h : fxL P ops Q rest (a.put o.dst undef) w') : fxL P ops Q (o :: rest) a w := by
  unfold fxL
  have hw : Region.wanted o (yielded ops a.tmps) = true := by simp [Region.wanted, hg]
  rw [if_pos hw, hr]
  exact h
theorem fxl_nil {a : Act} {w : World} (h : Q a w) : fxL P ops Q [] a w := h
end
end Go.Proofs.YtifafmomkpkgdaaDoor
