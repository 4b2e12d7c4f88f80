/- A region that draws its order, whose effects lie in one order and whose reads float: the reads first, in the text's order; then the effects. -/
import Derived.Test.YtifafmomkpkgdaaDoorAbt
namespace Go.Proofs.YtifafmomkpkgdaaDoor
open Go.RowKit
section
variable {P : Program} {ops : Array Oper} {md : Region.Mode} {C : World → Prop}

/-- Operations that never enter a function. -/
def plainOp (o : Oper) : Bool :=
  match o.op with
  | .move _ | .assign _ | .load _ _ | .fieldAddr _ _ _ | .field _ _ _ | .indexAddr _ _ _ | .index _ _ _ | .lookup _ _ _ _ | .binOp _ _ _ _ _ | .unOp _ _ _ | .slice _ _ _ _ _ | .extract _ _ | .build _ _ | .nilCheck _ => true
  | .call c => match c.callee with | .builtin .len => true | _ => false
  | _ => false
theorem andThen_value {w : World} (s : Result Value) (f : FuncId) (args : Array Value) : (s.andThen fun x w' => Result.ok (Next.value x) w') ≠ .ok (.enter f args) w := by
  cases s <;> simp [Result.andThen]
theorem run_v {w : World} (s : Sem Value) : (do pure (Next.value (← s)) : Sem Next).run P w = (s.run P w).andThen fun x w' => .ok (.value x) w' := by
  simp
theorem no_enter {o : Oper} (h : plainOp o = true) (ρ : Operand → Value) (w w' : World) (f : FuncId) (args : Array Value) : (execOp ρ o).run P w ≠ .ok (.enter f args) w' := by
  unfold plainOp at h
  unfold execOp
  split at h
  all_goals try (rename_i he; simp only [he])
  all_goals try (intro e; simp at e; done)
  all_goals try (rw [run_v]; exact andThen_value _ _ _)
  · intro e
    split at e
    · simp [runtimePanic] at e
    · simp [runtimePanic] at e
    · simp [runtimePanic] at e
    · split at e
      · simp [runtimePanic] at e
      · rw [Sem.run_bind] at e
        generalize (Sem.run P program w) = r1 at e
        cases r1 with
        | halt x w1 => simp [Result.andThen] at e
        | ok a w1 =>
          simp only [Result.andThen] at e
          rw [Sem.run_bind] at e
          generalize (Sem.run P (nilAhead _ _ _ _) w1) = r2 at e
          cases r2 with
          | halt x w2 => simp [Result.andThen] at e
          | ok b w2 =>
            simp only [Result.andThen] at e
            split at e
            · rw [Sem.run_bind] at e
              generalize (Sem.run P (unsupported _) w2) = r3 at e
              cases r3 with
              | halt x w3 => simp [Result.andThen] at e
              | ok u w3 => simp [Result.andThen] at e
            · simp at e
      · simp at e
    · simp at e
  · rename_i c
    split at h
    · rename_i hc
      have : resolve ρ c o.type = pure { target := .builtin .len c.argTypes o.type (c.args.map fun | .const _ => true | _ => false), args := c.args.map ρ } := by
        unfold resolve
        rw [hc]
        rfl
      rw [this]
      simp only [pure_bind]
      have hb : ∀ consts, Sem.run P (builtin .len c.argTypes o.type consts (c.args.map ρ)) w ≠ .ok (.enter f args) w' := by
        intro consts
        unfold builtin
        rw [run_v]
        exact andThen_value _ _ _
      exact hb (c.args.map fun | .const _ => true | _ => false)
    · cases h
  · cases h

/-- What is asked of an effect: it goes through without a panic, and then K of what it yields. -/
def fxUpon (P : Program) (K : Value → World → Prop) : Result Next → Prop
  | .ok (.value u) w' => K u w'
  | .ok .skip w' => K undef w'
  | .ok (.enter f args) w' => Calls P f args w' (fun e w'' => ∃ u, e = .returned u ∧ K u w'')
  | _ => False
def fxOp (P : Program) (ops : Array Oper) (i : Nat) (K : Act → World → Prop) (a : Act) (w : World) : Prop :=
  match ops[i]? with
  | none => K a w
  | some o => if Region.wanted o (yielded ops a.tmps) then fxUpon P (fun u w' => K (a.put o.dst u) w') ((execOp a.eval o).run P w) else K (a.put o.dst undef) w
/-- Any order; behind each of the first m operations the world is of the class. -/
def fxAny (P : Program) (md : Region.Mode) (ops : Array Oper) (C : World → Prop) (m : Nat) (Q : Act → World → Prop) : Nat → Array Bool → Act → World → Prop
  | 0, listed, a, w => Region.ready md ops listed = [] ∧ Q a w
  | fuel + 1, listed, a, w => (Region.ready md ops listed = [] → Q a w) ∧
    ∀ i ∈ Region.ready md ops listed, fxOp P ops i (fun a' w' => (i < m → C w') ∧ fxAny P md ops C m Q fuel (listed.setIfInBounds i true) a' w') a w
theorem fxUpon_mono {K K' : Value → World → Prop} (h : ∀ u w, K u w → K' u w) {r : Result Next} (hr : fxUpon P K r) : fxUpon P K' r := by
  cases r with
  | halt x w => exact hr.elim
  | ok n w =>
    cases n
    case value u => exact h _ _ hr
    case skip => exact h _ _ hr
    case enter f args => exact Calls.mono hr fun e w' ⟨u, he, hk⟩ => ⟨u, he, h _ _ hk⟩
    all_goals exact False.elim hr
theorem fxOp_mono {i : Nat} {K K' : Act → World → Prop} (h : ∀ a w, K a w → K' a w) {a : Act} {w : World} (hr : fxOp P ops i K a w) : fxOp P ops i K' a w := by
  unfold fxOp at *
  split
  · rename_i ho; simp only [ho] at hr; exact h _ _ hr
  · rename_i o ho
    simp only [ho] at hr
    split
    · rename_i hw; simp only [hw, if_true] at hr; exact fxUpon_mono (fun u w => h _ _) hr
    · rename_i hw; simp only [hw] at hr; exact h _ _ hr
theorem wpOp_of_fx {i : Nat} {K : Act → World → Prop} {Q' : Exit → Act → World → Prop} {a : Act} {w : World} (hr : fxOp P ops i K a w) : wpOp P ops Q' i K a w := by
  unfold fxOp at hr
  unfold wpOp
  split
  · rename_i ho; simp only [ho] at hr; exact hr
  · rename_i o ho
    simp only [ho] at hr
    split
    · rename_i hw
      simp only [hw, if_true] at hr
      refine .inl ?_
      unfold Oper.wp
      generalize (execOp a.eval o).run P w = r at *
      cases r with
      | halt x w => exact False.elim hr
      | ok n w =>
        cases n
        case value u => exact hr
        case skip => exact hr
        case enter f args => exact Calls.mono hr fun e w' ⟨u, he, hk⟩ => by subst he; exact hk
        all_goals exact False.elim hr
    · rename_i hw; simp only [hw] at hr; exact hr
theorem wpAny_of_fx {m : Nat} {Q : Act → World → Prop} {Q' : Exit → Act → World → Prop} (hQ : ∀ a w, Q a w → Q' .normal a w) : ∀ (fuel : Nat) (listed : Array Bool) (a : Act) (w : World),
    fxAny P md ops C m Q fuel listed a w → wpAny P md ops Q' fuel listed a w
  | 0, _, _, _, h => ⟨h.1, hQ _ _ h.2⟩
  | fuel + 1, _, _, _, h => ⟨fun h0 => hQ _ _ (h.1 h0), fun i hi => wpOp_mono (fun a' w' h' => wpAny_of_fx hQ fuel _ a' w' h'.2) (wpOp_of_fx (h.2 i hi))⟩
/-- In every world of the class the operation leaves v and the world as it is. -/
def SY (P : Program) (ops : Array Oper) (C : World → Prop) (o : Oper) (v : Value) (a : Act) : Prop :=
  (Region.wanted o (yielded ops a.tmps) = true ∧ ∀ w, C w → (execOp a.eval o).run P w = .ok (.value v) w ∨ ((execOp a.eval o).run P w = .ok .skip w ∧ v = undef)) ∨
  (Region.wanted o (yielded ops a.tmps) = false ∧ v = undef)
theorem SY.fx {i : Nat} {o : Oper} {v : Value} {a : Act} {w : World} (hi : ops[i]? = some o) (hy : SY P ops C o v a) (hC : C w) {K : Act → World → Prop} (h : K (a.put o.dst v) w) : fxOp P ops i K a w := by
  unfold fxOp
  simp only [hi]
  rcases hy with ⟨hw, hv⟩ | ⟨hw, rfl⟩
  · rcases hv w hC with hr | ⟨hr, rfl⟩
    · simp only [hw, if_true, hr, fxUpon]; exact h
    · simp only [hw, if_true, hr, fxUpon]; exact h
  · simp only [hw]; exact h
theorem fxOp_put {j : Nat} {oi oj : Oper} {v : Value} (hj : ops[j]? = some oj) (hap : oi.apart ops oj = true) (hsi : ∀ cs b, oi.op ≠ .select cs b) (hsj : ∀ cs b, oj.op ≠ .select cs b)
    {K : Act → World → Prop} {a : Act} {w : World} (hy : SY P ops C oi v a) (h : fxOp P ops j K (a.put oi.dst v) w) : fxOp P ops j (fun a' w' => SY P ops C oi v a' ∧ K (a'.put oi.dst v) w') a w := by
  obtain ⟨h1, h2, h3⟩ := Oper.apart_spec hap
  have keep : ∀ u, SY P ops C oi v (a.put oj.dst u) := fun u => by
    unfold SY
    rw [execOp_put oi hsi a oj.dst u h3, wanted_put oi a oj.dst u h3]
    exact hy
  unfold fxOp at *
  simp only [hj] at *
  rw [wanted_put oj a oi.dst v h1] at h
  split
  · rename_i hw
    simp only [hw, if_true] at h
    rw [execOp_put oj hsj a oi.dst v h1] at h
    refine fxUpon_mono (fun u w' hk => ⟨keep u, ?_⟩) h
    rw [← Act.put_comm a v u h2]; exact hk
  · rename_i hw
    simp only [hw] at h
    exact ⟨keep _, by rw [← Act.put_comm a v undef h2]; exact h⟩
/-- A read that is ready may be done first. -/
theorem fxAny_first {m : Nat} {Q : Act → World → Prop} {i : Nat} {oi : Oper} {v : Value} (hi : ops[i]? = some oi) (hsel : ∀ (j : Nat) (o : Oper) cs b, ops[j]? = some o → o.op ≠ .select cs b)
    (hlate : ∀ j oj, m ≤ j → ops[j]? = some oj → ∃ e ∈ oj.after, Region.binds md e = true ∧ e.on = i) :
    ∀ (fuel : Nat) (listed : Array Bool) (a : Act) (w : World), C w →
      (∀ j oj, ops[j]? = some oj → j ≠ i → listed.getD j true = false → (∀ e ∈ oj.after, Region.binds md e = true → e.on ≠ i) → oi.apart ops oj = true) →
      i ∈ Region.ready md ops listed → SY P ops C oi v a →
      fxAny P md ops C m Q fuel (listed.setIfInBounds i true) (a.put oi.dst v) w → fxAny P md ops C m Q (fuel + 1) listed a w := by
  intro fuel
  induction fuel with
  | zero =>
    intro listed a w hC _ hr hy H
    refine ⟨fun h => (by rw [h] at hr; cases hr), fun j hj => ?_⟩
    by_cases hji : j = i
    · subst hji; exact hy.fx hi hC ⟨fun _ => hC, H⟩
    · have := ready_mono hj hji
      rw [H.1] at this
      cases this
  | succ fuel ih =>
    intro listed a w hC hfree hr hy H
    refine ⟨fun h => (by rw [h] at hr; cases hr), fun j hj => ?_⟩
    by_cases hji : j = i
    · subst hji; exact hy.fx hi hC ⟨fun _ => hC, H⟩
    · have h1 := H.2 j (ready_mono hj hji)
      obtain ⟨hjun, oj, hoj, hall⟩ := mem_ready.1 hj
      have hnot : ∀ e ∈ oj.after, Region.binds md e = true → e.on ≠ i := fun e he hb heq => by
        have h1 := hall e he hb
        have h0 := (mem_ready.1 hr).1
        rw [heq] at h1
        rcases Nat.lt_or_ge i listed.size with h' | h'
        · simp [h'] at h0 h1; rw [h0] at h1; cases h1
        · simp [Array.getElem?_eq_none h'] at h1
      have hjm : j < m := by
        rcases Nat.lt_or_ge j m with h' | h'
        · exact h'
        · obtain ⟨e, he, hb, heq⟩ := hlate j oj h' hoj
          exact absurd heq (hnot e he hb)
      have h2 := fxOp_put hoj (hfree j oj hoj hji hjun hnot) (fun cs b => hsel i oi cs b hi) (fun cs b => hsel j oj cs b hoj) hy h1
      have hfree' : ∀ k ok, ops[k]? = some ok → k ≠ i → (listed.setIfInBounds j true).getD k true = false →
          (∀ e ∈ ok.after, Region.binds md e = true → e.on ≠ i) → oi.apart ops ok = true := fun k ok hk hki hun hno => by
        refine hfree k ok hk hki ?_ hno
        by_cases hjk : j = k
        · subst hjk; exact hjun
        · rw [getD_set_ne true hjk] at hun; exact hun
      refine fxOp_mono (fun a' w' h3 => ⟨fun _ => h3.2.1 hjm, ih (listed.setIfInBounds j true) a' w' (h3.2.1 hjm) hfree' (ready_mono hr (Ne.symm hji)) h3.1 ?_⟩) h2
      rw [Array.setIfInBounds_comm _ _ hji]
      exact h3.2.2
/-- The effects, one behind the other, from number k on. -/
def fxList (P : Program) (ops : Array Oper) (C : World → Prop) (m : Nat) (Q : Act → World → Prop) : List Oper → Nat → Act → World → Prop
  | [], _, a, w => Q a w
  | o :: rest, k, a, w => if Region.wanted o (yielded ops a.tmps) then fxUpon P (fun u w' => (k < m → C w') ∧ fxList P ops C m Q rest (k + 1) (a.put o.dst u) w') ((execOp a.eval o).run P w) else (k < m → C w) ∧ fxList P ops C m Q rest (k + 1) (a.put o.dst undef) w
theorem fxAny_of_seq {m : Nat} {Q : Act → World → Prop} : ∀ (l : List Oper) (k : Nat) (listed : Array Bool) (a : Act) (w : World), (∀ j, l[j]? = ops[k + j]?) →
    Region.seqB md ops l.length k listed = true → fxList P ops C m Q l k a w → fxAny P md ops C m Q l.length listed a w
  | [], _, _, _, _, _, hB, h => ⟨by simpa [Region.seqB] using hB, h⟩
  | o :: l, k, listed, a, w, hl, hB, h => by
    have h0 : ops[k]? = some o := by simpa using (hl 0).symm
    simp only [List.length_cons, Region.seqB, Bool.and_eq_true, decide_eq_true_eq] at hB
    refine ⟨fun h1 => (by rw [hB.1] at h1; cases h1), fun i hi => ?_⟩
    rw [hB.1] at hi
    have hik : i = k := by simpa using hi
    subst hik
    have hw : fxOp P ops i (fun a' w' => (i < m → C w') ∧ fxList P ops C m Q l (i + 1) a' w') a w := by unfold fxOp; simp only [h0]; exact h
    exact fxOp_mono (fun a' w' h' => ⟨h'.1, fxAny_of_seq l (i + 1) _ a' w' (fun j => by have := hl (j + 1); simpa [Nat.add_assoc, Nat.add_comm 1 j] using this) hB.2 h'.2⟩) hw
/-- The check of a region: n reads first, then effects in one order; what stands from m on waits for every read. -/
def calmHead (md : Region.Mode) (ops : Array Oper) (g m : Nat) : Nat → Nat → Array Bool → Bool
  | 0, k, listed => Region.seqB md ops g k listed
  | f + 1, k, listed => (Region.ready md ops listed).contains k && Region.free md ops listed k && ((List.range ops.size).all fun j => decide (j < m) || Region.waitsFor md ops j k) && calmHead md ops g m f (k + 1) (listed.setIfInBounds k true)
def calmB (md : Region.Mode) (ops : Array Oper) (n m : Nat) : Bool :=
  Region.noSelect ops && decide (n < ops.size) && ((ops.toList.take n).all plainOp) && calmHead md ops (ops.size - n) m n 0 (Array.replicate ops.size false)
theorem fx_lex {n g m : Nat} {Q : Act → World → Prop} {w : World} (hC : C w) (hsel : Region.noSelect ops = true) (tail : List Oper) (htl : tail.length = g) (ht : ∀ j, tail[j]? = ops[n + j]?) :
    ∀ (l : List Oper) (k : Nat) (listed : Array Bool) (a : Act), (∀ j, j < l.length → l[j]? = ops[k + j]?) → k + l.length = n → l.all plainOp = true →
    calmHead md ops g m l.length k listed = true → wpQuiet P ops C (fun a' => fxList P ops C m Q tail n a' w) l a →
    fxAny P md ops C m Q (l.length + g) listed a w
  | [], k, listed, a, _, hk, _, hB, h => by
    have : k = n := by simpa using hk
    subst this
    subst htl
    simp only [List.length_nil, Nat.zero_add]
    exact fxAny_of_seq tail k listed a w ht (by simpa [calmHead] using hB) h
  | o :: l, k, listed, a, hl, hk, hpl, hB, h => by
    have h0 : ops[k]? = some o := by simpa using (hl 0 (by simp)).symm
    simp only [List.length_cons, calmHead, Bool.and_eq_true] at hB
    obtain ⟨⟨⟨hr, hf⟩, hlt⟩, hB'⟩ := hB
    rw [List.all_cons, Bool.and_eq_true] at hpl
    have hr' : k ∈ Region.ready md ops listed := by simpa using hr
    have hlate : ∀ j oj, m ≤ j → ops[j]? = some oj → ∃ e ∈ oj.after, Region.binds md e = true ∧ e.on = k := fun j oj hj hoj => by
      have hjs : j < ops.size := (Array.getElem?_eq_some_iff.1 hoj).1
      have h9 := List.all_eq_true.1 hlt j (List.mem_range.2 hjs)
      rw [Bool.or_eq_true, decide_eq_true_iff] at h9
      rcases h9 with h9 | h9
      · omega
      · obtain ⟨oj', hoj', e, he, hb, heq⟩ := Region.waitsFor_spec h9
        rw [hoj] at hoj'
        obtain rfl := Option.some.inj hoj'
        exact ⟨e, he, hb, heq⟩
    have hst : ∃ v, SY P ops C o v a ∧ wpQuiet P ops C (fun a' => fxList P ops C m Q tail n a' w) l (a.put o.dst v) := by
      unfold wpQuiet at h
      by_cases hw : Region.wanted o (yielded ops a.tmps)
      · rw [if_pos hw] at h
        obtain ⟨v, h1, h2⟩ := h
        refine ⟨v, .inl ⟨hw, fun w0 hw0 => ?_⟩, h2⟩
        have h3 := h1 w0 hw0
        unfold Oper.quietAt at h3
        cases hr : (execOp a.eval o).run P w0 with
        | halt x w' => rw [hr] at h3; exact False.elim h3
        | ok nx w' =>
          rw [hr] at h3
          cases nx
          case value u => obtain ⟨e1, e2⟩ := h3; subst e1 e2; exact .inl rfl
          case skip => obtain ⟨e1, e2⟩ := h3; subst e1; exact .inr ⟨rfl, e2⟩
          case enter f args => exact absurd hr (no_enter hpl.1 _ _ _ _ _)
          all_goals exact False.elim h3
      · rw [if_neg hw] at h
        exact ⟨undef, .inr ⟨by simpa using hw, rfl⟩, h⟩
    obtain ⟨v, hy, hK⟩ := hst
    have := fx_lex hC hsel tail htl ht l (k + 1) (listed.setIfInBounds k true) (a.put o.dst v) (fun j hj => by have := hl (j + 1) (by simp; omega); simpa [Nat.add_assoc, Nat.add_comm 1 j] using this) (by simp only [List.length_cons] at hk; omega) hpl.2 hB' hK
    have h9 := fxAny_first h0 (Region.noSelect_spec hsel) hlate (l.length + g) listed a w hC (Region.free_spec h0 hf) hr' hy this
    rw [show (o :: l).length + g = l.length + g + 1 by simp; omega]
    exact h9
/-- THE LAW: the reads walked once in the text's order, in the class C; then the effects in their one order. -/
theorem wp_region_calm {id : Nat} {Q : Exit → Act → World → Prop} {a : Act} {w : World} {l : List Oper} (n m : Nat) (C : World → Prop) (hm : P.follows .mixedOrders = true) (hB : calmB .any l.toArray n m = true) (hC : C w.drew)
    (h : wpQuiet P l.toArray C (fun a' => fxList P l.toArray C m (fun a' w' => Q .normal a' w') (l.drop n) n a' w.drew) (l.take n) a) : (Code.region id l.toArray true).wp P Q a w := by
  simp only [calmB, Bool.and_eq_true, decide_eq_true_eq] at hB
  obtain ⟨⟨⟨hsel, hn⟩, hpl⟩, hlex⟩ := hB
  have hn' : n < l.length := by simpa using hn
  have htl : (l.take n).length = n := by simp; omega
  have H := fx_lex (md := .any) (g := l.toArray.size - n) (n := n) (m := m) (Q := fun a' w' => Q .normal a' w') hC hsel (l.drop n) (by simp) (fun j => by simp [List.getElem?_drop]) (l.take n) 0 _ a (fun j hj => by
    have hj' : j < n := by rw [htl] at hj; exact hj
    simp [hj']) (by rw [htl]; omega) (by simpa using hpl) (by rw [htl]; exact hlex) h
  refine wp_region_any hm ?_
  have := wpAny_of_fx (Q' := Q) (fun _ _ h => h) _ _ _ _ H
  rw [htl, show n + (l.toArray.size - n) = l.toArray.size by omega] at this
  exact this
theorem fx_value {m k : Nat} {Q : Act → World → Prop} {o : Oper} {rest : List Oper} {a : Act} {w w' : World} {u : Value} (hg : o.guard = none) (hr : (execOp a.eval o).run P w = .ok (.value u) w') (hC : k < m → C w')
    (h : fxList P ops C m Q rest (k + 1) (a.put o.dst u) w') : fxList P ops C m Q (o :: rest) k a w := by
  unfold fxList
  have hw : Region.wanted o (yielded ops a.tmps) = true := by simp [Region.wanted, hg]
  rw [if_pos hw, hr]
  exact ⟨hC, h⟩
theorem fx_skip {m k : Nat} {Q : Act → World → Prop} {o : Oper} {rest : List Oper} {a : Act} {w w' : World} (hg : o.guard = none) (hr : (execOp a.eval o).run P w = .ok .skip w') (hC : k < m → C w')
    (h : fxList P ops C m Q rest (k + 1) (a.put o.dst undef) w') : fxList P ops C m Q (o :: rest) k a w := by
  unfold fxList
  have hw : Region.wanted o (yielded ops a.tmps) = true := by simp [Region.wanted, hg]
  rw [if_pos hw, hr]
  exact ⟨hC, h⟩
theorem fx_enter {m k : Nat} {Q : Act → World → Prop} {o : Oper} {rest : List Oper} {a : Act} {w w' : World} {f : FuncId} {args : Array Value} (hg : o.guard = none) (hr : (execOp a.eval o).run P w = .ok (.enter f args) w')
    (h : Calls P f args w' fun e w'' => ∃ u, e = .returned u ∧ (k < m → C w'') ∧ fxList P ops C m Q rest (k + 1) (a.put o.dst u) w'') : fxList P ops C m Q (o :: rest) k a w := by
  unfold fxList
  have hw : Region.wanted o (yielded ops a.tmps) = true := by simp [Region.wanted, hg]
  rw [if_pos hw, hr]
  exact h
theorem fx_nil {m k : Nat} {Q : Act → World → Prop} {a : Act} {w : World} (h : Q a w) : fxList P ops C m Q [] k a w := h
end
/-- The worlds of which F holds. -/
def Cl (F : World → Prop) : Type := {w' : World // F w'}
theorem Cl.some_ {F : World → Prop} {w : World} (h : F w) : Nonempty (Cl F) := ⟨⟨w, h⟩⟩
end Go.Proofs.YtifafmomkpkgdaaDoor
