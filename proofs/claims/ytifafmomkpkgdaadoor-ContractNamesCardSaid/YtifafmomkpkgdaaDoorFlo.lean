/- A region that draws its order, whose reads float about effects that lie in one order of data: the reads first, then the effects, each given by its numbers. -/
import Derived.Test.YtifafmomkpkgdaaDoorCmu
import Derived.OrdersIn
import Derived.RegionIn
import Derived.TacticsIn
namespace Go.Proofs.YtifafmomkpkgdaaDoor
open Go.RowKit
section
variable {P : Program} {ops : Array Oper} {md : Region.Mode} {C : World → Prop}
/-- The operations of these numbers. -/
def opsAt (ops : Array Oper) (ks : List Nat) : List Oper := ks.filterMap (ops[·]?)
/-- These effects, one behind the other; behind each the world is of the class. -/
def fxP (P : Program) (ops : Array Oper) (C : World → Prop) (Q : Act → World → Prop) : List Oper → Act → World → Prop
  | [], a, w => Q a w
  | o :: rest, a, w => if Region.wanted o (yielded ops a.tmps) then fxUpon P (fun u w' => C w' ∧ fxP P ops C Q rest (a.put o.dst u) w') ((execOp a.eval o).run P w) else C w ∧ fxP P ops C Q rest (a.put o.dst undef) w
def permB (md : Region.Mode) (ops : Array Oper) : List Nat → Array Bool → Bool
  | [], listed => (Region.ready md ops listed).isEmpty
  | k :: ks, listed => decide (Region.ready md ops listed = [k]) && permB md ops ks (listed.setIfInBounds k true)
theorem fxAny_of_perm {m : Nat} {Q : Act → World → Prop} : ∀ (ks : List Nat) (listed : Array Bool) (a : Act) (w : World), permB md ops ks listed = true → fxP P ops C Q (opsAt ops ks) a w → fxAny P md ops C m Q ks.length listed a w
  | [], listed, a, w, hB, h => ⟨by simpa [permB] using hB, h⟩
  | k :: ks, listed, a, w, hB, h => by
    simp only [permB, Bool.and_eq_true, decide_eq_true_eq] at hB
    refine ⟨fun h1 => (by rw [hB.1] at h1; cases h1), fun i hi => ?_⟩
    rw [hB.1] at hi
    have hik : i = k := by simpa using hi
    subst hik
    obtain ⟨_, o, ho, _⟩ := mem_ready.1 (show i ∈ Region.ready md ops listed by rw [hB.1]; simp)
    have hop : opsAt ops (i :: ks) = o :: opsAt ops ks := by unfold opsAt; rw [List.filterMap_cons, ho]
    rw [hop] at h
    unfold fxP at h
    have hw : fxOp P ops i (fun a' w' => C w' ∧ fxP P ops C Q (opsAt ops ks) a' w') a w := by unfold fxOp; simp only [ho]; exact h
    exact fxOp_mono (fun a' w' h' => ⟨fun _ => h'.1, fxAny_of_perm ks _ a' w' hB.2 h'.2⟩) hw
def floatHead (md : Region.Mode) (ops : Array Oper) (es : List Nat) : List Nat → Array Bool → Bool
  | [], listed => permB md ops es listed
  | k :: ks, listed => (Region.ready md ops listed).contains k && Region.free md ops listed k && floatHead md ops es ks (listed.setIfInBounds k true)
/-- The check: these reads, then these effects, and no other operation. -/
def floatB (md : Region.Mode) (ops : Array Oper) (rs es : List Nat) : Bool :=
  Region.noSelect ops && decide (rs.length + es.length = ops.size) && (opsAt ops rs).all plainOp && floatHead md ops es rs (Array.replicate ops.size false)
theorem float_lex {Q : Act → World → Prop} {w : World} (hC : C w) (hsel : Region.noSelect ops = true) (es : List Nat) :
    ∀ (ks : List Nat) (listed : Array Bool) (a : Act), (opsAt ops ks).all plainOp = true → floatHead md ops es ks listed = true → wpQuiet P ops C (fun a' => fxP P ops C Q (opsAt ops es) a' w) (opsAt ops ks) a →
    fxAny P md ops C ops.size Q (ks.length + es.length) listed a w
  | [], listed, a, _, hB, h => by
    rw [List.length_nil, Nat.zero_add]
    exact fxAny_of_perm es listed a w hB h
  | k :: ks, listed, a, hpl, hB, h => by
    simp only [floatHead, Bool.and_eq_true] at hB
    obtain ⟨⟨hr, hf⟩, hB'⟩ := hB
    have hr' : k ∈ Region.ready md ops listed := by simpa using hr
    obtain ⟨_, o, h0, _⟩ := mem_ready.1 hr'
    have hop : opsAt ops (k :: ks) = o :: opsAt ops ks := by unfold opsAt; rw [List.filterMap_cons, h0]
    rw [hop] at h hpl
    rw [List.all_cons, Bool.and_eq_true] at hpl
    have hlate : ∀ j oj, ops.size ≤ j → ops[j]? = some oj → ∃ e ∈ oj.after, Region.binds md e = true ∧ e.on = k := fun j oj hj hoj => by
      have hjs : j < ops.size := (Array.getElem?_eq_some_iff.1 hoj).1
      omega
    have hst : ∃ v, SY P ops C o v a ∧ wpQuiet P ops C (fun a' => fxP P ops C Q (opsAt ops es) a' w) (opsAt ops ks) (a.put o.dst v) := by
      unfold wpQuiet at h
      by_cases hw : Region.wanted o (yielded ops a.tmps)
      · rw [if_pos hw] at h
        obtain ⟨v, h1, h2⟩ := h
        refine ⟨v, .inl ⟨hw, fun w0 hw0 => ?_⟩, h2⟩
        have h3 := h1 w0 hw0
        unfold Oper.quietAt at h3
        cases hr : (execOp a.eval o).run P w0 with
        | halt x w' => rw [hr] at h3; exact False.elim h3
        | ok nx w' =>
          rw [hr] at h3
          cases nx
          case value u => obtain ⟨e1, e2⟩ := h3; subst e1 e2; exact .inl rfl
          case skip => obtain ⟨e1, e2⟩ := h3; subst e1; exact .inr ⟨rfl, e2⟩
          case enter f args => exact absurd hr (no_enter hpl.1 _ _ _ _ _)
          all_goals exact False.elim h3
      · rw [if_neg hw] at h
        exact ⟨undef, .inr ⟨by simpa using hw, rfl⟩, h⟩
    obtain ⟨v, hy, hK⟩ := hst
    have := float_lex hC hsel es ks (listed.setIfInBounds k true) (a.put o.dst v) hpl.2 hB' hK
    have h9 := fxAny_first h0 (Region.noSelect_spec hsel) hlate (ks.length + es.length) listed a w hC (Region.free_spec h0 hf) hr' hy this
    rw [show (k :: ks).length + es.length = ks.length + es.length + 1 by simp; omega]
    exact h9
/-- THE LAW: the reads of the numbers rs walked once, in the class C; then the effects of the numbers es in their one order. -/
theorem wp_region_float {id : Nat} {Q : Exit → Act → World → Prop} {a : Act} {w : World} {l : List Oper} (rs es : List Nat) (C : World → Prop) (hm : P.follows .mixedOrders = true) (hB : floatB .any l.toArray rs es = true) (hC : C w.drew)
    (h : wpQuiet P l.toArray C (fun a' => fxP P l.toArray C (fun a' w' => Q .normal a' w') (opsAt l.toArray es) a' w.drew) (opsAt l.toArray rs) a) : (Code.region id l.toArray true).wp P Q a w := by
  simp only [floatB, Bool.and_eq_true, decide_eq_true_eq] at hB
  obtain ⟨⟨⟨hsel, hn⟩, hpl⟩, hlex⟩ := hB
  have H := float_lex (md := .any) (Q := fun a' w' => Q .normal a' w') hC hsel es rs _ a hpl hlex h
  refine wp_region_any hm ?_
  have := wpAny_of_fx (Q' := Q) (fun _ _ h => h) _ _ _ _ H
  rw [hn] at this
  exact this
theorem fxp_value {Q : Act → World → Prop} {o : Oper} {rest : List Oper} {a : Act} {w w' : World} {u : Value} (hg : o.guard = none) (hr : (execOp a.eval o).run P w = .ok (.value u) w') (hC : C w')
    (h : fxP P ops C Q rest (a.put o.dst u) w') : fxP P ops C Q (o :: rest) a w := by
  unfold fxP
  have hw : Region.wanted o (yielded ops a.tmps) = true := by simp [Region.wanted, hg]
  rw [if_pos hw, hr]
  exact ⟨hC, h⟩
theorem fxp_skip {Q : Act → World → Prop} {o : Oper} {rest : List Oper} {a : Act} {w w' : World} (hg : o.guard = none) (hr : (execOp a.eval o).run P w = .ok .skip w') (hC : C w')
    (h : fxP P ops C Q rest (a.put o.dst undef) w') : fxP P ops C Q (o :: rest) a w := by
  unfold fxP
  have hw : Region.wanted o (yielded ops a.tmps) = true := by simp [Region.wanted, hg]
  rw [if_pos hw, hr]
  exact ⟨hC, h⟩
theorem fxp_enter {Q : Act → World → Prop} {o : Oper} {rest : List Oper} {a : Act} {w w' : World} {f : FuncId} {args : Array Value} (hg : o.guard = none) (hr : (execOp a.eval o).run P w = .ok (.enter f args) w')
    (h : Calls P f args w' fun e w'' => ∃ u, e = .returned u ∧ C w'' ∧ fxP P ops C Q rest (a.put o.dst u) w'') : fxP P ops C Q (o :: rest) a w := by
  unfold fxP
  have hw : Region.wanted o (yielded ops a.tmps) = true := by simp [Region.wanted, hg]
  rw [if_pos hw, hr]
  exact h
theorem fxp_nil {Q : Act → World → Prop} {a : Act} {w : World} (h : Q a w) : fxP P ops C Q [] a w := h
/-! The same within a round of a loop over an iterator. -/
def noDeferB (ops : Array Oper) : Bool := ops.toList.all fun o => match o.op with | .defer _ => false | _ => true
theorem noDefer_spec (h : noDeferB ops = true) (j : Nat) (o : Oper) (c : Call) (hj : ops[j]? = some o) : o.op ≠ .defer c := by
  intro he
  have := List.all_eq_true.1 h o (Array.mem_toList_iff.2 (Array.mem_of_getElem? hj))
  rw [he] at this
  cases this
theorem wpOpIn_of_fx {lo n i : Nat} {K : Act → World → Prop} {Q' : Exit → Act → World → Prop} {a : Act} {w : World} (hd : noDeferB ops = true) (hr : fxOp P ops i K a w) : wpOpIn (Fence.wide.inRound lo) n P ops Q' i K a w := by
  unfold fxOp at hr
  unfold wpOpIn
  split
  · rename_i ho; simp only [ho] at hr; exact hr
  · rename_i o ho
    simp only [ho] at hr
    split
    · rename_i hw
      simp only [hw, if_true] at hr
      refine ⟨fun _ _ => trivial, ?_⟩
      rw [Oper.semAt_eq _ _ _ (fun c => noDefer_spec hd i o c ho)]
      generalize (execOp a.eval o).run P w = r at *
      cases r with
      | halt x w => exact False.elim hr
      | ok nx w =>
        cases nx
        case value u => exact hr
        case skip => exact hr
        case enter f args => exact ⟨fun h => by simp [Fence.wide] at h, callsIn_wide.2 (Calls.mono hr fun e w' ⟨u, he, hk⟩ => by subst he; exact hk)⟩
        all_goals exact False.elim hr
    · rename_i hw; simp only [hw] at hr; exact ⟨fun _ _ => trivial, hr⟩
theorem wpAnyIn_of_fx {lo n m : Nat} {Q : Act → World → Prop} {Q' : Exit → Act → World → Prop} (hd : noDeferB ops = true) (hQ : ∀ a w, Q a w → Q' .normal a w) : ∀ (fuel : Nat) (listed : Array Bool) (a : Act) (w : World),
    fxAny P md ops C m Q fuel listed a w → wpAnyIn (Fence.wide.inRound lo) n P md ops Q' fuel listed a w
  | 0, _, _, _, h => ⟨h.1, hQ _ _ h.2⟩
  | fuel + 1, _, _, _, h => ⟨fun h0 => hQ _ _ (h.1 h0), fun i hi => wpOpIn_mono (fun a' w' h' => wpAnyIn_of_fx hd hQ fuel _ a' w' h'.2) (wpOpIn_of_fx hd (h.2 i hi))⟩
theorem wpIn_region_float {lo n id : Nat} {Q : Exit → Act → World → Prop} {a : Act} {w : World} {l : List Oper} (rs es : List Nat) (C : World → Prop) (hm : P.follows .mixedOrders = true) (hd : noDeferB l.toArray = true) (hB : floatB .any l.toArray rs es = true) (hC : C w.drew)
    (h : wpQuiet P l.toArray C (fun a' => fxP P l.toArray C (fun a' w' => Q .normal a' w') (opsAt l.toArray es) a' w.drew) (opsAt l.toArray rs) a) : (Code.region id l.toArray true).wpIn (Fence.wide.inRound lo) n P Q a w := by
  simp only [floatB, Bool.and_eq_true, decide_eq_true_eq] at hB
  obtain ⟨⟨⟨hsel, hn⟩, hpl⟩, hlex⟩ := hB
  have H := float_lex (md := .any) (Q := fun a' w' => Q .normal a' w') hC hsel es rs _ a hpl hlex h
  refine wpIn_region_any hm ?_
  have := wpAnyIn_of_fx (lo := lo) (n := n) (Q' := Q) hd (fun _ _ h => h) _ _ _ _ H
  rw [hn] at this
  exact this
end
end Go.Proofs.YtifafmomkpkgdaaDoor
