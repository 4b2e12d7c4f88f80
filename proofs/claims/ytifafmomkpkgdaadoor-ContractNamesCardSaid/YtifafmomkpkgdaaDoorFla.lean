/- A region that draws its order, step by step: reads first where they may be, one effect, or one of two (a floating alloc). -/
import Derived.Test.YtifafmomkpkgdaaDoorFls
namespace Go.Proofs.YtifafmomkpkgdaaDoor
open Go.RowKit
section
variable {P : Program} {ops : Array Oper} {md : Region.Mode} {C C' : World → Prop} {m : Nat} {Q : Act → World → Prop}
/-- A smaller class will do. -/
theorem fx_class (h : ∀ w, C' w → C w) : ∀ (n : Nat) (listed : Array Bool) (a : Act) (w : World), fxAny P md ops C' m Q n listed a w → fxAny P md ops C m Q n listed a w
  | 0, _, _, _, H => H
  | n + 1, _, _, _, H => ⟨H.1, fun i hi => fxOp_mono (fun _ _ h' => ⟨fun hm => h _ (h'.1 hm), fx_class h n _ _ _ h'.2⟩) (H.2 i hi)⟩
theorem fx_end {n : Nat} {listed : Array Bool} {a : Act} {w : World} (hr : Region.ready md ops listed = []) (h : Q a w) : fxAny P md ops C m Q n listed a w := by
  cases n with
  | zero => exact ⟨hr, h⟩
  | succ n => exact ⟨fun _ => h, fun i hi => (by rw [hr] at hi; cases hi)⟩
theorem fo_of_p {k : Nat} {R : Act → World → Prop} {a : Act} {w : World} {listed : Array Bool} (hk : k ∈ Region.ready md ops listed) (h : fxP P ops C R (opsAt ops [k]) a w) : fxOp P ops k (fun a' w' => C w' ∧ R a' w') a w := by
  obtain ⟨_, o, ho, _⟩ := mem_ready.1 hk
  rw [opsAt_cons ho] at h
  unfold fxP at h
  unfold fxOp
  simp only [ho]
  exact h
theorem fo_of_l {k : Nat} {R : Act → World → Prop} {a : Act} {w : World} {listed : Array Bool} (hk : k ∈ Region.ready md ops listed) (h : fxL P ops R (opsAt ops [k]) a w) : fxOp P ops k R a w := by
  obtain ⟨_, o, ho, _⟩ := mem_ready.1 hk
  rw [opsAt_cons ho] at h
  unfold fxL at h
  unfold fxOp
  simp only [ho]
  exact h
theorem fx_one {n k : Nat} {listed : Array Bool} {a : Act} {w : World} (hr : Region.ready md ops listed = [k]) (h : fxP P ops C (fxAny P md ops C m Q n (listed.setIfInBounds k true)) (opsAt ops [k]) a w) : fxAny P md ops C m Q (n + 1) listed a w :=
  ⟨fun h0 => (by rw [hr] at h0; cases h0), fun i hi => by
    have hi' := hi
    rw [hr] at hi
    obtain rfl : i = k := by simpa using hi
    exact fxOp_mono (fun _ _ h' => ⟨fun _ => h'.1, h'.2⟩) (fo_of_p hi' h)⟩
theorem fx_late {n k : Nat} {listed : Array Bool} {a : Act} {w : World} (hm : m ≤ k) (hr : Region.ready md ops listed = [k]) (h : fxL P ops (fxAny P md ops C m Q n (listed.setIfInBounds k true)) (opsAt ops [k]) a w) : fxAny P md ops C m Q (n + 1) listed a w :=
  ⟨fun h0 => (by rw [hr] at h0; cases h0), fun i hi => by
    have hi' := hi
    rw [hr] at hi
    obtain rfl : i = k := by simpa using hi
    exact fxOp_mono (fun _ _ h' => ⟨fun hl => absurd hl (by omega), h'⟩) (fo_of_l hi' h)⟩
theorem fx_two {n k l : Nat} {listed : Array Bool} {a : Act} {w : World} (hr : Region.ready md ops listed = [k, l]) (h1 : fxP P ops C (fxAny P md ops C m Q n (listed.setIfInBounds k true)) (opsAt ops [k]) a w)
    (h2 : fxP P ops C (fxAny P md ops C m Q n (listed.setIfInBounds l true)) (opsAt ops [l]) a w) : fxAny P md ops C m Q (n + 1) listed a w :=
  ⟨fun h0 => (by rw [hr] at h0; cases h0), fun i hi => by
    have hi' := hi
    rw [hr] at hi
    rcases List.mem_cons.1 hi with rfl | hi
    · exact fxOp_mono (fun _ _ h' => ⟨fun _ => h'.1, h'.2⟩) (fo_of_p hi' h1)
    · obtain rfl : i = l := by simpa using hi
      exact fxOp_mono (fun _ _ h' => ⟨fun _ => h'.1, h'.2⟩) (fo_of_p hi' h2)⟩
/-- The reads ks first. -/
theorem fx_reads (ks : List Nat) {n N : Nat} {listed : Array Bool} {a : Act} {w : World} (hN : ks.length + n = N) (hB : (Region.noSelect ops && (opsAt ops ks).all plainOp && readsB md ops m ks listed) = true) (hC : C w)
    (h : wpQuiet P ops C (fun a' => fxAny P md ops C m Q n (setAll ks listed) a' w) (opsAt ops ks) a) : fxAny P md ops C m Q N listed a w := by
  subst hN
  simp only [Bool.and_eq_true] at hB
  exact reads_lex hB.1.1 hC ks listed a hB.1.2 hB.2 h fun _ h' => h'
/-- THE LAW, step by step. -/
theorem wp_region_fx {id : Nat} {Q : Exit → Act → World → Prop} {a : Act} {w : World} {l : List Oper} (m : Nat) (C : World → Prop) (hm : P.follows .mixedOrders = true)
    (h : fxAny P .any l.toArray C m (fun a' w' => Q .normal a' w') l.toArray.size (Array.replicate l.toArray.size false) a w.drew) : (Code.region id l.toArray true).wp P Q a w := by
  refine wp_region_any hm ?_
  exact wpAny_of_fx (Q' := Q) (fun _ _ h => h) _ _ _ _ h
end
end Go.Proofs.YtifafmomkpkgdaaDoor
