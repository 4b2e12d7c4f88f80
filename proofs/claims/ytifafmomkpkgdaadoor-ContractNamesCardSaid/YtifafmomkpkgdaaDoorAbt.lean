/- A region that draws its order: a reading head, walked once in the text's order by the cheap steps, then a tail whose order is forced. -/
import Derived.Test.YtifafmomkpkgdaaDoorAbv
import Derived.StillTail
namespace Go.Proofs.YtifafmomkpkgdaaDoor
open Go.RowKit
section
variable {P : Program} {ops : Array Oper} {W : World}
theorem still_of_quiet {o : Oper} {a : Act} {K : Act → Prop} (h : o.quiet P a (fun w' => w' = W) K) : o.still P a W K := by
  obtain ⟨v, h1, h2⟩ := h
  have h1 := h1 W rfl
  unfold Oper.quietAt at h1
  unfold Oper.still
  cases hr : (execOp a.eval o).run P W with
  | ok n w' =>
    rw [hr] at h1
    cases n with
    | value u => obtain ⟨e, rfl⟩ := h1; exact ⟨e, h2⟩
    | skip => obtain ⟨e, rfl⟩ := h1; exact ⟨e, h2⟩
    | enter f args => exact ⟨h1.1, v, h1.2, h2⟩
    | _ => exact h1.elim
  | _ => rw [hr] at h1; exact h1.elim
theorem wpStill_of_quiet {Q : Act → Prop} : ∀ (l : List Oper) (a : Act), wpQuiet P ops (fun w' => w' = W) Q l a → wpStill P ops W Q l a
  | [], _, h => h
  | o :: rest, a, h => by
    unfold wpQuiet at h
    refine wpStill_step fun K hK => ?_
    by_cases hw : Region.wanted o (yielded ops a.tmps)
    · rw [if_pos hw] at h ⊢
      exact still_of_quiet (Oper.quiet_mono (fun a' h' => hK a' (wpStill_of_quiet rest a' h')) h)
    · rw [if_neg hw] at h ⊢
      exact hK _ (wpStill_of_quiet rest _ h)
/-- A reading head of n operations, then a tail whose order is forced. -/
theorem wp_region_tail {id : Nat} {Q : Exit → Act → World → Prop} {a : Act} {l : List Oper} (n : Nat) (hm : P.follows .mixedOrders = true) (hB : Region.lexTailB .any l.toArray n = true)
    (h : wpQuiet P l.toArray (fun w' => w' = W.drew) (fun a' => wpList P l.toArray Q (l.drop n) a' W.drew) (l.take n) a) : (Code.region id l.toArray true).wp P Q a W :=
  wp_region_still_tail n hm hB (wpStill_of_quiet _ _ h)
end
end Go.Proofs.YtifafmomkpkgdaaDoor
