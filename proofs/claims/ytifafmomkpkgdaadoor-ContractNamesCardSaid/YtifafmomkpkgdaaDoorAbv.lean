/- A region that draws its order, whose own operations only read and whose callees may make memory: one walk in the text's order, in the class of all worlds above one. -/
import Derived.Test.YtifafmomkpkgdaaDoorMi
import Derived.BigQuiet
import Derived.Deep.QuietTactic
namespace Go.Proofs.YtifafmomkpkgdaaDoor
open Go.RowKit
/-- A world above W. -/
def Ab (W : World) : Type := {w' : World // Below W.heap.size W w'}
instance (W : World) : Nonempty (Ab W) := ⟨⟨W, Below.refl _ _⟩⟩
section
variable {P : Program} {W : World}
theorem wp_region_above {id : Nat} {Q : Exit → Act → World → Prop} {a : Act} {l : List Oper} (hm : P.follows .mixedOrders = true) (hB : Region.lexB .any l.toArray = true)
    (h : wpQuiet P l.toArray (fun w' => ∃ x : Ab W, w' = x.1) (fun a' => ∀ w', (∃ x : Ab W, w' = x.1) → Q .normal a' w') l a) : (Code.region id l.toArray true).wp P Q a W :=
  wp_region_quiet (C := fun w' => ∃ x : Ab W, w' = x.1) hm hB ⟨⟨W.drew, (Below.refl _ W).drew⟩, rfl⟩ (by simpa using h)
theorem Ab.same {f : FuncId} {args : Array Value} {x : Ab W} {v : Value} (h : Calls P f args x.1 fun e w' => e = .returned v ∧ x.1 = w') : Calls P f args x.1 fun e w'' => e = .returned v ∧ ∃ y : Ab W, w'' = y.1 :=
  h.mono fun _ _ h => ⟨h.1, x, h.2.symm⟩
theorem Ab.step {f : FuncId} {args : Array Value} {x : Ab W} {v : Value} (h : Calls P f args x.1 fun e w' => e = .returned v ∧ Below x.1.heap.size x.1 w') : Calls P f args x.1 fun e w'' => e = .returned v ∧ ∃ y : Ab W, w'' = y.1 :=
  h.mono fun _ w' h => ⟨h.1, ⟨w', Below.trans x.2 (h.2.mono (Below.size x.2))⟩, rfl⟩
theorem Ab.cells {x : Ab W} {B : Nat} {t : TypeId} {cs : Array Value} (h : Blk W B t cs) : Blk x.1 B t cs := h.below x.2
theorem Ab.cell {x : Ab W} {p : Addr} {v : Value} (h : W.cell? p = some v) (hb : p.block < W.heap.size) : x.1.cell? p = some v := (Below.cell x.2 hb).trans h
end
end Go.Proofs.YtifafmomkpkgdaaDoor
