/-
  No cell of these rows narrows 'for every input' (looked for: loops, veiled, ifaces, maps, wideKeys, modest, calm, conditions, laid).
  DERIVED. THE GIVEN ROWS OF THIS SEAT. 8 by the template 'for every input the law returns true; each argument reads behind the call as it read before'; 0 by the template 'total and deterministic' (their statements: YtajmdlelpkgppaaTotals.lean).
  GIVEN WITH THE SEED: the statements are not yours to turn. If you find one false, say at which input.
  Laid BY PROGRAM, IN A SANDBOX (cutbox-rows.mjs): the forced cells as the released guide's own fill.sh prints them over the translation 17f536edc6741cbe… (all of the seat's roots in one cut). By AI agents, Wed Nov 11 2026. No macro, syntax, notation, axiom, sorry.
-/
import Derived.Test.YtajmdlelpkgppaaChecked
import GoSem.Claim
import GoSem.ClaimJoined
import GoSem.ClaimMapViews
import Derived.JoinedTies
import Derived.KernelRfl
namespace Go.Proofs.Ytajmdlelpkgppaa
/- THE CELL 'sum', in the pinned program and in every row, IS THE sha256 OF THE DUMP (.gsa) THAT YtajmdlelpkgppaaProg.lean LOADS. Nothing in Lean hashes anything: it is a label: what it is worth is what the hold of that sum in a sandbox is worth. -/
noncomputable def Try.pinned : Pinned := { name := "ytajmdlelpkgppaa", sum := "17f536edc6741cbeef6e45ad8fa819593b7d6be6c6628e35842d22d793de8c46", checked := Try.checked }
namespace Rows
def none {H : Type} : Left H := { results := [], args := [] }

/-- 'novationlaw01.IntegerSmall': WHATEVER THE INPUT: true; the input reads as it did. -/
def integerSmallSpec : ChangeSpec := { name := "integerSmall", fn := fun _ => fun
  | [d1, d2] => { results := [.lit (.bool true)], args := [d1, d2] }
  | _ => none }
def integerSmallRow : OpenClaim := { program := "ytajmdlelpkgppaa", sum := "17f536edc6741cbeef6e45ad8fa819593b7d6be6c6628e35842d22d793de8c46", func := "novation/novationlaw01.IntegerSmall", spec := "integerSmall", apart := false }
def IntegerSmallSaid : Prop := integerSmallRow.holds Try.pinned (OpenSpec.ofChange integerSmallSpec)

/-- ITS FALSE NEIGHBOUR: 'it returns false'. Refute it at one input. -/
def integerSmallWrong : ChangeSpec := { name := "integerSmall", fn := fun _ => fun
  | [d1, d2] => { results := [.lit (.bool false)], args := [d1, d2] }
  | _ => none }
def IntegerSmallWrongFalsely : Prop := integerSmallRow.holds Try.pinned (OpenSpec.ofChange integerSmallWrong)

/-- 'novationlaw01.IntegerTells': WHATEVER THE INPUT: true; the input reads as it did. -/
def integerTellsSpec : ChangeSpec := { name := "integerTells", fn := fun _ => fun
  | [d1, d2] => { results := [.lit (.bool true)], args := [d1, d2] }
  | _ => none }
def integerTellsRow : OpenClaim := { program := "ytajmdlelpkgppaa", sum := "17f536edc6741cbeef6e45ad8fa819593b7d6be6c6628e35842d22d793de8c46", func := "novation/novationlaw01.IntegerTells", spec := "integerTells", unfollowed := true, recurses := true, apart := false }
def IntegerTellsSaid : Prop := integerTellsRow.holds Try.pinned (OpenSpec.ofChange integerTellsSpec)

/-- ITS FALSE NEIGHBOUR: 'it returns false'. Refute it at one input. -/
def integerTellsWrong : ChangeSpec := { name := "integerTells", fn := fun _ => fun
  | [d1, d2] => { results := [.lit (.bool false)], args := [d1, d2] }
  | _ => none }
def IntegerTellsWrongFalsely : Prop := integerTellsRow.holds Try.pinned (OpenSpec.ofChange integerTellsWrong)

/-- 'novationlaw01.IntegerDivides': WHATEVER THE INPUT: true; the input reads as it did. -/
def integerDividesSpec : ChangeSpec := { name := "integerDivides", fn := fun _ => fun
  | [d1, d2] => { results := [.lit (.bool true)], args := [d1, d2] }
  | _ => none }
def integerDividesRow : OpenClaim := { program := "ytajmdlelpkgppaa", sum := "17f536edc6741cbeef6e45ad8fa819593b7d6be6c6628e35842d22d793de8c46", func := "novation/novationlaw01.IntegerDivides", spec := "integerDivides", unfollowed := true, recurses := true, apart := false }
def IntegerDividesSaid : Prop := integerDividesRow.holds Try.pinned (OpenSpec.ofChange integerDividesSpec)

/-- ITS FALSE NEIGHBOUR: 'it returns false'. Refute it at one input. -/
def integerDividesWrong : ChangeSpec := { name := "integerDivides", fn := fun _ => fun
  | [d1, d2] => { results := [.lit (.bool false)], args := [d1, d2] }
  | _ => none }
def IntegerDividesWrongFalsely : Prop := integerDividesRow.holds Try.pinned (OpenSpec.ofChange integerDividesWrong)

/-- 'novationlaw01.IntegerRing': WHATEVER THE INPUT: true; the input reads as it did. -/
def integerRingSpec : ChangeSpec := { name := "integerRing", fn := fun _ => fun
  | [d1, d2, d3] => { results := [.lit (.bool true)], args := [d1, d2, d3] }
  | _ => none }
def integerRingRow : OpenClaim := { program := "ytajmdlelpkgppaa", sum := "17f536edc6741cbeef6e45ad8fa819593b7d6be6c6628e35842d22d793de8c46", func := "novation/novationlaw01.IntegerRing", spec := "integerRing", unfollowed := true, recurses := true, apart := false }
def IntegerRingSaid : Prop := integerRingRow.holds Try.pinned (OpenSpec.ofChange integerRingSpec)

/-- ITS FALSE NEIGHBOUR: 'it returns false'. Refute it at one input. -/
def integerRingWrong : ChangeSpec := { name := "integerRing", fn := fun _ => fun
  | [d1, d2, d3] => { results := [.lit (.bool false)], args := [d1, d2, d3] }
  | _ => none }
def IntegerRingWrongFalsely : Prop := integerRingRow.holds Try.pinned (OpenSpec.ofChange integerRingWrong)

/-- 'novationlaw01.IntegerCommon': WHATEVER THE INPUT: true; the input reads as it did. -/
def integerCommonSpec : ChangeSpec := { name := "integerCommon", fn := fun _ => fun
  | [d1, d2, d3] => { results := [.lit (.bool true)], args := [d1, d2, d3] }
  | _ => none }
def integerCommonRow : OpenClaim := { program := "ytajmdlelpkgppaa", sum := "17f536edc6741cbeef6e45ad8fa819593b7d6be6c6628e35842d22d793de8c46", func := "novation/novationlaw01.IntegerCommon", spec := "integerCommon", unfollowed := true, recurses := true, apart := false }
def IntegerCommonSaid : Prop := integerCommonRow.holds Try.pinned (OpenSpec.ofChange integerCommonSpec)

/-- ITS FALSE NEIGHBOUR: 'it returns false'. Refute it at one input. -/
def integerCommonWrong : ChangeSpec := { name := "integerCommon", fn := fun _ => fun
  | [d1, d2, d3] => { results := [.lit (.bool false)], args := [d1, d2, d3] }
  | _ => none }
def IntegerCommonWrongFalsely : Prop := integerCommonRow.holds Try.pinned (OpenSpec.ofChange integerCommonWrong)

/-- 'novationlaw01.IntegerDivision': WHATEVER THE INPUT: true; the input reads as it did. -/
def integerDivisionSpec : ChangeSpec := { name := "integerDivision", fn := fun _ => fun
  | [d1, d2] => { results := [.lit (.bool true)], args := [d1, d2] }
  | _ => none }
def integerDivisionRow : OpenClaim := { program := "ytajmdlelpkgppaa", sum := "17f536edc6741cbeef6e45ad8fa819593b7d6be6c6628e35842d22d793de8c46", func := "novation/novationlaw01.IntegerDivision", spec := "integerDivision", unfollowed := true, recurses := true, apart := false }
def IntegerDivisionSaid : Prop := integerDivisionRow.holds Try.pinned (OpenSpec.ofChange integerDivisionSpec)

/-- ITS FALSE NEIGHBOUR: 'it returns false'. Refute it at one input. -/
def integerDivisionWrong : ChangeSpec := { name := "integerDivision", fn := fun _ => fun
  | [d1, d2] => { results := [.lit (.bool false)], args := [d1, d2] }
  | _ => none }
def IntegerDivisionWrongFalsely : Prop := integerDivisionRow.holds Try.pinned (OpenSpec.ofChange integerDivisionWrong)

/-- 'novationlaw01.IntegerOrder': WHATEVER THE INPUT: true; the input reads as it did. -/
def integerOrderSpec : ChangeSpec := { name := "integerOrder", fn := fun _ => fun
  | [d1, d2, d3] => { results := [.lit (.bool true)], args := [d1, d2, d3] }
  | _ => none }
def integerOrderRow : OpenClaim := { program := "ytajmdlelpkgppaa", sum := "17f536edc6741cbeef6e45ad8fa819593b7d6be6c6628e35842d22d793de8c46", func := "novation/novationlaw01.IntegerOrder", spec := "integerOrder", unfollowed := true, recurses := true, apart := false }
def IntegerOrderSaid : Prop := integerOrderRow.holds Try.pinned (OpenSpec.ofChange integerOrderSpec)

/-- ITS FALSE NEIGHBOUR: 'it returns false'. Refute it at one input. -/
def integerOrderWrong : ChangeSpec := { name := "integerOrder", fn := fun _ => fun
  | [d1, d2, d3] => { results := [.lit (.bool false)], args := [d1, d2, d3] }
  | _ => none }
def IntegerOrderWrongFalsely : Prop := integerOrderRow.holds Try.pinned (OpenSpec.ofChange integerOrderWrong)

/-- 'novationlaw01.IntegerNames': WHATEVER THE INPUT: true; the input reads as it did. -/
def integerNamesSpec : ChangeSpec := { name := "integerNames", fn := fun _ => fun
  | [] => { results := [.lit (.bool true)], args := [] }
  | _ => none }
def integerNamesRow : OpenClaim := { program := "ytajmdlelpkgppaa", sum := "17f536edc6741cbeef6e45ad8fa819593b7d6be6c6628e35842d22d793de8c46", func := "novation/novationlaw01.IntegerNames", spec := "integerNames", unfollowed := true, recurses := true, apart := false }
def IntegerNamesSaid : Prop := integerNamesRow.holds Try.pinned (OpenSpec.ofChange integerNamesSpec)

/-- ITS FALSE NEIGHBOUR: 'it returns false'. Refute it at one input. -/
def integerNamesWrong : ChangeSpec := { name := "integerNames", fn := fun _ => fun
  | [] => { results := [.lit (.bool false)], args := [] }
  | _ => none }
def IntegerNamesWrongFalsely : Prop := integerNamesRow.holds Try.pinned (OpenSpec.ofChange integerNamesWrong)

/- THE SECOND FORM. 'bulk': how many values and letters a reading holds, each counted each time it is reached (what is shared counts as often as it is met; a slice's spare places count too). A statement '..UptoSaid' is the law's where the arguments, and the package variables that the reading takes, are together of bulk at most 1048576: NARROWER than '..Said'. Prove '..Said' where nothing that the law and all that it calls make is longer than what came in: it says more and counts as full. Else prove '..UptoSaid'. A law counts once. -/
mutual
def uptoBulk {H : Type} : DataW H → Nat
  | .lit (.string bytes) => bytes.length + 1
  | .lit _ => 1
  | .nil => 1
  | .ptr d => uptoBulk d + 1
  | .slice elems spare => uptoBulkAll elems + uptoBulkAll spare + 1
  | .agg parts => uptoBulkAll parts + 1
  | .iface _ d => uptoBulk d + 1
  | .map entries => uptoBulkEntries entries + 1
  | .held _ => 1
def uptoBulkAll {H : Type} : List (DataW H) → Nat
  | [] => 0
  | d :: r => uptoBulk d + uptoBulkAll r
def uptoBulkEntries {H : Type} : List (Lit × DataW H) → Nat
  | [] => 0
  | x :: r => uptoBulkEntry x + uptoBulkEntries r
def uptoBulkEntry {H : Type} : Lit × DataW H → Nat
  | (.string bytes, d) => bytes.length + uptoBulk d + 1
  | (_, d) => uptoBulk d + 1
 end
def uptoSmall : (H : Type) → List (DataW H) → Bool := fun _ ds => decide (uptoBulkAll ds ≤ 1048576)
def OpenSpec.upto (s : _root_.Go.ChangeSpec) : _root_.Go.OpenSpec := { _root_.Go.OpenSpec.ofChange s with cond := some uptoSmall }

/-- 'novationlaw01.IntegerSmall', WHERE WHAT IT READS IS OF BULK AT MOST 1048576: true; the input reads as it did. -/
def integerSmallUptoRow : OpenClaim := { program := "ytajmdlelpkgppaa", sum := "17f536edc6741cbeef6e45ad8fa819593b7d6be6c6628e35842d22d793de8c46", func := "novation/novationlaw01.IntegerSmall", spec := "integerSmall", apart := false, narrowed := true }
def IntegerSmallUptoSaid : Prop := integerSmallUptoRow.holds Try.pinned (OpenSpec.upto integerSmallSpec)

/-- 'novationlaw01.IntegerTells', WHERE WHAT IT READS IS OF BULK AT MOST 1048576: true; the input reads as it did. -/
def integerTellsUptoRow : OpenClaim := { program := "ytajmdlelpkgppaa", sum := "17f536edc6741cbeef6e45ad8fa819593b7d6be6c6628e35842d22d793de8c46", func := "novation/novationlaw01.IntegerTells", spec := "integerTells", unfollowed := true, recurses := true, apart := false, narrowed := true }
def IntegerTellsUptoSaid : Prop := integerTellsUptoRow.holds Try.pinned (OpenSpec.upto integerTellsSpec)

/-- 'novationlaw01.IntegerDivides', WHERE WHAT IT READS IS OF BULK AT MOST 1048576: true; the input reads as it did. -/
def integerDividesUptoRow : OpenClaim := { program := "ytajmdlelpkgppaa", sum := "17f536edc6741cbeef6e45ad8fa819593b7d6be6c6628e35842d22d793de8c46", func := "novation/novationlaw01.IntegerDivides", spec := "integerDivides", unfollowed := true, recurses := true, apart := false, narrowed := true }
def IntegerDividesUptoSaid : Prop := integerDividesUptoRow.holds Try.pinned (OpenSpec.upto integerDividesSpec)

/-- 'novationlaw01.IntegerRing', WHERE WHAT IT READS IS OF BULK AT MOST 1048576: true; the input reads as it did. -/
def integerRingUptoRow : OpenClaim := { program := "ytajmdlelpkgppaa", sum := "17f536edc6741cbeef6e45ad8fa819593b7d6be6c6628e35842d22d793de8c46", func := "novation/novationlaw01.IntegerRing", spec := "integerRing", unfollowed := true, recurses := true, apart := false, narrowed := true }
def IntegerRingUptoSaid : Prop := integerRingUptoRow.holds Try.pinned (OpenSpec.upto integerRingSpec)

/-- 'novationlaw01.IntegerCommon', WHERE WHAT IT READS IS OF BULK AT MOST 1048576: true; the input reads as it did. -/
def integerCommonUptoRow : OpenClaim := { program := "ytajmdlelpkgppaa", sum := "17f536edc6741cbeef6e45ad8fa819593b7d6be6c6628e35842d22d793de8c46", func := "novation/novationlaw01.IntegerCommon", spec := "integerCommon", unfollowed := true, recurses := true, apart := false, narrowed := true }
def IntegerCommonUptoSaid : Prop := integerCommonUptoRow.holds Try.pinned (OpenSpec.upto integerCommonSpec)

/-- 'novationlaw01.IntegerDivision', WHERE WHAT IT READS IS OF BULK AT MOST 1048576: true; the input reads as it did. -/
def integerDivisionUptoRow : OpenClaim := { program := "ytajmdlelpkgppaa", sum := "17f536edc6741cbeef6e45ad8fa819593b7d6be6c6628e35842d22d793de8c46", func := "novation/novationlaw01.IntegerDivision", spec := "integerDivision", unfollowed := true, recurses := true, apart := false, narrowed := true }
def IntegerDivisionUptoSaid : Prop := integerDivisionUptoRow.holds Try.pinned (OpenSpec.upto integerDivisionSpec)

/-- 'novationlaw01.IntegerOrder', WHERE WHAT IT READS IS OF BULK AT MOST 1048576: true; the input reads as it did. -/
def integerOrderUptoRow : OpenClaim := { program := "ytajmdlelpkgppaa", sum := "17f536edc6741cbeef6e45ad8fa819593b7d6be6c6628e35842d22d793de8c46", func := "novation/novationlaw01.IntegerOrder", spec := "integerOrder", unfollowed := true, recurses := true, apart := false, narrowed := true }
def IntegerOrderUptoSaid : Prop := integerOrderUptoRow.holds Try.pinned (OpenSpec.upto integerOrderSpec)

/-- 'novationlaw01.IntegerNames', WHERE WHAT IT READS IS OF BULK AT MOST 1048576: true; the input reads as it did. -/
def integerNamesUptoRow : OpenClaim := { program := "ytajmdlelpkgppaa", sum := "17f536edc6741cbeef6e45ad8fa819593b7d6be6c6628e35842d22d793de8c46", func := "novation/novationlaw01.IntegerNames", spec := "integerNames", unfollowed := true, recurses := true, apart := false, narrowed := true }
def IntegerNamesUptoSaid : Prop := integerNamesUptoRow.holds Try.pinned (OpenSpec.upto integerNamesSpec)

end Rows
end Go.Proofs.Ytajmdlelpkgppaa
