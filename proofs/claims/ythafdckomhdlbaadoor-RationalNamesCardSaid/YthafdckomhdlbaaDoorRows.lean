/-
  NARROWER THAN 'FOR EVERY INPUT', by the rows' own cells (each row's printed sentence says how): RationalRounds: laid · RationalField: laid · RationalOrdered: laid · RationalNear: laid · RationalPowers: laid · RationalNames: laid.
  DERIVED. THE GIVEN ROWS OF THIS SEAT. 6 by the template 'for every input the law returns true; each argument reads behind the call as it read before'; 0 by the template 'total and deterministic' (their statements: YthafdckomhdlbaaDoorTotals.lean).
  GIVEN WITH THE SEED: the statements are not yours to turn. If you find one false, say at which input.
  Laid BY PROGRAM, IN A SANDBOX (cutbox-rows.mjs): the forced cells as the released guide's own fill.sh prints them over the translation bc0ca75091f7a0e5… (all of the seat's roots in one cut). By AI agents, Wed Nov 11 2026. No macro, syntax, notation, axiom, sorry.
-/
import Derived.Test.YthafdckomhdlbaaDoorChecked
import GoSem.Claim
import GoSem.ClaimJoined
import GoSem.ClaimMapViews
import Derived.JoinedTies
import Derived.KernelRfl
namespace Go.Proofs.YthafdckomhdlbaaDoor
/- THE CELL 'sum', in the pinned program and in every row, IS THE sha256 OF THE DUMP (.gsa) THAT YthafdckomhdlbaaDoorProg.lean LOADS. Nothing in Lean hashes anything: it is a label: what it is worth is what the hold of that sum in a sandbox is worth. -/
noncomputable def Tryd.pinned : Pinned := { name := "ythafdckomhdlbaadoor", sum := "bc0ca75091f7a0e5cbf792ba4467ddf8fd13efcf9a691faaa520dcaa300920a6", checked := Tryd.checked }
namespace Rows
def none {H : Type} : Left H := { results := [], args := [] }

/- WHAT THE LISTED PACKAGE-LEVEL VARIABLES READ AS WHEN THE CALL BEGINS. Each datum BY PROGRAM (the guide's laid-datum.mjs) off the statement by which the dump's own 'gosem.cut.vars' lays the variable. In a bare row this is a premise. The card (YthafdckomhdlbaaDoorCards.lean) ties it to the program's text. -/
def laid_novation_rational_away {H : Type} : DataW H := .iface "func table" (.agg [.iface "func" (.lit (.string [110, 111, 118, 97, 116, 105, 111, 110, 47, 114, 97, 116, 105, 111, 110, 97, 108, 46, 97, 119, 97, 121, 36, 49])), .iface "func" (.lit (.string [110, 111, 118, 97, 116, 105, 111, 110, 47, 114, 97, 116, 105, 111, 110, 97, 108, 46, 97, 119, 97, 121, 36, 50])), .iface "func" (.lit (.string [110, 111, 118, 97, 116, 105, 111, 110, 47, 114, 97, 116, 105, 111, 110, 97, 108, 46, 97, 119, 97, 121, 36, 51])), .iface "func" (.lit (.string [110, 111, 118, 97, 116, 105, 111, 110, 47, 114, 97, 116, 105, 111, 110, 97, 108, 46, 97, 119, 97, 121, 36, 52])), .iface "func" (.lit (.string [110, 111, 118, 97, 116, 105, 111, 110, 47, 114, 97, 116, 105, 111, 110, 97, 108, 46, 97, 119, 97, 121, 36, 53]))])

/-- 'novationlaw02.RationalRounds': WHATEVER THE INPUT: true; the input reads as it did. -/
def rationalRoundsSpec : ChangeSpec := { name := "rationalRounds", fn := fun _ => fun
  | [d1, d2] => { results := [.lit (.bool true)], args := [d1, d2] }
  | _ => none }
def rationalRoundsRow : OpenClaim := { program := "ythafdckomhdlbaadoor", sum := "bc0ca75091f7a0e5cbf792ba4467ddf8fd13efcf9a691faaa520dcaa300920a6", func := "novation/novationlaw02.RationalRounds", spec := "rationalRounds", inPlace := ["internal/bytealg.IndexByteString", "internal/bytealg.IndexString"], unfollowed := true, recurses := true, named := ["novation/rational.away", "internal/bytealg.MaxLen"], apart := false, laid := [("novation/rational.away", laid_novation_rational_away)] }
def RationalRoundsSaid : Prop := rationalRoundsRow.holds Tryd.pinned (OpenSpec.ofChange rationalRoundsSpec)

/-- ITS FALSE NEIGHBOUR: 'it returns false'. Refute it at one input. -/
def rationalRoundsWrong : ChangeSpec := { name := "rationalRounds", fn := fun _ => fun
  | [d1, d2] => { results := [.lit (.bool false)], args := [d1, d2] }
  | _ => none }
def RationalRoundsWrongFalsely : Prop := rationalRoundsRow.holds Tryd.pinned (OpenSpec.ofChange rationalRoundsWrong)

/-- 'novationlaw02.RationalField': WHATEVER THE INPUT: true; the input reads as it did. -/
def rationalFieldSpec : ChangeSpec := { name := "rationalField", fn := fun _ => fun
  | [d1, d2, d3] => { results := [.lit (.bool true)], args := [d1, d2, d3] }
  | _ => none }
def rationalFieldRow : OpenClaim := { program := "ythafdckomhdlbaadoor", sum := "bc0ca75091f7a0e5cbf792ba4467ddf8fd13efcf9a691faaa520dcaa300920a6", func := "novation/novationlaw02.RationalField", spec := "rationalField", inPlace := ["internal/bytealg.IndexByteString", "internal/bytealg.IndexString"], unfollowed := true, recurses := true, named := ["internal/bytealg.MaxLen", "novation/rational.away"], apart := false, laid := [("novation/rational.away", laid_novation_rational_away)] }
def RationalFieldSaid : Prop := rationalFieldRow.holds Tryd.pinned (OpenSpec.ofChange rationalFieldSpec)

/-- ITS FALSE NEIGHBOUR: 'it returns false'. Refute it at one input. -/
def rationalFieldWrong : ChangeSpec := { name := "rationalField", fn := fun _ => fun
  | [d1, d2, d3] => { results := [.lit (.bool false)], args := [d1, d2, d3] }
  | _ => none }
def RationalFieldWrongFalsely : Prop := rationalFieldRow.holds Tryd.pinned (OpenSpec.ofChange rationalFieldWrong)

/-- 'novationlaw02.RationalOrdered': WHATEVER THE INPUT: true; the input reads as it did. -/
def rationalOrderedSpec : ChangeSpec := { name := "rationalOrdered", fn := fun _ => fun
  | [d1, d2, d3] => { results := [.lit (.bool true)], args := [d1, d2, d3] }
  | _ => none }
def rationalOrderedRow : OpenClaim := { program := "ythafdckomhdlbaadoor", sum := "bc0ca75091f7a0e5cbf792ba4467ddf8fd13efcf9a691faaa520dcaa300920a6", func := "novation/novationlaw02.RationalOrdered", spec := "rationalOrdered", inPlace := ["internal/bytealg.IndexByteString", "internal/bytealg.IndexString"], unfollowed := true, recurses := true, named := ["internal/bytealg.MaxLen", "novation/rational.away"], apart := false, laid := [("novation/rational.away", laid_novation_rational_away)] }
def RationalOrderedSaid : Prop := rationalOrderedRow.holds Tryd.pinned (OpenSpec.ofChange rationalOrderedSpec)

/-- ITS FALSE NEIGHBOUR: 'it returns false'. Refute it at one input. -/
def rationalOrderedWrong : ChangeSpec := { name := "rationalOrdered", fn := fun _ => fun
  | [d1, d2, d3] => { results := [.lit (.bool false)], args := [d1, d2, d3] }
  | _ => none }
def RationalOrderedWrongFalsely : Prop := rationalOrderedRow.holds Tryd.pinned (OpenSpec.ofChange rationalOrderedWrong)

/-- 'novationlaw02.RationalNear': WHATEVER THE INPUT: true; the input reads as it did. -/
def rationalNearSpec : ChangeSpec := { name := "rationalNear", fn := fun _ => fun
  | [d1, d2] => { results := [.lit (.bool true)], args := [d1, d2] }
  | _ => none }
def rationalNearRow : OpenClaim := { program := "ythafdckomhdlbaadoor", sum := "bc0ca75091f7a0e5cbf792ba4467ddf8fd13efcf9a691faaa520dcaa300920a6", func := "novation/novationlaw02.RationalNear", spec := "rationalNear", inPlace := ["internal/bytealg.IndexByteString", "internal/bytealg.IndexString"], unfollowed := true, recurses := true, named := ["internal/bytealg.MaxLen", "novation/rational.away"], apart := false, laid := [("novation/rational.away", laid_novation_rational_away)] }
def RationalNearSaid : Prop := rationalNearRow.holds Tryd.pinned (OpenSpec.ofChange rationalNearSpec)

/-- ITS FALSE NEIGHBOUR: 'it returns false'. Refute it at one input. -/
def rationalNearWrong : ChangeSpec := { name := "rationalNear", fn := fun _ => fun
  | [d1, d2] => { results := [.lit (.bool false)], args := [d1, d2] }
  | _ => none }
def RationalNearWrongFalsely : Prop := rationalNearRow.holds Tryd.pinned (OpenSpec.ofChange rationalNearWrong)

/-- 'novationlaw02.RationalPowers': WHATEVER THE INPUT: true; the input reads as it did. -/
def rationalPowersSpec : ChangeSpec := { name := "rationalPowers", fn := fun _ => fun
  | [d1, d2, d3] => { results := [.lit (.bool true)], args := [d1, d2, d3] }
  | _ => none }
def rationalPowersRow : OpenClaim := { program := "ythafdckomhdlbaadoor", sum := "bc0ca75091f7a0e5cbf792ba4467ddf8fd13efcf9a691faaa520dcaa300920a6", func := "novation/novationlaw02.RationalPowers", spec := "rationalPowers", inPlace := ["internal/bytealg.IndexByteString", "internal/bytealg.IndexString"], unfollowed := true, recurses := true, named := ["internal/bytealg.MaxLen", "novation/rational.away"], apart := false, laid := [("novation/rational.away", laid_novation_rational_away)] }
def RationalPowersSaid : Prop := rationalPowersRow.holds Tryd.pinned (OpenSpec.ofChange rationalPowersSpec)

/-- ITS FALSE NEIGHBOUR: 'it returns false'. Refute it at one input. -/
def rationalPowersWrong : ChangeSpec := { name := "rationalPowers", fn := fun _ => fun
  | [d1, d2, d3] => { results := [.lit (.bool false)], args := [d1, d2, d3] }
  | _ => none }
def RationalPowersWrongFalsely : Prop := rationalPowersRow.holds Tryd.pinned (OpenSpec.ofChange rationalPowersWrong)

/-- 'novationlaw02.RationalNames': WHATEVER THE INPUT: true; the input reads as it did. -/
def rationalNamesSpec : ChangeSpec := { name := "rationalNames", fn := fun _ => fun
  | [] => { results := [.lit (.bool true)], args := [] }
  | _ => none }
def rationalNamesRow : OpenClaim := { program := "ythafdckomhdlbaadoor", sum := "bc0ca75091f7a0e5cbf792ba4467ddf8fd13efcf9a691faaa520dcaa300920a6", func := "novation/novationlaw02.RationalNames", spec := "rationalNames", inPlace := ["internal/bytealg.IndexByteString", "internal/bytealg.IndexString"], unfollowed := true, recurses := true, named := ["internal/bytealg.MaxLen", "novation/rational.away"], apart := false, laid := [("novation/rational.away", laid_novation_rational_away)] }
def RationalNamesSaid : Prop := rationalNamesRow.holds Tryd.pinned (OpenSpec.ofChange rationalNamesSpec)

/-- ITS FALSE NEIGHBOUR: 'it returns false'. Refute it at one input. -/
def rationalNamesWrong : ChangeSpec := { name := "rationalNames", fn := fun _ => fun
  | [] => { results := [.lit (.bool false)], args := [] }
  | _ => none }
def RationalNamesWrongFalsely : Prop := rationalNamesRow.holds Tryd.pinned (OpenSpec.ofChange rationalNamesWrong)

/- THE SECOND FORM. 'bulk': how many values and letters a reading holds, each counted each time it is reached (what is shared counts as often as it is met; a slice's spare places count too). A statement '..UptoSaid' is the law's where the arguments, and the package variables that the reading takes, are together of bulk at most 1048576: NARROWER than '..Said'. Prove '..Said' where nothing that the law and all that it calls make is longer than what came in: it says more and counts as full. Else prove '..UptoSaid'. A law counts once. -/
mutual
def uptoBulk {H : Type} : DataW H → Nat
  | .lit (.string bytes) => bytes.length + 1
  | .lit _ => 1
  | .nil => 1
  | .ptr d => uptoBulk d + 1
  | .slice elems spare => uptoBulkAll elems + uptoBulkAll spare + 1
  | .agg parts => uptoBulkAll parts + 1
  | .iface _ d => uptoBulk d + 1
  | .map entries => uptoBulkEntries entries + 1
  | .held _ => 1
def uptoBulkAll {H : Type} : List (DataW H) → Nat
  | [] => 0
  | d :: r => uptoBulk d + uptoBulkAll r
def uptoBulkEntries {H : Type} : List (Lit × DataW H) → Nat
  | [] => 0
  | x :: r => uptoBulkEntry x + uptoBulkEntries r
def uptoBulkEntry {H : Type} : Lit × DataW H → Nat
  | (.string bytes, d) => bytes.length + uptoBulk d + 1
  | (_, d) => uptoBulk d + 1
 end
def uptoSmall : (H : Type) → List (DataW H) → Bool := fun _ ds => decide (uptoBulkAll ds ≤ 1048576)
def OpenSpec.upto (s : _root_.Go.ChangeSpec) : _root_.Go.OpenSpec := { _root_.Go.OpenSpec.ofChange s with cond := some uptoSmall }

/-- 'novationlaw02.RationalRounds', WHERE WHAT IT READS IS OF BULK AT MOST 1048576: true; the input reads as it did. -/
def rationalRoundsUptoRow : OpenClaim := { program := "ythafdckomhdlbaadoor", sum := "bc0ca75091f7a0e5cbf792ba4467ddf8fd13efcf9a691faaa520dcaa300920a6", func := "novation/novationlaw02.RationalRounds", spec := "rationalRounds", inPlace := ["internal/bytealg.IndexByteString", "internal/bytealg.IndexString"], unfollowed := true, recurses := true, named := ["novation/rational.away", "internal/bytealg.MaxLen"], apart := false, laid := [("novation/rational.away", laid_novation_rational_away)], narrowed := true }
def RationalRoundsUptoSaid : Prop := rationalRoundsUptoRow.holds Tryd.pinned (OpenSpec.upto rationalRoundsSpec)

/-- 'novationlaw02.RationalField', WHERE WHAT IT READS IS OF BULK AT MOST 1048576: true; the input reads as it did. -/
def rationalFieldUptoRow : OpenClaim := { program := "ythafdckomhdlbaadoor", sum := "bc0ca75091f7a0e5cbf792ba4467ddf8fd13efcf9a691faaa520dcaa300920a6", func := "novation/novationlaw02.RationalField", spec := "rationalField", inPlace := ["internal/bytealg.IndexByteString", "internal/bytealg.IndexString"], unfollowed := true, recurses := true, named := ["internal/bytealg.MaxLen", "novation/rational.away"], apart := false, laid := [("novation/rational.away", laid_novation_rational_away)], narrowed := true }
def RationalFieldUptoSaid : Prop := rationalFieldUptoRow.holds Tryd.pinned (OpenSpec.upto rationalFieldSpec)

/-- 'novationlaw02.RationalOrdered', WHERE WHAT IT READS IS OF BULK AT MOST 1048576: true; the input reads as it did. -/
def rationalOrderedUptoRow : OpenClaim := { program := "ythafdckomhdlbaadoor", sum := "bc0ca75091f7a0e5cbf792ba4467ddf8fd13efcf9a691faaa520dcaa300920a6", func := "novation/novationlaw02.RationalOrdered", spec := "rationalOrdered", inPlace := ["internal/bytealg.IndexByteString", "internal/bytealg.IndexString"], unfollowed := true, recurses := true, named := ["internal/bytealg.MaxLen", "novation/rational.away"], apart := false, laid := [("novation/rational.away", laid_novation_rational_away)], narrowed := true }
def RationalOrderedUptoSaid : Prop := rationalOrderedUptoRow.holds Tryd.pinned (OpenSpec.upto rationalOrderedSpec)

/-- 'novationlaw02.RationalNear', WHERE WHAT IT READS IS OF BULK AT MOST 1048576: true; the input reads as it did. -/
def rationalNearUptoRow : OpenClaim := { program := "ythafdckomhdlbaadoor", sum := "bc0ca75091f7a0e5cbf792ba4467ddf8fd13efcf9a691faaa520dcaa300920a6", func := "novation/novationlaw02.RationalNear", spec := "rationalNear", inPlace := ["internal/bytealg.IndexByteString", "internal/bytealg.IndexString"], unfollowed := true, recurses := true, named := ["internal/bytealg.MaxLen", "novation/rational.away"], apart := false, laid := [("novation/rational.away", laid_novation_rational_away)], narrowed := true }
def RationalNearUptoSaid : Prop := rationalNearUptoRow.holds Tryd.pinned (OpenSpec.upto rationalNearSpec)

/-- 'novationlaw02.RationalPowers', WHERE WHAT IT READS IS OF BULK AT MOST 1048576: true; the input reads as it did. -/
def rationalPowersUptoRow : OpenClaim := { program := "ythafdckomhdlbaadoor", sum := "bc0ca75091f7a0e5cbf792ba4467ddf8fd13efcf9a691faaa520dcaa300920a6", func := "novation/novationlaw02.RationalPowers", spec := "rationalPowers", inPlace := ["internal/bytealg.IndexByteString", "internal/bytealg.IndexString"], unfollowed := true, recurses := true, named := ["internal/bytealg.MaxLen", "novation/rational.away"], apart := false, laid := [("novation/rational.away", laid_novation_rational_away)], narrowed := true }
def RationalPowersUptoSaid : Prop := rationalPowersUptoRow.holds Tryd.pinned (OpenSpec.upto rationalPowersSpec)

/-- 'novationlaw02.RationalNames', WHERE WHAT IT READS IS OF BULK AT MOST 1048576: true; the input reads as it did. -/
def rationalNamesUptoRow : OpenClaim := { program := "ythafdckomhdlbaadoor", sum := "bc0ca75091f7a0e5cbf792ba4467ddf8fd13efcf9a691faaa520dcaa300920a6", func := "novation/novationlaw02.RationalNames", spec := "rationalNames", inPlace := ["internal/bytealg.IndexByteString", "internal/bytealg.IndexString"], unfollowed := true, recurses := true, named := ["internal/bytealg.MaxLen", "novation/rational.away"], apart := false, laid := [("novation/rational.away", laid_novation_rational_away)], narrowed := true }
def RationalNamesUptoSaid : Prop := rationalNamesUptoRow.holds Tryd.pinned (OpenSpec.upto rationalNamesSpec)

end Rows
end Go.Proofs.YthafdckomhdlbaaDoor
