/-
  No cell of these rows narrows 'for every input' (looked for: loops, veiled, ifaces, maps, wideKeys, modest, calm, conditions, laid).
  DERIVED. THE GIVEN ROWS OF THIS SEAT. 6 by the template 'for every input the law returns true; each argument reads behind the call as it read before'; 0 by the template 'total and deterministic' (their statements: YtpnojgaehafjdaaTotals.lean).
  GIVEN WITH THE SEED: the statements are not yours to turn. If you find one false, say at which input.
  Laid BY PROGRAM, IN A SANDBOX (cutbox-rows.mjs): the forced cells as the released guide's own fill.sh prints them over the translation 5832adbd7cfc1cb6… (all of the seat's roots in one cut). By AI agents, Wed Nov 11 2026. No macro, syntax, notation, axiom, sorry.
-/
import Derived.Test.YtpnojgaehafjdaaChecked
import GoSem.Claim
import GoSem.ClaimJoined
import GoSem.ClaimMapViews
import Derived.JoinedTies
import Derived.KernelRfl
namespace Go.Proofs.Ytpnojgaehafjdaa
/- THE CELL 'sum', in the pinned program and in every row, IS THE sha256 OF THE DUMP (.gsa) THAT YtpnojgaehafjdaaProg.lean LOADS. Nothing in Lean hashes anything: it is a label: what it is worth is what the hold of that sum in a sandbox is worth. -/
noncomputable def Try.pinned : Pinned := { name := "ytpnojgaehafjdaa", sum := "5832adbd7cfc1cb63bf570bf35fcd15643e764fc42e216e4ddcd5d6d3f1db60c", checked := Try.checked }
namespace Rows
def none {H : Type} : Left H := { results := [], args := [] }

/-- 'novationlaw25.CurveBegins': WHATEVER THE INPUT: true; the input reads as it did. -/
def curveBeginsSpec : ChangeSpec := { name := "curveBegins", fn := fun _ => fun
  | [d1, d2, d3] => { results := [.lit (.bool true)], args := [d1, d2, d3] }
  | _ => none }
def curveBeginsRow : OpenClaim := { program := "ytpnojgaehafjdaa", sum := "5832adbd7cfc1cb63bf570bf35fcd15643e764fc42e216e4ddcd5d6d3f1db60c", func := "novation/novationlaw25.CurveBegins", spec := "curveBegins", inPlace := ["internal/bytealg.IndexByteString", "internal/bytealg.IndexString"], unfollowed := true, recurses := true, named := ["internal/bytealg.MaxLen"], apart := false }
def CurveBeginsSaid : Prop := curveBeginsRow.holds Try.pinned (OpenSpec.ofChange curveBeginsSpec)

/-- ITS FALSE NEIGHBOUR: 'it returns false'. Refute it at one input. -/
def curveBeginsWrong : ChangeSpec := { name := "curveBegins", fn := fun _ => fun
  | [d1, d2, d3] => { results := [.lit (.bool false)], args := [d1, d2, d3] }
  | _ => none }
def CurveBeginsWrongFalsely : Prop := curveBeginsRow.holds Try.pinned (OpenSpec.ofChange curveBeginsWrong)

/-- 'novationlaw25.CurveStraight': WHATEVER THE INPUT: true; the input reads as it did. -/
def curveStraightSpec : ChangeSpec := { name := "curveStraight", fn := fun _ => fun
  | [d1, d2, d3, d4] => { results := [.lit (.bool true)], args := [d1, d2, d3, d4] }
  | _ => none }
def curveStraightRow : OpenClaim := { program := "ytpnojgaehafjdaa", sum := "5832adbd7cfc1cb63bf570bf35fcd15643e764fc42e216e4ddcd5d6d3f1db60c", func := "novation/novationlaw25.CurveStraight", spec := "curveStraight", inPlace := ["internal/bytealg.IndexByteString", "internal/bytealg.IndexString"], unfollowed := true, recurses := true, named := ["internal/bytealg.MaxLen"], apart := false }
def CurveStraightSaid : Prop := curveStraightRow.holds Try.pinned (OpenSpec.ofChange curveStraightSpec)

/-- ITS FALSE NEIGHBOUR: 'it returns false'. Refute it at one input. -/
def curveStraightWrong : ChangeSpec := { name := "curveStraight", fn := fun _ => fun
  | [d1, d2, d3, d4] => { results := [.lit (.bool false)], args := [d1, d2, d3, d4] }
  | _ => none }
def CurveStraightWrongFalsely : Prop := curveStraightRow.holds Try.pinned (OpenSpec.ofChange curveStraightWrong)

/-- 'novationlaw25.CurveMoves': WHATEVER THE INPUT: true; the input reads as it did. -/
def curveMovesSpec : ChangeSpec := { name := "curveMoves", fn := fun _ => fun
  | [d1, d2, d3] => { results := [.lit (.bool true)], args := [d1, d2, d3] }
  | _ => none }
def curveMovesRow : OpenClaim := { program := "ytpnojgaehafjdaa", sum := "5832adbd7cfc1cb63bf570bf35fcd15643e764fc42e216e4ddcd5d6d3f1db60c", func := "novation/novationlaw25.CurveMoves", spec := "curveMoves", inPlace := ["internal/bytealg.IndexByteString", "internal/bytealg.IndexString"], unfollowed := true, recurses := true, named := ["internal/bytealg.MaxLen"], apart := false }
def CurveMovesSaid : Prop := curveMovesRow.holds Try.pinned (OpenSpec.ofChange curveMovesSpec)

/-- ITS FALSE NEIGHBOUR: 'it returns false'. Refute it at one input. -/
def curveMovesWrong : ChangeSpec := { name := "curveMoves", fn := fun _ => fun
  | [d1, d2, d3] => { results := [.lit (.bool false)], args := [d1, d2, d3] }
  | _ => none }
def CurveMovesWrongFalsely : Prop := curveMovesRow.holds Try.pinned (OpenSpec.ofChange curveMovesWrong)

/-- 'novationlaw25.CurveMultiplies': WHATEVER THE INPUT: true; the input reads as it did. -/
def curveMultipliesSpec : ChangeSpec := { name := "curveMultiplies", fn := fun _ => fun
  | [d1, d2, d3, d4] => { results := [.lit (.bool true)], args := [d1, d2, d3, d4] }
  | _ => none }
def curveMultipliesRow : OpenClaim := { program := "ytpnojgaehafjdaa", sum := "5832adbd7cfc1cb63bf570bf35fcd15643e764fc42e216e4ddcd5d6d3f1db60c", func := "novation/novationlaw25.CurveMultiplies", spec := "curveMultiplies", inPlace := ["internal/bytealg.IndexByteString", "internal/bytealg.IndexString"], unfollowed := true, recurses := true, named := ["internal/bytealg.MaxLen"], apart := false }
def CurveMultipliesSaid : Prop := curveMultipliesRow.holds Try.pinned (OpenSpec.ofChange curveMultipliesSpec)

/-- ITS FALSE NEIGHBOUR: 'it returns false'. Refute it at one input. -/
def curveMultipliesWrong : ChangeSpec := { name := "curveMultiplies", fn := fun _ => fun
  | [d1, d2, d3, d4] => { results := [.lit (.bool false)], args := [d1, d2, d3, d4] }
  | _ => none }
def CurveMultipliesWrongFalsely : Prop := curveMultipliesRow.holds Try.pinned (OpenSpec.ofChange curveMultipliesWrong)

/-- 'novationlaw25.CurveReprices': WHATEVER THE INPUT: true; the input reads as it did. -/
def curveRepricesSpec : ChangeSpec := { name := "curveReprices", fn := fun _ => fun
  | [d1, d2] => { results := [.lit (.bool true)], args := [d1, d2] }
  | _ => none }
def curveRepricesRow : OpenClaim := { program := "ytpnojgaehafjdaa", sum := "5832adbd7cfc1cb63bf570bf35fcd15643e764fc42e216e4ddcd5d6d3f1db60c", func := "novation/novationlaw25.CurveReprices", spec := "curveReprices", inPlace := ["internal/bytealg.IndexByteString", "internal/bytealg.IndexString"], unfollowed := true, recurses := true, named := ["internal/bytealg.MaxLen"], apart := false }
def CurveRepricesSaid : Prop := curveRepricesRow.holds Try.pinned (OpenSpec.ofChange curveRepricesSpec)

/-- ITS FALSE NEIGHBOUR: 'it returns false'. Refute it at one input. -/
def curveRepricesWrong : ChangeSpec := { name := "curveReprices", fn := fun _ => fun
  | [d1, d2] => { results := [.lit (.bool false)], args := [d1, d2] }
  | _ => none }
def CurveRepricesWrongFalsely : Prop := curveRepricesRow.holds Try.pinned (OpenSpec.ofChange curveRepricesWrong)

/-- 'novationlaw25.CurveNames': WHATEVER THE INPUT: true; the input reads as it did. -/
def curveNamesSpec : ChangeSpec := { name := "curveNames", fn := fun _ => fun
  | [] => { results := [.lit (.bool true)], args := [] }
  | _ => none }
def curveNamesRow : OpenClaim := { program := "ytpnojgaehafjdaa", sum := "5832adbd7cfc1cb63bf570bf35fcd15643e764fc42e216e4ddcd5d6d3f1db60c", func := "novation/novationlaw25.CurveNames", spec := "curveNames", inPlace := ["internal/bytealg.IndexByteString", "internal/bytealg.IndexString"], unfollowed := true, recurses := true, named := ["internal/bytealg.MaxLen"], apart := false }
def CurveNamesSaid : Prop := curveNamesRow.holds Try.pinned (OpenSpec.ofChange curveNamesSpec)

/-- ITS FALSE NEIGHBOUR: 'it returns false'. Refute it at one input. -/
def curveNamesWrong : ChangeSpec := { name := "curveNames", fn := fun _ => fun
  | [] => { results := [.lit (.bool false)], args := [] }
  | _ => none }
def CurveNamesWrongFalsely : Prop := curveNamesRow.holds Try.pinned (OpenSpec.ofChange curveNamesWrong)

/- THE SECOND FORM. 'bulk': how many values and letters a reading holds, each counted each time it is reached (what is shared counts as often as it is met; a slice's spare places count too). A statement '..UptoSaid' is the law's where the arguments, and the package variables that the reading takes, are together of bulk at most 1048576: NARROWER than '..Said'. Prove '..Said' where nothing that the law and all that it calls make is longer than what came in: it says more and counts as full. Else prove '..UptoSaid'. A law counts once. -/
mutual
def uptoBulk {H : Type} : DataW H → Nat
  | .lit (.string bytes) => bytes.length + 1
  | .lit _ => 1
  | .nil => 1
  | .ptr d => uptoBulk d + 1
  | .slice elems spare => uptoBulkAll elems + uptoBulkAll spare + 1
  | .agg parts => uptoBulkAll parts + 1
  | .iface _ d => uptoBulk d + 1
  | .map entries => uptoBulkEntries entries + 1
  | .held _ => 1
def uptoBulkAll {H : Type} : List (DataW H) → Nat
  | [] => 0
  | d :: r => uptoBulk d + uptoBulkAll r
def uptoBulkEntries {H : Type} : List (Lit × DataW H) → Nat
  | [] => 0
  | x :: r => uptoBulkEntry x + uptoBulkEntries r
def uptoBulkEntry {H : Type} : Lit × DataW H → Nat
  | (.string bytes, d) => bytes.length + uptoBulk d + 1
  | (_, d) => uptoBulk d + 1
 end
def uptoSmall : (H : Type) → List (DataW H) → Bool := fun _ ds => decide (uptoBulkAll ds ≤ 1048576)
def OpenSpec.upto (s : _root_.Go.ChangeSpec) : _root_.Go.OpenSpec := { _root_.Go.OpenSpec.ofChange s with cond := some uptoSmall }

/-- 'novationlaw25.CurveBegins', WHERE WHAT IT READS IS OF BULK AT MOST 1048576: true; the input reads as it did. -/
def curveBeginsUptoRow : OpenClaim := { program := "ytpnojgaehafjdaa", sum := "5832adbd7cfc1cb63bf570bf35fcd15643e764fc42e216e4ddcd5d6d3f1db60c", func := "novation/novationlaw25.CurveBegins", spec := "curveBegins", inPlace := ["internal/bytealg.IndexByteString", "internal/bytealg.IndexString"], unfollowed := true, recurses := true, named := ["internal/bytealg.MaxLen"], apart := false, narrowed := true }
def CurveBeginsUptoSaid : Prop := curveBeginsUptoRow.holds Try.pinned (OpenSpec.upto curveBeginsSpec)

/-- 'novationlaw25.CurveStraight', WHERE WHAT IT READS IS OF BULK AT MOST 1048576: true; the input reads as it did. -/
def curveStraightUptoRow : OpenClaim := { program := "ytpnojgaehafjdaa", sum := "5832adbd7cfc1cb63bf570bf35fcd15643e764fc42e216e4ddcd5d6d3f1db60c", func := "novation/novationlaw25.CurveStraight", spec := "curveStraight", inPlace := ["internal/bytealg.IndexByteString", "internal/bytealg.IndexString"], unfollowed := true, recurses := true, named := ["internal/bytealg.MaxLen"], apart := false, narrowed := true }
def CurveStraightUptoSaid : Prop := curveStraightUptoRow.holds Try.pinned (OpenSpec.upto curveStraightSpec)

/-- 'novationlaw25.CurveMoves', WHERE WHAT IT READS IS OF BULK AT MOST 1048576: true; the input reads as it did. -/
def curveMovesUptoRow : OpenClaim := { program := "ytpnojgaehafjdaa", sum := "5832adbd7cfc1cb63bf570bf35fcd15643e764fc42e216e4ddcd5d6d3f1db60c", func := "novation/novationlaw25.CurveMoves", spec := "curveMoves", inPlace := ["internal/bytealg.IndexByteString", "internal/bytealg.IndexString"], unfollowed := true, recurses := true, named := ["internal/bytealg.MaxLen"], apart := false, narrowed := true }
def CurveMovesUptoSaid : Prop := curveMovesUptoRow.holds Try.pinned (OpenSpec.upto curveMovesSpec)

/-- 'novationlaw25.CurveMultiplies', WHERE WHAT IT READS IS OF BULK AT MOST 1048576: true; the input reads as it did. -/
def curveMultipliesUptoRow : OpenClaim := { program := "ytpnojgaehafjdaa", sum := "5832adbd7cfc1cb63bf570bf35fcd15643e764fc42e216e4ddcd5d6d3f1db60c", func := "novation/novationlaw25.CurveMultiplies", spec := "curveMultiplies", inPlace := ["internal/bytealg.IndexByteString", "internal/bytealg.IndexString"], unfollowed := true, recurses := true, named := ["internal/bytealg.MaxLen"], apart := false, narrowed := true }
def CurveMultipliesUptoSaid : Prop := curveMultipliesUptoRow.holds Try.pinned (OpenSpec.upto curveMultipliesSpec)

/-- 'novationlaw25.CurveReprices', WHERE WHAT IT READS IS OF BULK AT MOST 1048576: true; the input reads as it did. -/
def curveRepricesUptoRow : OpenClaim := { program := "ytpnojgaehafjdaa", sum := "5832adbd7cfc1cb63bf570bf35fcd15643e764fc42e216e4ddcd5d6d3f1db60c", func := "novation/novationlaw25.CurveReprices", spec := "curveReprices", inPlace := ["internal/bytealg.IndexByteString", "internal/bytealg.IndexString"], unfollowed := true, recurses := true, named := ["internal/bytealg.MaxLen"], apart := false, narrowed := true }
def CurveRepricesUptoSaid : Prop := curveRepricesUptoRow.holds Try.pinned (OpenSpec.upto curveRepricesSpec)

/-- 'novationlaw25.CurveNames', WHERE WHAT IT READS IS OF BULK AT MOST 1048576: true; the input reads as it did. -/
def curveNamesUptoRow : OpenClaim := { program := "ytpnojgaehafjdaa", sum := "5832adbd7cfc1cb63bf570bf35fcd15643e764fc42e216e4ddcd5d6d3f1db60c", func := "novation/novationlaw25.CurveNames", spec := "curveNames", inPlace := ["internal/bytealg.IndexByteString", "internal/bytealg.IndexString"], unfollowed := true, recurses := true, named := ["internal/bytealg.MaxLen"], apart := false, narrowed := true }
def CurveNamesUptoSaid : Prop := curveNamesUptoRow.holds Try.pinned (OpenSpec.upto curveNamesSpec)

end Rows
end Go.Proofs.Ytpnojgaehafjdaa
