/-
  NARROWER THAN 'FOR EVERY INPUT', by the rows' own cells (each row's printed sentence says how): ContractBuilds: loops, laid · ContractSame: loops, laid · ContractChecks: loops, laid · ContractParts: loops, laid · ContractOrder: loops, laid · ContractNames: laid.
  DERIVED. THE GIVEN ROWS OF THIS SEAT. 6 by the template 'for every input the law returns true; each argument reads behind the call as it read before'; 0 by the template 'total and deterministic' (their statements: YtifafmomkpkgdaaDoorTotals.lean).
  GIVEN WITH THE SEED: the statements are not yours to turn. If you find one false, say at which input.
  Laid BY PROGRAM, IN A SANDBOX (cutbox-rows.mjs): the forced cells as the released guide's own fill.sh prints them over the translation 15268edfb118e3b4… (all of the seat's roots in one cut). By AI agents, Wed Nov 11 2026. No macro, syntax, notation, axiom, sorry.
-/
import Derived.Test.YtifafmomkpkgdaaDoorChecked
import GoSem.Claim
import GoSem.ClaimJoined
import GoSem.ClaimMapViews
import Derived.JoinedTies
import Derived.KernelRfl
namespace Go.Proofs.YtifafmomkpkgdaaDoor
/- THE CELL 'sum', in the pinned program and in every row, IS THE sha256 OF THE DUMP (.gsa) THAT YtifafmomkpkgdaaDoorProg.lean LOADS. Nothing in Lean hashes anything: it is a label: what it is worth is what the hold of that sum in a sandbox is worth. -/
noncomputable def Tryd.pinned : Pinned := { name := "ytifafmomkpkgdaadoor", sum := "15268edfb118e3b4f8d9dcd32301f4cf0782accde4f465588e602f73bd9887bc", checked := Tryd.checked }
namespace Rows
def none {H : Type} : Left H := { results := [], args := [] }

/- WHAT THE LISTED PACKAGE-LEVEL VARIABLES READ AS WHEN THE CALL BEGINS. Each datum BY PROGRAM (the guide's laid-datum.mjs) off the statement by which the dump's own 'gosem.cut.vars' lays the variable. In a bare row this is a premise. The card (YtifafmomkpkgdaaDoorCards.lean) ties it to the program's text. -/
def laid_novation_observable_shapes {H : Type} : DataW H := .map [(.int .u8 4, .agg [.slice [.lit (.int .u8 1), .lit (.int .u8 1)] [], .lit (.int .u8 1)]), (.int .u8 5, .agg [.slice [.lit (.int .u8 1), .lit (.int .u8 1)] [], .lit (.int .u8 1)]), (.int .u8 6, .agg [.slice [.lit (.int .u8 1), .lit (.int .u8 1)] [], .lit (.int .u8 1)]), (.int .u8 7, .agg [.slice [.lit (.int .u8 1), .lit (.int .u8 1)] [], .lit (.int .u8 1)]), (.int .u8 8, .agg [.slice [.lit (.int .u8 1), .lit (.int .u8 1)] [], .lit (.int .u8 1)]), (.int .u8 9, .agg [.slice [.lit (.int .u8 2), .lit (.int .u8 1), .lit (.int .u8 1)] [], .lit (.int .u8 1)]), (.int .u8 11, .agg [.slice [.lit (.int .u8 1), .lit (.int .u8 1)] [], .lit (.int .u8 2)]), (.int .u8 12, .agg [.slice [.lit (.int .u8 1), .lit (.int .u8 1)] [], .lit (.int .u8 2)]), (.int .u8 13, .agg [.slice [.lit (.int .u8 2), .lit (.int .u8 2)] [], .lit (.int .u8 2)]), (.int .u8 14, .agg [.slice [.lit (.int .u8 2), .lit (.int .u8 2)] [], .lit (.int .u8 2)]), (.int .u8 15, .agg [.slice [.lit (.int .u8 2)] [], .lit (.int .u8 2)])]
def laid_novation_contract_parts {H : Type} : DataW H := .map [(.int .u8 1, .lit (.int .i64 0)), (.int .u8 2, .lit (.int .i64 15)), (.int .u8 3, .lit (.int .i64 256)), (.int .u8 4, .lit (.int .i64 136)), (.int .u8 5, .lit (.int .i64 272)), (.int .u8 6, .lit (.int .i64 160)), (.int .u8 7, .lit (.int .i64 261)), (.int .u8 8, .lit (.int .i64 197)), (.int .u8 9, .lit (.int .i64 208)), (.int .u8 10, .lit (.int .i64 208))]

/-- 'novationlaw09.ContractBuilds': WHATEVER THE INPUT: true; the input reads as it did. -/
def contractBuildsSpec : ChangeSpec := { name := "contractBuilds", fn := fun _ => fun
  | [d1, d2, d3, d4, d5, d6, d7, d8] => { results := [.lit (.bool true)], args := [d1, d2, d3, d4, d5, d6, d7, d8] }
  | _ => none }
def contractBuildsRow : OpenClaim := { program := "ytifafmomkpkgdaadoor", sum := "15268edfb118e3b4f8d9dcd32301f4cf0782accde4f465588e602f73bd9887bc", func := "novation/novationlaw09.ContractBuilds", spec := "contractBuilds", inPlace := ["internal/bytealg.IndexByteString", "internal/bytealg.IndexString"], unfollowed := true, recurses := true, named := ["novation/contract.parts", "novation/observable.shapes", "internal/bytealg.MaxLen"], loops := true, apart := false, laid := [("novation/observable.shapes", laid_novation_observable_shapes), ("novation/contract.parts", laid_novation_contract_parts)] }
def ContractBuildsSaid : Prop := contractBuildsRow.holds Tryd.pinned (OpenSpec.ofChange contractBuildsSpec)

/-- ITS FALSE NEIGHBOUR: 'it returns false'. Refute it at one input. -/
def contractBuildsWrong : ChangeSpec := { name := "contractBuilds", fn := fun _ => fun
  | [d1, d2, d3, d4, d5, d6, d7, d8] => { results := [.lit (.bool false)], args := [d1, d2, d3, d4, d5, d6, d7, d8] }
  | _ => none }
def ContractBuildsWrongFalsely : Prop := contractBuildsRow.holds Tryd.pinned (OpenSpec.ofChange contractBuildsWrong)

/-- 'novationlaw09.ContractSame': WHATEVER THE INPUT: true; the input reads as it did. -/
def contractSameSpec : ChangeSpec := { name := "contractSame", fn := fun _ => fun
  | [d1, d2] => { results := [.lit (.bool true)], args := [d1, d2] }
  | _ => none }
def contractSameRow : OpenClaim := { program := "ytifafmomkpkgdaadoor", sum := "15268edfb118e3b4f8d9dcd32301f4cf0782accde4f465588e602f73bd9887bc", func := "novation/novationlaw09.ContractSame", spec := "contractSame", inPlace := ["internal/bytealg.IndexByteString", "internal/bytealg.IndexString"], unfollowed := true, recurses := true, named := ["novation/contract.parts", "novation/observable.shapes", "internal/bytealg.MaxLen"], loops := true, apart := false, laid := [("novation/observable.shapes", laid_novation_observable_shapes), ("novation/contract.parts", laid_novation_contract_parts)] }
def ContractSameSaid : Prop := contractSameRow.holds Tryd.pinned (OpenSpec.ofChange contractSameSpec)

/-- ITS FALSE NEIGHBOUR: 'it returns false'. Refute it at one input. -/
def contractSameWrong : ChangeSpec := { name := "contractSame", fn := fun _ => fun
  | [d1, d2] => { results := [.lit (.bool false)], args := [d1, d2] }
  | _ => none }
def ContractSameWrongFalsely : Prop := contractSameRow.holds Tryd.pinned (OpenSpec.ofChange contractSameWrong)

/-- 'novationlaw09.ContractChecks': WHATEVER THE INPUT: true; the input reads as it did. -/
def contractChecksSpec : ChangeSpec := { name := "contractChecks", fn := fun _ => fun
  | [d1, d2] => { results := [.lit (.bool true)], args := [d1, d2] }
  | _ => none }
def contractChecksRow : OpenClaim := { program := "ytifafmomkpkgdaadoor", sum := "15268edfb118e3b4f8d9dcd32301f4cf0782accde4f465588e602f73bd9887bc", func := "novation/novationlaw09.ContractChecks", spec := "contractChecks", inPlace := ["internal/bytealg.IndexByteString", "internal/bytealg.IndexString"], unfollowed := true, recurses := true, named := ["novation/contract.parts", "novation/observable.shapes", "internal/bytealg.MaxLen"], loops := true, apart := false, laid := [("novation/observable.shapes", laid_novation_observable_shapes), ("novation/contract.parts", laid_novation_contract_parts)] }
def ContractChecksSaid : Prop := contractChecksRow.holds Tryd.pinned (OpenSpec.ofChange contractChecksSpec)

/-- ITS FALSE NEIGHBOUR: 'it returns false'. Refute it at one input. -/
def contractChecksWrong : ChangeSpec := { name := "contractChecks", fn := fun _ => fun
  | [d1, d2] => { results := [.lit (.bool false)], args := [d1, d2] }
  | _ => none }
def ContractChecksWrongFalsely : Prop := contractChecksRow.holds Tryd.pinned (OpenSpec.ofChange contractChecksWrong)

/-- 'novationlaw09.ContractParts': WHATEVER THE INPUT: true; the input reads as it did. -/
def contractPartsSpec : ChangeSpec := { name := "contractParts", fn := fun _ => fun
  | [d] => { results := [.lit (.bool true)], args := [d] }
  | _ => none }
def contractPartsRow : OpenClaim := { program := "ytifafmomkpkgdaadoor", sum := "15268edfb118e3b4f8d9dcd32301f4cf0782accde4f465588e602f73bd9887bc", func := "novation/novationlaw09.ContractParts", spec := "contractParts", inPlace := ["internal/bytealg.IndexByteString", "internal/bytealg.IndexString"], unfollowed := true, recurses := true, named := ["novation/contract.parts", "novation/observable.shapes", "internal/bytealg.MaxLen"], loops := true, apart := false, laid := [("novation/observable.shapes", laid_novation_observable_shapes), ("novation/contract.parts", laid_novation_contract_parts)] }
def ContractPartsSaid : Prop := contractPartsRow.holds Tryd.pinned (OpenSpec.ofChange contractPartsSpec)

/-- ITS FALSE NEIGHBOUR: 'it returns false'. Refute it at one input. -/
def contractPartsWrong : ChangeSpec := { name := "contractParts", fn := fun _ => fun
  | [d] => { results := [.lit (.bool false)], args := [d] }
  | _ => none }
def ContractPartsWrongFalsely : Prop := contractPartsRow.holds Tryd.pinned (OpenSpec.ofChange contractPartsWrong)

/-- 'novationlaw09.ContractOrder': WHATEVER THE INPUT: true; the input reads as it did. -/
def contractOrderSpec : ChangeSpec := { name := "contractOrder", fn := fun _ => fun
  | [d] => { results := [.lit (.bool true)], args := [d] }
  | _ => none }
def contractOrderRow : OpenClaim := { program := "ytifafmomkpkgdaadoor", sum := "15268edfb118e3b4f8d9dcd32301f4cf0782accde4f465588e602f73bd9887bc", func := "novation/novationlaw09.ContractOrder", spec := "contractOrder", inPlace := ["internal/bytealg.IndexByteString", "internal/bytealg.IndexString"], unfollowed := true, recurses := true, named := ["novation/contract.parts", "novation/observable.shapes", "internal/bytealg.MaxLen"], loops := true, apart := false, laid := [("novation/observable.shapes", laid_novation_observable_shapes), ("novation/contract.parts", laid_novation_contract_parts)] }
def ContractOrderSaid : Prop := contractOrderRow.holds Tryd.pinned (OpenSpec.ofChange contractOrderSpec)

/-- ITS FALSE NEIGHBOUR: 'it returns false'. Refute it at one input. -/
def contractOrderWrong : ChangeSpec := { name := "contractOrder", fn := fun _ => fun
  | [d] => { results := [.lit (.bool false)], args := [d] }
  | _ => none }
def ContractOrderWrongFalsely : Prop := contractOrderRow.holds Tryd.pinned (OpenSpec.ofChange contractOrderWrong)

/-- 'novationlaw09.ContractNames': WHATEVER THE INPUT: true; the input reads as it did. -/
def contractNamesSpec : ChangeSpec := { name := "contractNames", fn := fun _ => fun
  | [] => { results := [.lit (.bool true)], args := [] }
  | _ => none }
def contractNamesRow : OpenClaim := { program := "ytifafmomkpkgdaadoor", sum := "15268edfb118e3b4f8d9dcd32301f4cf0782accde4f465588e602f73bd9887bc", func := "novation/novationlaw09.ContractNames", spec := "contractNames", inPlace := ["internal/bytealg.IndexByteString", "internal/bytealg.IndexString"], unfollowed := true, recurses := true, named := ["novation/contract.parts", "novation/observable.shapes", "internal/bytealg.MaxLen"], apart := false, laid := [("novation/observable.shapes", laid_novation_observable_shapes), ("novation/contract.parts", laid_novation_contract_parts)] }
def ContractNamesSaid : Prop := contractNamesRow.holds Tryd.pinned (OpenSpec.ofChange contractNamesSpec)

/-- ITS FALSE NEIGHBOUR: 'it returns false'. Refute it at one input. -/
def contractNamesWrong : ChangeSpec := { name := "contractNames", fn := fun _ => fun
  | [] => { results := [.lit (.bool false)], args := [] }
  | _ => none }
def ContractNamesWrongFalsely : Prop := contractNamesRow.holds Tryd.pinned (OpenSpec.ofChange contractNamesWrong)

/- THE SECOND FORM. 'bulk': how many values and letters a reading holds, each counted each time it is reached (what is shared counts as often as it is met; a slice's spare places count too). A statement '..UptoSaid' is the law's where the arguments, and the package variables that the reading takes, are together of bulk at most 1048576: NARROWER than '..Said'. Prove '..Said' where nothing that the law and all that it calls make is longer than what came in: it says more and counts as full. Else prove '..UptoSaid'. A law counts once. -/
mutual
def uptoBulk {H : Type} : DataW H → Nat
  | .lit (.string bytes) => bytes.length + 1
  | .lit _ => 1
  | .nil => 1
  | .ptr d => uptoBulk d + 1
  | .slice elems spare => uptoBulkAll elems + uptoBulkAll spare + 1
  | .agg parts => uptoBulkAll parts + 1
  | .iface _ d => uptoBulk d + 1
  | .map entries => uptoBulkEntries entries + 1
  | .held _ => 1
def uptoBulkAll {H : Type} : List (DataW H) → Nat
  | [] => 0
  | d :: r => uptoBulk d + uptoBulkAll r
def uptoBulkEntries {H : Type} : List (Lit × DataW H) → Nat
  | [] => 0
  | x :: r => uptoBulkEntry x + uptoBulkEntries r
def uptoBulkEntry {H : Type} : Lit × DataW H → Nat
  | (.string bytes, d) => bytes.length + uptoBulk d + 1
  | (_, d) => uptoBulk d + 1
 end
def uptoSmall : (H : Type) → List (DataW H) → Bool := fun _ ds => decide (uptoBulkAll ds ≤ 1048576)
def OpenSpec.upto (s : _root_.Go.ChangeSpec) : _root_.Go.OpenSpec := { _root_.Go.OpenSpec.ofChange s with cond := some uptoSmall }

/-- 'novationlaw09.ContractBuilds', WHERE WHAT IT READS IS OF BULK AT MOST 1048576: true; the input reads as it did. -/
def contractBuildsUptoRow : OpenClaim := { program := "ytifafmomkpkgdaadoor", sum := "15268edfb118e3b4f8d9dcd32301f4cf0782accde4f465588e602f73bd9887bc", func := "novation/novationlaw09.ContractBuilds", spec := "contractBuilds", inPlace := ["internal/bytealg.IndexByteString", "internal/bytealg.IndexString"], unfollowed := true, recurses := true, named := ["novation/contract.parts", "novation/observable.shapes", "internal/bytealg.MaxLen"], loops := true, apart := false, laid := [("novation/observable.shapes", laid_novation_observable_shapes), ("novation/contract.parts", laid_novation_contract_parts)], narrowed := true }
def ContractBuildsUptoSaid : Prop := contractBuildsUptoRow.holds Tryd.pinned (OpenSpec.upto contractBuildsSpec)

/-- 'novationlaw09.ContractSame', WHERE WHAT IT READS IS OF BULK AT MOST 1048576: true; the input reads as it did. -/
def contractSameUptoRow : OpenClaim := { program := "ytifafmomkpkgdaadoor", sum := "15268edfb118e3b4f8d9dcd32301f4cf0782accde4f465588e602f73bd9887bc", func := "novation/novationlaw09.ContractSame", spec := "contractSame", inPlace := ["internal/bytealg.IndexByteString", "internal/bytealg.IndexString"], unfollowed := true, recurses := true, named := ["novation/contract.parts", "novation/observable.shapes", "internal/bytealg.MaxLen"], loops := true, apart := false, laid := [("novation/observable.shapes", laid_novation_observable_shapes), ("novation/contract.parts", laid_novation_contract_parts)], narrowed := true }
def ContractSameUptoSaid : Prop := contractSameUptoRow.holds Tryd.pinned (OpenSpec.upto contractSameSpec)

/-- 'novationlaw09.ContractChecks', WHERE WHAT IT READS IS OF BULK AT MOST 1048576: true; the input reads as it did. -/
def contractChecksUptoRow : OpenClaim := { program := "ytifafmomkpkgdaadoor", sum := "15268edfb118e3b4f8d9dcd32301f4cf0782accde4f465588e602f73bd9887bc", func := "novation/novationlaw09.ContractChecks", spec := "contractChecks", inPlace := ["internal/bytealg.IndexByteString", "internal/bytealg.IndexString"], unfollowed := true, recurses := true, named := ["novation/contract.parts", "novation/observable.shapes", "internal/bytealg.MaxLen"], loops := true, apart := false, laid := [("novation/observable.shapes", laid_novation_observable_shapes), ("novation/contract.parts", laid_novation_contract_parts)], narrowed := true }
def ContractChecksUptoSaid : Prop := contractChecksUptoRow.holds Tryd.pinned (OpenSpec.upto contractChecksSpec)

/-- 'novationlaw09.ContractParts', WHERE WHAT IT READS IS OF BULK AT MOST 1048576: true; the input reads as it did. -/
def contractPartsUptoRow : OpenClaim := { program := "ytifafmomkpkgdaadoor", sum := "15268edfb118e3b4f8d9dcd32301f4cf0782accde4f465588e602f73bd9887bc", func := "novation/novationlaw09.ContractParts", spec := "contractParts", inPlace := ["internal/bytealg.IndexByteString", "internal/bytealg.IndexString"], unfollowed := true, recurses := true, named := ["novation/contract.parts", "novation/observable.shapes", "internal/bytealg.MaxLen"], loops := true, apart := false, laid := [("novation/observable.shapes", laid_novation_observable_shapes), ("novation/contract.parts", laid_novation_contract_parts)], narrowed := true }
def ContractPartsUptoSaid : Prop := contractPartsUptoRow.holds Tryd.pinned (OpenSpec.upto contractPartsSpec)

/-- 'novationlaw09.ContractOrder', WHERE WHAT IT READS IS OF BULK AT MOST 1048576: true; the input reads as it did. -/
def contractOrderUptoRow : OpenClaim := { program := "ytifafmomkpkgdaadoor", sum := "15268edfb118e3b4f8d9dcd32301f4cf0782accde4f465588e602f73bd9887bc", func := "novation/novationlaw09.ContractOrder", spec := "contractOrder", inPlace := ["internal/bytealg.IndexByteString", "internal/bytealg.IndexString"], unfollowed := true, recurses := true, named := ["novation/contract.parts", "novation/observable.shapes", "internal/bytealg.MaxLen"], loops := true, apart := false, laid := [("novation/observable.shapes", laid_novation_observable_shapes), ("novation/contract.parts", laid_novation_contract_parts)], narrowed := true }
def ContractOrderUptoSaid : Prop := contractOrderUptoRow.holds Tryd.pinned (OpenSpec.upto contractOrderSpec)

/-- 'novationlaw09.ContractNames', WHERE WHAT IT READS IS OF BULK AT MOST 1048576: true; the input reads as it did. -/
def contractNamesUptoRow : OpenClaim := { program := "ytifafmomkpkgdaadoor", sum := "15268edfb118e3b4f8d9dcd32301f4cf0782accde4f465588e602f73bd9887bc", func := "novation/novationlaw09.ContractNames", spec := "contractNames", inPlace := ["internal/bytealg.IndexByteString", "internal/bytealg.IndexString"], unfollowed := true, recurses := true, named := ["novation/contract.parts", "novation/observable.shapes", "internal/bytealg.MaxLen"], apart := false, laid := [("novation/observable.shapes", laid_novation_observable_shapes), ("novation/contract.parts", laid_novation_contract_parts)], narrowed := true }
def ContractNamesUptoSaid : Prop := contractNamesUptoRow.holds Tryd.pinned (OpenSpec.upto contractNamesSpec)

end Rows
end Go.Proofs.YtifafmomkpkgdaaDoor
