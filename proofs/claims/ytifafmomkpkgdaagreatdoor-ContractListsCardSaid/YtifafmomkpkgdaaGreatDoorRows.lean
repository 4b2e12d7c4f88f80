/-
  NARROWER THAN 'FOR EVERY INPUT', by the rows' own cells (each row's printed sentence says how): ContractLists: loops, laid.
  DERIVED. THE GIVEN ROWS OF THIS SEAT. 1 by the template 'for every input the law returns true; each argument reads behind the call as it read before'; 0 by the template 'total and deterministic' (their statements: YtifafmomkpkgdaaGreatDoorTotals.lean).
  GIVEN WITH THE SEED: the statements are not yours to turn. If you find one false, say at which input.
  Laid BY PROGRAM, IN A SANDBOX (cutbox-rows.mjs): the forced cells as the released guide's own fill.sh prints them over the translation d226d095ec8c8507… (all of the seat's roots in one cut). By AI agents, Wed Nov 11 2026. No macro, syntax, notation, axiom, sorry.
-/
import Derived.Test.YtifafmomkpkgdaaGreatDoorChecked
import GoSem.Claim
import GoSem.ClaimJoined
import GoSem.ClaimMapViews
import Derived.JoinedTies
import Derived.KernelRfl
namespace Go.Proofs.YtifafmomkpkgdaaGreatDoor
/- THE CELL 'sum', in the pinned program and in every row, IS THE sha256 OF THE DUMP (.gsa) THAT YtifafmomkpkgdaaGreatDoorProg.lean LOADS. Nothing in Lean hashes anything: it is a label: what it is worth is what the hold of that sum in a sandbox is worth. -/
noncomputable def Tryz.pinned : Pinned := { name := "ytifafmomkpkgdaagreatdoor", sum := "d226d095ec8c85072d1a2929aaf6f39ec61c4e533a407ab7b6beae71b26fd192", checked := Tryz.checked }
namespace Rows
def none {H : Type} : Left H := { results := [], args := [] }

/- WHAT THE LISTED PACKAGE-LEVEL VARIABLES READ AS WHEN THE CALL BEGINS. Each datum BY PROGRAM (the guide's laid-datum.mjs) off the statement by which the dump's own 'gosem.cut.vars' lays the variable. In a bare row this is a premise. The card (YtifafmomkpkgdaaGreatDoorCards.lean) ties it to the program's text. -/
def laid_novation_observable_shapes {H : Type} : DataW H := .map [(.int .u8 4, .agg [.slice [.lit (.int .u8 1), .lit (.int .u8 1)] [], .lit (.int .u8 1)]), (.int .u8 5, .agg [.slice [.lit (.int .u8 1), .lit (.int .u8 1)] [], .lit (.int .u8 1)]), (.int .u8 6, .agg [.slice [.lit (.int .u8 1), .lit (.int .u8 1)] [], .lit (.int .u8 1)]), (.int .u8 7, .agg [.slice [.lit (.int .u8 1), .lit (.int .u8 1)] [], .lit (.int .u8 1)]), (.int .u8 8, .agg [.slice [.lit (.int .u8 1), .lit (.int .u8 1)] [], .lit (.int .u8 1)]), (.int .u8 9, .agg [.slice [.lit (.int .u8 2), .lit (.int .u8 1), .lit (.int .u8 1)] [], .lit (.int .u8 1)]), (.int .u8 11, .agg [.slice [.lit (.int .u8 1), .lit (.int .u8 1)] [], .lit (.int .u8 2)]), (.int .u8 12, .agg [.slice [.lit (.int .u8 1), .lit (.int .u8 1)] [], .lit (.int .u8 2)]), (.int .u8 13, .agg [.slice [.lit (.int .u8 2), .lit (.int .u8 2)] [], .lit (.int .u8 2)]), (.int .u8 14, .agg [.slice [.lit (.int .u8 2), .lit (.int .u8 2)] [], .lit (.int .u8 2)]), (.int .u8 15, .agg [.slice [.lit (.int .u8 2)] [], .lit (.int .u8 2)])]
def laid_novation_contract_parts {H : Type} : DataW H := .map [(.int .u8 1, .lit (.int .i64 0)), (.int .u8 2, .lit (.int .i64 15)), (.int .u8 3, .lit (.int .i64 256)), (.int .u8 4, .lit (.int .i64 136)), (.int .u8 5, .lit (.int .i64 272)), (.int .u8 6, .lit (.int .i64 160)), (.int .u8 7, .lit (.int .i64 261)), (.int .u8 8, .lit (.int .i64 197)), (.int .u8 9, .lit (.int .i64 208)), (.int .u8 10, .lit (.int .i64 208))]

/-- 'novationlaw09.ContractLists': WHATEVER THE INPUT: true; the input reads as it did. -/
def contractListsSpec : ChangeSpec := { name := "contractLists", fn := fun _ => fun
  | [d] => { results := [.lit (.bool true)], args := [d] }
  | _ => none }
def contractListsRow : OpenClaim := { program := "ytifafmomkpkgdaagreatdoor", sum := "d226d095ec8c85072d1a2929aaf6f39ec61c4e533a407ab7b6beae71b26fd192", func := "novation/novationlaw09.ContractLists", spec := "contractLists", inPlace := ["internal/bytealg.IndexByteString", "internal/bytealg.IndexString"], unfollowed := true, recurses := true, named := ["novation/contract.parts", "novation/observable.shapes", "internal/bytealg.MaxLen"], loops := true, apart := false, laid := [("novation/observable.shapes", laid_novation_observable_shapes), ("novation/contract.parts", laid_novation_contract_parts)] }
def ContractListsSaid : Prop := contractListsRow.holds Tryz.pinned (OpenSpec.ofChange contractListsSpec)

/-- ITS FALSE NEIGHBOUR: 'it returns false'. Refute it at one input. -/
def contractListsWrong : ChangeSpec := { name := "contractLists", fn := fun _ => fun
  | [d] => { results := [.lit (.bool false)], args := [d] }
  | _ => none }
def ContractListsWrongFalsely : Prop := contractListsRow.holds Tryz.pinned (OpenSpec.ofChange contractListsWrong)

/- THE SECOND FORM. 'bulk': how many values and letters a reading holds, each counted each time it is reached (what is shared counts as often as it is met; a slice's spare places count too). A statement '..UptoSaid' is the law's where the arguments, and the package variables that the reading takes, are together of bulk at most 1048576: NARROWER than '..Said'. Prove '..Said' where nothing that the law and all that it calls make is longer than what came in: it says more and counts as full. Else prove '..UptoSaid'. A law counts once. -/
mutual
def uptoBulk {H : Type} : DataW H → Nat
  | .lit (.string bytes) => bytes.length + 1
  | .lit _ => 1
  | .nil => 1
  | .ptr d => uptoBulk d + 1
  | .slice elems spare => uptoBulkAll elems + uptoBulkAll spare + 1
  | .agg parts => uptoBulkAll parts + 1
  | .iface _ d => uptoBulk d + 1
  | .map entries => uptoBulkEntries entries + 1
  | .held _ => 1
def uptoBulkAll {H : Type} : List (DataW H) → Nat
  | [] => 0
  | d :: r => uptoBulk d + uptoBulkAll r
def uptoBulkEntries {H : Type} : List (Lit × DataW H) → Nat
  | [] => 0
  | x :: r => uptoBulkEntry x + uptoBulkEntries r
def uptoBulkEntry {H : Type} : Lit × DataW H → Nat
  | (.string bytes, d) => bytes.length + uptoBulk d + 1
  | (_, d) => uptoBulk d + 1
 end
def uptoSmall : (H : Type) → List (DataW H) → Bool := fun _ ds => decide (uptoBulkAll ds ≤ 1048576)
def OpenSpec.upto (s : _root_.Go.ChangeSpec) : _root_.Go.OpenSpec := { _root_.Go.OpenSpec.ofChange s with cond := some uptoSmall }

/-- 'novationlaw09.ContractLists', WHERE WHAT IT READS IS OF BULK AT MOST 1048576: true; the input reads as it did. -/
def contractListsUptoRow : OpenClaim := { program := "ytifafmomkpkgdaagreatdoor", sum := "d226d095ec8c85072d1a2929aaf6f39ec61c4e533a407ab7b6beae71b26fd192", func := "novation/novationlaw09.ContractLists", spec := "contractLists", inPlace := ["internal/bytealg.IndexByteString", "internal/bytealg.IndexString"], unfollowed := true, recurses := true, named := ["novation/contract.parts", "novation/observable.shapes", "internal/bytealg.MaxLen"], loops := true, apart := false, laid := [("novation/observable.shapes", laid_novation_observable_shapes), ("novation/contract.parts", laid_novation_contract_parts)], narrowed := true }
def ContractListsUptoSaid : Prop := contractListsUptoRow.holds Tryz.pinned (OpenSpec.upto contractListsSpec)

end Rows
end Go.Proofs.YtifafmomkpkgdaaGreatDoor
