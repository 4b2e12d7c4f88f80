/-
  No cell of these rows narrows 'for every input' (looked for: loops, veiled, ifaces, maps, wideKeys, modest, calm, conditions, laid).
  DERIVED. THE GIVEN ROWS OF THIS SEAT. 8 by the template 'for every input the law returns true; each argument reads behind the call as it read before'; 0 by the template 'total and deterministic' (their statements: YtdjghmpaopfboaaTotals.lean).
  GIVEN WITH THE SEED: the statements are not yours to turn. If you find one false, say at which input.
  Laid BY PROGRAM, IN A SANDBOX (cutbox-rows.mjs): the forced cells as the released guide's own fill.sh prints them over the translation 73a33941f49f3200… (all of the seat's roots in one cut). By AI agents, Wed Nov 11 2026. No macro, syntax, notation, axiom, sorry.
-/
import Derived.Test.YtdjghmpaopfboaaChecked
import GoSem.Claim
import GoSem.ClaimJoined
import GoSem.ClaimMapViews
import Derived.JoinedTies
import Derived.KernelRfl
namespace Go.Proofs.Ytdjghmpaopfboaa
/- THE CELL 'sum', in the pinned program and in every row, IS THE sha256 OF THE DUMP (.gsa) THAT YtdjghmpaopfboaaProg.lean LOADS. Nothing in Lean hashes anything: it is a label: what it is worth is what the hold of that sum in a sandbox is worth. -/
noncomputable def Try.pinned : Pinned := { name := "ytdjghmpaopfboaa", sum := "73a33941f49f32001c187902487dda393864e54a98633d7c95680e0483ff34a0", checked := Try.checked }
namespace Rows
def none {H : Type} : Left H := { results := [], args := [] }

/-- 'novationlaw23.ClaimUpdates': WHATEVER THE INPUT: true; the input reads as it did. -/
def claimUpdatesSpec : ChangeSpec := { name := "claimUpdates", fn := fun _ => fun
  | [d1, d2, d3] => { results := [.lit (.bool true)], args := [d1, d2, d3] }
  | _ => none }
def claimUpdatesRow : OpenClaim := { program := "ytdjghmpaopfboaa", sum := "73a33941f49f32001c187902487dda393864e54a98633d7c95680e0483ff34a0", func := "novation/novationlaw23.ClaimUpdates", spec := "claimUpdates", inPlace := ["internal/bytealg.IndexByteString", "internal/bytealg.IndexString"], unfollowed := true, recurses := true, named := ["internal/bytealg.MaxLen"], plainKeys := false, apart := false }
def ClaimUpdatesSaid : Prop := claimUpdatesRow.holds Try.pinned (OpenSpec.ofChange claimUpdatesSpec)

/-- ITS FALSE NEIGHBOUR: 'it returns false'. Refute it at one input. -/
def claimUpdatesWrong : ChangeSpec := { name := "claimUpdates", fn := fun _ => fun
  | [d1, d2, d3] => { results := [.lit (.bool false)], args := [d1, d2, d3] }
  | _ => none }
def ClaimUpdatesWrongFalsely : Prop := claimUpdatesRow.holds Try.pinned (OpenSpec.ofChange claimUpdatesWrong)

/-- 'novationlaw23.ClaimTells': WHATEVER THE INPUT: true; the input reads as it did. -/
def claimTellsSpec : ChangeSpec := { name := "claimTells", fn := fun _ => fun
  | [d1, d2, d3] => { results := [.lit (.bool true)], args := [d1, d2, d3] }
  | _ => none }
def claimTellsRow : OpenClaim := { program := "ytdjghmpaopfboaa", sum := "73a33941f49f32001c187902487dda393864e54a98633d7c95680e0483ff34a0", func := "novation/novationlaw23.ClaimTells", spec := "claimTells", inPlace := ["internal/bytealg.IndexByteString", "internal/bytealg.IndexString"], unfollowed := true, recurses := true, named := ["internal/bytealg.MaxLen"], plainKeys := false, apart := false }
def ClaimTellsSaid : Prop := claimTellsRow.holds Try.pinned (OpenSpec.ofChange claimTellsSpec)

/-- ITS FALSE NEIGHBOUR: 'it returns false'. Refute it at one input. -/
def claimTellsWrong : ChangeSpec := { name := "claimTells", fn := fun _ => fun
  | [d1, d2, d3] => { results := [.lit (.bool false)], args := [d1, d2, d3] }
  | _ => none }
def ClaimTellsWrongFalsely : Prop := claimTellsRow.holds Try.pinned (OpenSpec.ofChange claimTellsWrong)

/-- 'novationlaw23.ClaimNames': WHATEVER THE INPUT: true; the input reads as it did. -/
def claimNamesSpec : ChangeSpec := { name := "claimNames", fn := fun _ => fun
  | [] => { results := [.lit (.bool true)], args := [] }
  | _ => none }
def claimNamesRow : OpenClaim := { program := "ytdjghmpaopfboaa", sum := "73a33941f49f32001c187902487dda393864e54a98633d7c95680e0483ff34a0", func := "novation/novationlaw23.ClaimNames", spec := "claimNames", inPlace := ["internal/bytealg.IndexByteString", "internal/bytealg.IndexString"], unfollowed := true, recurses := true, named := ["internal/bytealg.MaxLen"], plainKeys := false, apart := false }
def ClaimNamesSaid : Prop := claimNamesRow.holds Try.pinned (OpenSpec.ofChange claimNamesSpec)

/-- ITS FALSE NEIGHBOUR: 'it returns false'. Refute it at one input. -/
def claimNamesWrong : ChangeSpec := { name := "claimNames", fn := fun _ => fun
  | [] => { results := [.lit (.bool false)], args := [] }
  | _ => none }
def ClaimNamesWrongFalsely : Prop := claimNamesRow.holds Try.pinned (OpenSpec.ofChange claimNamesWrong)

/-- 'novationlaw23.ClaimKeeps': WHATEVER THE INPUT: true; the input reads as it did. -/
def claimKeepsSpec : ChangeSpec := { name := "claimKeeps", fn := fun _ => fun
  | [d1, d2, d3] => { results := [.lit (.bool true)], args := [d1, d2, d3] }
  | _ => none }
def claimKeepsRow : OpenClaim := { program := "ytdjghmpaopfboaa", sum := "73a33941f49f32001c187902487dda393864e54a98633d7c95680e0483ff34a0", func := "novation/novationlaw23.ClaimKeeps", spec := "claimKeeps", inPlace := ["internal/bytealg.IndexByteString", "internal/bytealg.IndexString"], unfollowed := true, recurses := true, named := ["internal/bytealg.MaxLen"], plainKeys := false, apart := false }
def ClaimKeepsSaid : Prop := claimKeepsRow.holds Try.pinned (OpenSpec.ofChange claimKeepsSpec)

/-- ITS FALSE NEIGHBOUR: 'it returns false'. Refute it at one input. -/
def claimKeepsWrong : ChangeSpec := { name := "claimKeeps", fn := fun _ => fun
  | [d1, d2, d3] => { results := [.lit (.bool false)], args := [d1, d2, d3] }
  | _ => none }
def ClaimKeepsWrongFalsely : Prop := claimKeepsRow.holds Try.pinned (OpenSpec.ofChange claimKeepsWrong)

/-- 'novationlaw23.ClaimAgain': WHATEVER THE INPUT: true; the input reads as it did. -/
def claimAgainSpec : ChangeSpec := { name := "claimAgain", fn := fun _ => fun
  | [d1, d2, d3, d4] => { results := [.lit (.bool true)], args := [d1, d2, d3, d4] }
  | _ => none }
def claimAgainRow : OpenClaim := { program := "ytdjghmpaopfboaa", sum := "73a33941f49f32001c187902487dda393864e54a98633d7c95680e0483ff34a0", func := "novation/novationlaw23.ClaimAgain", spec := "claimAgain", inPlace := ["internal/bytealg.IndexByteString", "internal/bytealg.IndexString"], unfollowed := true, recurses := true, named := ["internal/bytealg.MaxLen"], plainKeys := false, apart := false }
def ClaimAgainSaid : Prop := claimAgainRow.holds Try.pinned (OpenSpec.ofChange claimAgainSpec)

/-- ITS FALSE NEIGHBOUR: 'it returns false'. Refute it at one input. -/
def claimAgainWrong : ChangeSpec := { name := "claimAgain", fn := fun _ => fun
  | [d1, d2, d3, d4] => { results := [.lit (.bool false)], args := [d1, d2, d3, d4] }
  | _ => none }
def ClaimAgainWrongFalsely : Prop := claimAgainRow.holds Try.pinned (OpenSpec.ofChange claimAgainWrong)

/-- 'novationlaw23.ClaimLittle': WHATEVER THE INPUT: true; the input reads as it did. -/
def claimLittleSpec : ChangeSpec := { name := "claimLittle", fn := fun _ => fun
  | [d1, d2, d3] => { results := [.lit (.bool true)], args := [d1, d2, d3] }
  | _ => none }
def claimLittleRow : OpenClaim := { program := "ytdjghmpaopfboaa", sum := "73a33941f49f32001c187902487dda393864e54a98633d7c95680e0483ff34a0", func := "novation/novationlaw23.ClaimLittle", spec := "claimLittle", inPlace := ["internal/bytealg.IndexByteString", "internal/bytealg.IndexString"], unfollowed := true, recurses := true, named := ["internal/bytealg.MaxLen"], plainKeys := false, apart := false }
def ClaimLittleSaid : Prop := claimLittleRow.holds Try.pinned (OpenSpec.ofChange claimLittleSpec)

/-- ITS FALSE NEIGHBOUR: 'it returns false'. Refute it at one input. -/
def claimLittleWrong : ChangeSpec := { name := "claimLittle", fn := fun _ => fun
  | [d1, d2, d3] => { results := [.lit (.bool false)], args := [d1, d2, d3] }
  | _ => none }
def ClaimLittleWrongFalsely : Prop := claimLittleRow.holds Try.pinned (OpenSpec.ofChange claimLittleWrong)

/-- 'novationlaw23.ClaimNothing': WHATEVER THE INPUT: true; the input reads as it did. -/
def claimNothingSpec : ChangeSpec := { name := "claimNothing", fn := fun _ => fun
  | [d1, d2, d3, d4] => { results := [.lit (.bool true)], args := [d1, d2, d3, d4] }
  | _ => none }
def claimNothingRow : OpenClaim := { program := "ytdjghmpaopfboaa", sum := "73a33941f49f32001c187902487dda393864e54a98633d7c95680e0483ff34a0", func := "novation/novationlaw23.ClaimNothing", spec := "claimNothing", inPlace := ["internal/bytealg.IndexByteString", "internal/bytealg.IndexString"], unfollowed := true, recurses := true, named := ["internal/bytealg.MaxLen"], plainKeys := false, apart := false }
def ClaimNothingSaid : Prop := claimNothingRow.holds Try.pinned (OpenSpec.ofChange claimNothingSpec)

/-- ITS FALSE NEIGHBOUR: 'it returns false'. Refute it at one input. -/
def claimNothingWrong : ChangeSpec := { name := "claimNothing", fn := fun _ => fun
  | [d1, d2, d3, d4] => { results := [.lit (.bool false)], args := [d1, d2, d3, d4] }
  | _ => none }
def ClaimNothingWrongFalsely : Prop := claimNothingRow.holds Try.pinned (OpenSpec.ofChange claimNothingWrong)

/-- 'novationlaw23.ClaimNets': WHATEVER THE INPUT: true; the input reads as it did. -/
def claimNetsSpec : ChangeSpec := { name := "claimNets", fn := fun _ => fun
  | [d1, d2, d3, d4, d5] => { results := [.lit (.bool true)], args := [d1, d2, d3, d4, d5] }
  | _ => none }
def claimNetsRow : OpenClaim := { program := "ytdjghmpaopfboaa", sum := "73a33941f49f32001c187902487dda393864e54a98633d7c95680e0483ff34a0", func := "novation/novationlaw23.ClaimNets", spec := "claimNets", inPlace := ["internal/bytealg.IndexByteString", "internal/bytealg.IndexString"], unfollowed := true, recurses := true, named := ["internal/bytealg.MaxLen"], plainKeys := false, apart := false }
def ClaimNetsSaid : Prop := claimNetsRow.holds Try.pinned (OpenSpec.ofChange claimNetsSpec)

/-- ITS FALSE NEIGHBOUR: 'it returns false'. Refute it at one input. -/
def claimNetsWrong : ChangeSpec := { name := "claimNets", fn := fun _ => fun
  | [d1, d2, d3, d4, d5] => { results := [.lit (.bool false)], args := [d1, d2, d3, d4, d5] }
  | _ => none }
def ClaimNetsWrongFalsely : Prop := claimNetsRow.holds Try.pinned (OpenSpec.ofChange claimNetsWrong)

/- THE SECOND FORM. 'bulk': how many values and letters a reading holds, each counted each time it is reached (what is shared counts as often as it is met; a slice's spare places count too). A statement '..UptoSaid' is the law's where the arguments, and the package variables that the reading takes, are together of bulk at most 1048576: NARROWER than '..Said'. Prove '..Said' where nothing that the law and all that it calls make is longer than what came in: it says more and counts as full. Else prove '..UptoSaid'. A law counts once. -/
mutual
def uptoBulk {H : Type} : DataW H → Nat
  | .lit (.string bytes) => bytes.length + 1
  | .lit _ => 1
  | .nil => 1
  | .ptr d => uptoBulk d + 1
  | .slice elems spare => uptoBulkAll elems + uptoBulkAll spare + 1
  | .agg parts => uptoBulkAll parts + 1
  | .iface _ d => uptoBulk d + 1
  | .map entries => uptoBulkEntries entries + 1
  | .held _ => 1
def uptoBulkAll {H : Type} : List (DataW H) → Nat
  | [] => 0
  | d :: r => uptoBulk d + uptoBulkAll r
def uptoBulkEntries {H : Type} : List (Lit × DataW H) → Nat
  | [] => 0
  | x :: r => uptoBulkEntry x + uptoBulkEntries r
def uptoBulkEntry {H : Type} : Lit × DataW H → Nat
  | (.string bytes, d) => bytes.length + uptoBulk d + 1
  | (_, d) => uptoBulk d + 1
 end
def uptoSmall : (H : Type) → List (DataW H) → Bool := fun _ ds => decide (uptoBulkAll ds ≤ 1048576)
def OpenSpec.upto (s : _root_.Go.ChangeSpec) : _root_.Go.OpenSpec := { _root_.Go.OpenSpec.ofChange s with cond := some uptoSmall }

/-- 'novationlaw23.ClaimUpdates', WHERE WHAT IT READS IS OF BULK AT MOST 1048576: true; the input reads as it did. -/
def claimUpdatesUptoRow : OpenClaim := { program := "ytdjghmpaopfboaa", sum := "73a33941f49f32001c187902487dda393864e54a98633d7c95680e0483ff34a0", func := "novation/novationlaw23.ClaimUpdates", spec := "claimUpdates", inPlace := ["internal/bytealg.IndexByteString", "internal/bytealg.IndexString"], unfollowed := true, recurses := true, named := ["internal/bytealg.MaxLen"], plainKeys := false, apart := false, narrowed := true }
def ClaimUpdatesUptoSaid : Prop := claimUpdatesUptoRow.holds Try.pinned (OpenSpec.upto claimUpdatesSpec)

/-- 'novationlaw23.ClaimTells', WHERE WHAT IT READS IS OF BULK AT MOST 1048576: true; the input reads as it did. -/
def claimTellsUptoRow : OpenClaim := { program := "ytdjghmpaopfboaa", sum := "73a33941f49f32001c187902487dda393864e54a98633d7c95680e0483ff34a0", func := "novation/novationlaw23.ClaimTells", spec := "claimTells", inPlace := ["internal/bytealg.IndexByteString", "internal/bytealg.IndexString"], unfollowed := true, recurses := true, named := ["internal/bytealg.MaxLen"], plainKeys := false, apart := false, narrowed := true }
def ClaimTellsUptoSaid : Prop := claimTellsUptoRow.holds Try.pinned (OpenSpec.upto claimTellsSpec)

/-- 'novationlaw23.ClaimNames', WHERE WHAT IT READS IS OF BULK AT MOST 1048576: true; the input reads as it did. -/
def claimNamesUptoRow : OpenClaim := { program := "ytdjghmpaopfboaa", sum := "73a33941f49f32001c187902487dda393864e54a98633d7c95680e0483ff34a0", func := "novation/novationlaw23.ClaimNames", spec := "claimNames", inPlace := ["internal/bytealg.IndexByteString", "internal/bytealg.IndexString"], unfollowed := true, recurses := true, named := ["internal/bytealg.MaxLen"], plainKeys := false, apart := false, narrowed := true }
def ClaimNamesUptoSaid : Prop := claimNamesUptoRow.holds Try.pinned (OpenSpec.upto claimNamesSpec)

/-- 'novationlaw23.ClaimKeeps', WHERE WHAT IT READS IS OF BULK AT MOST 1048576: true; the input reads as it did. -/
def claimKeepsUptoRow : OpenClaim := { program := "ytdjghmpaopfboaa", sum := "73a33941f49f32001c187902487dda393864e54a98633d7c95680e0483ff34a0", func := "novation/novationlaw23.ClaimKeeps", spec := "claimKeeps", inPlace := ["internal/bytealg.IndexByteString", "internal/bytealg.IndexString"], unfollowed := true, recurses := true, named := ["internal/bytealg.MaxLen"], plainKeys := false, apart := false, narrowed := true }
def ClaimKeepsUptoSaid : Prop := claimKeepsUptoRow.holds Try.pinned (OpenSpec.upto claimKeepsSpec)

/-- 'novationlaw23.ClaimAgain', WHERE WHAT IT READS IS OF BULK AT MOST 1048576: true; the input reads as it did. -/
def claimAgainUptoRow : OpenClaim := { program := "ytdjghmpaopfboaa", sum := "73a33941f49f32001c187902487dda393864e54a98633d7c95680e0483ff34a0", func := "novation/novationlaw23.ClaimAgain", spec := "claimAgain", inPlace := ["internal/bytealg.IndexByteString", "internal/bytealg.IndexString"], unfollowed := true, recurses := true, named := ["internal/bytealg.MaxLen"], plainKeys := false, apart := false, narrowed := true }
def ClaimAgainUptoSaid : Prop := claimAgainUptoRow.holds Try.pinned (OpenSpec.upto claimAgainSpec)

/-- 'novationlaw23.ClaimLittle', WHERE WHAT IT READS IS OF BULK AT MOST 1048576: true; the input reads as it did. -/
def claimLittleUptoRow : OpenClaim := { program := "ytdjghmpaopfboaa", sum := "73a33941f49f32001c187902487dda393864e54a98633d7c95680e0483ff34a0", func := "novation/novationlaw23.ClaimLittle", spec := "claimLittle", inPlace := ["internal/bytealg.IndexByteString", "internal/bytealg.IndexString"], unfollowed := true, recurses := true, named := ["internal/bytealg.MaxLen"], plainKeys := false, apart := false, narrowed := true }
def ClaimLittleUptoSaid : Prop := claimLittleUptoRow.holds Try.pinned (OpenSpec.upto claimLittleSpec)

/-- 'novationlaw23.ClaimNothing', WHERE WHAT IT READS IS OF BULK AT MOST 1048576: true; the input reads as it did. -/
def claimNothingUptoRow : OpenClaim := { program := "ytdjghmpaopfboaa", sum := "73a33941f49f32001c187902487dda393864e54a98633d7c95680e0483ff34a0", func := "novation/novationlaw23.ClaimNothing", spec := "claimNothing", inPlace := ["internal/bytealg.IndexByteString", "internal/bytealg.IndexString"], unfollowed := true, recurses := true, named := ["internal/bytealg.MaxLen"], plainKeys := false, apart := false, narrowed := true }
def ClaimNothingUptoSaid : Prop := claimNothingUptoRow.holds Try.pinned (OpenSpec.upto claimNothingSpec)

/-- 'novationlaw23.ClaimNets', WHERE WHAT IT READS IS OF BULK AT MOST 1048576: true; the input reads as it did. -/
def claimNetsUptoRow : OpenClaim := { program := "ytdjghmpaopfboaa", sum := "73a33941f49f32001c187902487dda393864e54a98633d7c95680e0483ff34a0", func := "novation/novationlaw23.ClaimNets", spec := "claimNets", inPlace := ["internal/bytealg.IndexByteString", "internal/bytealg.IndexString"], unfollowed := true, recurses := true, named := ["internal/bytealg.MaxLen"], plainKeys := false, apart := false, narrowed := true }
def ClaimNetsUptoSaid : Prop := claimNetsUptoRow.holds Try.pinned (OpenSpec.upto claimNetsSpec)

end Rows
end Go.Proofs.Ytdjghmpaopfboaa
