/-
  No cell of these rows narrows 'for every input' (looked for: loops, veiled, ifaces, maps, wideKeys, modest, calm, conditions, laid).
  DERIVED. THE GIVEN ROWS OF THIS SEAT. 7 by the template 'for every input the law returns true; each argument reads behind the call as it read before'; 0 by the template 'total and deterministic' (their statements: YtblelgmedononaaTotals.lean).
  GIVEN WITH THE SEED: the statements are not yours to turn. If you find one false, say at which input.
  Laid BY PROGRAM, IN A SANDBOX (cutbox-rows.mjs): the forced cells as the released guide's own fill.sh prints them over the translation d470cb9dea6a3b64… (all of the seat's roots in one cut). By AI agents, Wed Nov 11 2026. No macro, syntax, notation, axiom, sorry.
-/
import Derived.Test.YtblelgmedononaaChecked
import GoSem.Claim
import GoSem.ClaimJoined
import GoSem.ClaimMapViews
import Derived.JoinedTies
import Derived.KernelRfl
namespace Go.Proofs.Ytblelgmedononaa
/- THE CELL 'sum', in the pinned program and in every row, IS THE sha256 OF THE DUMP (.gsa) THAT YtblelgmedononaaProg.lean LOADS. Nothing in Lean hashes anything: it is a label: what it is worth is what the hold of that sum in a sandbox is worth. -/
noncomputable def Try.pinned : Pinned := { name := "ytblelgmedononaa", sum := "d470cb9dea6a3b64abf0dfa6ed39b55c13cd38e18d0c7061e0f92810e58a8bd0", checked := Try.checked }
namespace Rows
def none {H : Type} : Left H := { results := [], args := [] }

/-- 'novationlaw05.DaycountDays': WHATEVER THE INPUT: true; the input reads as it did. -/
def daycountDaysSpec : ChangeSpec := { name := "daycountDays", fn := fun _ => fun
  | [d1, d2, d3] => { results := [.lit (.bool true)], args := [d1, d2, d3] }
  | _ => none }
def daycountDaysRow : OpenClaim := { program := "ytblelgmedononaa", sum := "d470cb9dea6a3b64abf0dfa6ed39b55c13cd38e18d0c7061e0f92810e58a8bd0", func := "novation/novationlaw05.DaycountDays", spec := "daycountDays", unfollowed := true, recurses := true, apart := false }
def DaycountDaysSaid : Prop := daycountDaysRow.holds Try.pinned (OpenSpec.ofChange daycountDaysSpec)

/-- ITS FALSE NEIGHBOUR: 'it returns false'. Refute it at one input. -/
def daycountDaysWrong : ChangeSpec := { name := "daycountDays", fn := fun _ => fun
  | [d1, d2, d3] => { results := [.lit (.bool false)], args := [d1, d2, d3] }
  | _ => none }
def DaycountDaysWrongFalsely : Prop := daycountDaysRow.holds Try.pinned (OpenSpec.ofChange daycountDaysWrong)

/-- 'novationlaw05.DaycountNames': WHATEVER THE INPUT: true; the input reads as it did. -/
def daycountNamesSpec : ChangeSpec := { name := "daycountNames", fn := fun _ => fun
  | [] => { results := [.lit (.bool true)], args := [] }
  | _ => none }
def daycountNamesRow : OpenClaim := { program := "ytblelgmedononaa", sum := "d470cb9dea6a3b64abf0dfa6ed39b55c13cd38e18d0c7061e0f92810e58a8bd0", func := "novation/novationlaw05.DaycountNames", spec := "daycountNames", unfollowed := true, recurses := true, apart := false }
def DaycountNamesSaid : Prop := daycountNamesRow.holds Try.pinned (OpenSpec.ofChange daycountNamesSpec)

/-- ITS FALSE NEIGHBOUR: 'it returns false'. Refute it at one input. -/
def daycountNamesWrong : ChangeSpec := { name := "daycountNames", fn := fun _ => fun
  | [] => { results := [.lit (.bool false)], args := [] }
  | _ => none }
def DaycountNamesWrongFalsely : Prop := daycountNamesRow.holds Try.pinned (OpenSpec.ofChange daycountNamesWrong)

/-- 'novationlaw05.DaycountTells': WHATEVER THE INPUT: true; the input reads as it did. -/
def daycountTellsSpec : ChangeSpec := { name := "daycountTells", fn := fun _ => fun
  | [d1, d2, d3] => { results := [.lit (.bool true)], args := [d1, d2, d3] }
  | _ => none }
def daycountTellsRow : OpenClaim := { program := "ytblelgmedononaa", sum := "d470cb9dea6a3b64abf0dfa6ed39b55c13cd38e18d0c7061e0f92810e58a8bd0", func := "novation/novationlaw05.DaycountTells", spec := "daycountTells", unfollowed := true, recurses := true, apart := false }
def DaycountTellsSaid : Prop := daycountTellsRow.holds Try.pinned (OpenSpec.ofChange daycountTellsSpec)

/-- ITS FALSE NEIGHBOUR: 'it returns false'. Refute it at one input. -/
def daycountTellsWrong : ChangeSpec := { name := "daycountTells", fn := fun _ => fun
  | [d1, d2, d3] => { results := [.lit (.bool false)], args := [d1, d2, d3] }
  | _ => none }
def DaycountTellsWrongFalsely : Prop := daycountTellsRow.holds Try.pinned (OpenSpec.ofChange daycountTellsWrong)

/-- 'novationlaw05.DaycountOrder': WHATEVER THE INPUT: true; the input reads as it did. -/
def daycountOrderSpec : ChangeSpec := { name := "daycountOrder", fn := fun _ => fun
  | [d1, d2, d3, d4] => { results := [.lit (.bool true)], args := [d1, d2, d3, d4] }
  | _ => none }
def daycountOrderRow : OpenClaim := { program := "ytblelgmedononaa", sum := "d470cb9dea6a3b64abf0dfa6ed39b55c13cd38e18d0c7061e0f92810e58a8bd0", func := "novation/novationlaw05.DaycountOrder", spec := "daycountOrder", unfollowed := true, recurses := true, apart := false }
def DaycountOrderSaid : Prop := daycountOrderRow.holds Try.pinned (OpenSpec.ofChange daycountOrderSpec)

/-- ITS FALSE NEIGHBOUR: 'it returns false'. Refute it at one input. -/
def daycountOrderWrong : ChangeSpec := { name := "daycountOrder", fn := fun _ => fun
  | [d1, d2, d3, d4] => { results := [.lit (.bool false)], args := [d1, d2, d3, d4] }
  | _ => none }
def DaycountOrderWrongFalsely : Prop := daycountOrderRow.holds Try.pinned (OpenSpec.ofChange daycountOrderWrong)

/-- 'novationlaw05.DaycountWhole': WHATEVER THE INPUT: true; the input reads as it did. -/
def daycountWholeSpec : ChangeSpec := { name := "daycountWhole", fn := fun _ => fun
  | [d1, d2, d3, d4] => { results := [.lit (.bool true)], args := [d1, d2, d3, d4] }
  | _ => none }
def daycountWholeRow : OpenClaim := { program := "ytblelgmedononaa", sum := "d470cb9dea6a3b64abf0dfa6ed39b55c13cd38e18d0c7061e0f92810e58a8bd0", func := "novation/novationlaw05.DaycountWhole", spec := "daycountWhole", unfollowed := true, recurses := true, apart := false }
def DaycountWholeSaid : Prop := daycountWholeRow.holds Try.pinned (OpenSpec.ofChange daycountWholeSpec)

/-- ITS FALSE NEIGHBOUR: 'it returns false'. Refute it at one input. -/
def daycountWholeWrong : ChangeSpec := { name := "daycountWhole", fn := fun _ => fun
  | [d1, d2, d3, d4] => { results := [.lit (.bool false)], args := [d1, d2, d3, d4] }
  | _ => none }
def DaycountWholeWrongFalsely : Prop := daycountWholeRow.holds Try.pinned (OpenSpec.ofChange daycountWholeWrong)

/-- 'novationlaw05.DaycountAdds': WHATEVER THE INPUT: true; the input reads as it did. -/
def daycountAddsSpec : ChangeSpec := { name := "daycountAdds", fn := fun _ => fun
  | [d1, d2, d3, d4] => { results := [.lit (.bool true)], args := [d1, d2, d3, d4] }
  | _ => none }
def daycountAddsRow : OpenClaim := { program := "ytblelgmedononaa", sum := "d470cb9dea6a3b64abf0dfa6ed39b55c13cd38e18d0c7061e0f92810e58a8bd0", func := "novation/novationlaw05.DaycountAdds", spec := "daycountAdds", inPlace := ["internal/bytealg.IndexByteString", "internal/bytealg.IndexString"], unfollowed := true, recurses := true, named := ["internal/bytealg.MaxLen"], apart := false }
def DaycountAddsSaid : Prop := daycountAddsRow.holds Try.pinned (OpenSpec.ofChange daycountAddsSpec)

/-- ITS FALSE NEIGHBOUR: 'it returns false'. Refute it at one input. -/
def daycountAddsWrong : ChangeSpec := { name := "daycountAdds", fn := fun _ => fun
  | [d1, d2, d3, d4] => { results := [.lit (.bool false)], args := [d1, d2, d3, d4] }
  | _ => none }
def DaycountAddsWrongFalsely : Prop := daycountAddsRow.holds Try.pinned (OpenSpec.ofChange daycountAddsWrong)

/-- 'novationlaw05.DaycountSigns': WHATEVER THE INPUT: true; the input reads as it did. -/
def daycountSignsSpec : ChangeSpec := { name := "daycountSigns", fn := fun _ => fun
  | [d1, d2, d3] => { results := [.lit (.bool true)], args := [d1, d2, d3] }
  | _ => none }
def daycountSignsRow : OpenClaim := { program := "ytblelgmedononaa", sum := "d470cb9dea6a3b64abf0dfa6ed39b55c13cd38e18d0c7061e0f92810e58a8bd0", func := "novation/novationlaw05.DaycountSigns", spec := "daycountSigns", inPlace := ["internal/bytealg.IndexByteString", "internal/bytealg.IndexString"], unfollowed := true, recurses := true, named := ["internal/bytealg.MaxLen"], apart := false }
def DaycountSignsSaid : Prop := daycountSignsRow.holds Try.pinned (OpenSpec.ofChange daycountSignsSpec)

/-- ITS FALSE NEIGHBOUR: 'it returns false'. Refute it at one input. -/
def daycountSignsWrong : ChangeSpec := { name := "daycountSigns", fn := fun _ => fun
  | [d1, d2, d3] => { results := [.lit (.bool false)], args := [d1, d2, d3] }
  | _ => none }
def DaycountSignsWrongFalsely : Prop := daycountSignsRow.holds Try.pinned (OpenSpec.ofChange daycountSignsWrong)

/- THE SECOND FORM. 'bulk': how many values and letters a reading holds, each counted each time it is reached (what is shared counts as often as it is met; a slice's spare places count too). A statement '..UptoSaid' is the law's where the arguments, and the package variables that the reading takes, are together of bulk at most 1048576: NARROWER than '..Said'. Prove '..Said' where nothing that the law and all that it calls make is longer than what came in: it says more and counts as full. Else prove '..UptoSaid'. A law counts once. -/
mutual
def uptoBulk {H : Type} : DataW H → Nat
  | .lit (.string bytes) => bytes.length + 1
  | .lit _ => 1
  | .nil => 1
  | .ptr d => uptoBulk d + 1
  | .slice elems spare => uptoBulkAll elems + uptoBulkAll spare + 1
  | .agg parts => uptoBulkAll parts + 1
  | .iface _ d => uptoBulk d + 1
  | .map entries => uptoBulkEntries entries + 1
  | .held _ => 1
def uptoBulkAll {H : Type} : List (DataW H) → Nat
  | [] => 0
  | d :: r => uptoBulk d + uptoBulkAll r
def uptoBulkEntries {H : Type} : List (Lit × DataW H) → Nat
  | [] => 0
  | x :: r => uptoBulkEntry x + uptoBulkEntries r
def uptoBulkEntry {H : Type} : Lit × DataW H → Nat
  | (.string bytes, d) => bytes.length + uptoBulk d + 1
  | (_, d) => uptoBulk d + 1
 end
def uptoSmall : (H : Type) → List (DataW H) → Bool := fun _ ds => decide (uptoBulkAll ds ≤ 1048576)
def OpenSpec.upto (s : _root_.Go.ChangeSpec) : _root_.Go.OpenSpec := { _root_.Go.OpenSpec.ofChange s with cond := some uptoSmall }

/-- 'novationlaw05.DaycountDays', WHERE WHAT IT READS IS OF BULK AT MOST 1048576: true; the input reads as it did. -/
def daycountDaysUptoRow : OpenClaim := { program := "ytblelgmedononaa", sum := "d470cb9dea6a3b64abf0dfa6ed39b55c13cd38e18d0c7061e0f92810e58a8bd0", func := "novation/novationlaw05.DaycountDays", spec := "daycountDays", unfollowed := true, recurses := true, apart := false, narrowed := true }
def DaycountDaysUptoSaid : Prop := daycountDaysUptoRow.holds Try.pinned (OpenSpec.upto daycountDaysSpec)

/-- 'novationlaw05.DaycountNames', WHERE WHAT IT READS IS OF BULK AT MOST 1048576: true; the input reads as it did. -/
def daycountNamesUptoRow : OpenClaim := { program := "ytblelgmedononaa", sum := "d470cb9dea6a3b64abf0dfa6ed39b55c13cd38e18d0c7061e0f92810e58a8bd0", func := "novation/novationlaw05.DaycountNames", spec := "daycountNames", unfollowed := true, recurses := true, apart := false, narrowed := true }
def DaycountNamesUptoSaid : Prop := daycountNamesUptoRow.holds Try.pinned (OpenSpec.upto daycountNamesSpec)

/-- 'novationlaw05.DaycountTells', WHERE WHAT IT READS IS OF BULK AT MOST 1048576: true; the input reads as it did. -/
def daycountTellsUptoRow : OpenClaim := { program := "ytblelgmedononaa", sum := "d470cb9dea6a3b64abf0dfa6ed39b55c13cd38e18d0c7061e0f92810e58a8bd0", func := "novation/novationlaw05.DaycountTells", spec := "daycountTells", unfollowed := true, recurses := true, apart := false, narrowed := true }
def DaycountTellsUptoSaid : Prop := daycountTellsUptoRow.holds Try.pinned (OpenSpec.upto daycountTellsSpec)

/-- 'novationlaw05.DaycountOrder', WHERE WHAT IT READS IS OF BULK AT MOST 1048576: true; the input reads as it did. -/
def daycountOrderUptoRow : OpenClaim := { program := "ytblelgmedononaa", sum := "d470cb9dea6a3b64abf0dfa6ed39b55c13cd38e18d0c7061e0f92810e58a8bd0", func := "novation/novationlaw05.DaycountOrder", spec := "daycountOrder", unfollowed := true, recurses := true, apart := false, narrowed := true }
def DaycountOrderUptoSaid : Prop := daycountOrderUptoRow.holds Try.pinned (OpenSpec.upto daycountOrderSpec)

/-- 'novationlaw05.DaycountWhole', WHERE WHAT IT READS IS OF BULK AT MOST 1048576: true; the input reads as it did. -/
def daycountWholeUptoRow : OpenClaim := { program := "ytblelgmedononaa", sum := "d470cb9dea6a3b64abf0dfa6ed39b55c13cd38e18d0c7061e0f92810e58a8bd0", func := "novation/novationlaw05.DaycountWhole", spec := "daycountWhole", unfollowed := true, recurses := true, apart := false, narrowed := true }
def DaycountWholeUptoSaid : Prop := daycountWholeUptoRow.holds Try.pinned (OpenSpec.upto daycountWholeSpec)

/-- 'novationlaw05.DaycountAdds', WHERE WHAT IT READS IS OF BULK AT MOST 1048576: true; the input reads as it did. -/
def daycountAddsUptoRow : OpenClaim := { program := "ytblelgmedononaa", sum := "d470cb9dea6a3b64abf0dfa6ed39b55c13cd38e18d0c7061e0f92810e58a8bd0", func := "novation/novationlaw05.DaycountAdds", spec := "daycountAdds", inPlace := ["internal/bytealg.IndexByteString", "internal/bytealg.IndexString"], unfollowed := true, recurses := true, named := ["internal/bytealg.MaxLen"], apart := false, narrowed := true }
def DaycountAddsUptoSaid : Prop := daycountAddsUptoRow.holds Try.pinned (OpenSpec.upto daycountAddsSpec)

/-- 'novationlaw05.DaycountSigns', WHERE WHAT IT READS IS OF BULK AT MOST 1048576: true; the input reads as it did. -/
def daycountSignsUptoRow : OpenClaim := { program := "ytblelgmedononaa", sum := "d470cb9dea6a3b64abf0dfa6ed39b55c13cd38e18d0c7061e0f92810e58a8bd0", func := "novation/novationlaw05.DaycountSigns", spec := "daycountSigns", inPlace := ["internal/bytealg.IndexByteString", "internal/bytealg.IndexString"], unfollowed := true, recurses := true, named := ["internal/bytealg.MaxLen"], apart := false, narrowed := true }
def DaycountSignsUptoSaid : Prop := daycountSignsUptoRow.holds Try.pinned (OpenSpec.upto daycountSignsSpec)

end Rows
end Go.Proofs.Ytblelgmedononaa
