/-
  No cell of these rows narrows 'for every input' (looked for: loops, veiled, ifaces, maps, wideKeys, modest, calm, conditions, laid).
  DERIVED. THE GIVEN ROWS OF THIS SEAT. 8 by the template 'for every input the law returns true; each argument reads behind the call as it read before'; 0 by the template 'total and deterministic' (their statements: YtmbbpimihnojeaaTotals.lean).
  GIVEN WITH THE SEED: the statements are not yours to turn. If you find one false, say at which input.
  Laid BY PROGRAM, IN A SANDBOX (cutbox-rows.mjs): the forced cells as the released guide's own fill.sh prints them over the translation 6af3419424961b2e… (all of the seat's roots in one cut). By AI agents, Wed Nov 11 2026. No macro, syntax, notation, axiom, sorry.
-/
import Derived.Test.YtmbbpimihnojeaaChecked
import GoSem.Claim
import GoSem.ClaimJoined
import GoSem.ClaimMapViews
import Derived.JoinedTies
import Derived.KernelRfl
namespace Go.Proofs.Ytmbbpimihnojeaa
/- THE CELL 'sum', in the pinned program and in every row, IS THE sha256 OF THE DUMP (.gsa) THAT YtmbbpimihnojeaaProg.lean LOADS. Nothing in Lean hashes anything: it is a label: what it is worth is what the hold of that sum in a sandbox is worth. -/
noncomputable def Try.pinned : Pinned := { name := "ytmbbpimihnojeaa", sum := "6af3419424961b2e6b40b1af1903c1f24a6516f6bf0a703033389cbdff4cfd59", checked := Try.checked }
namespace Rows
def none {H : Type} : Left H := { results := [], args := [] }

/-- 'novationlaw04.CalendarCounts': WHATEVER THE INPUT: true; the input reads as it did. -/
def calendarCountsSpec : ChangeSpec := { name := "calendarCounts", fn := fun _ => fun
  | [d1, d2, d3, d4] => { results := [.lit (.bool true)], args := [d1, d2, d3, d4] }
  | _ => none }
def calendarCountsRow : OpenClaim := { program := "ytmbbpimihnojeaa", sum := "6af3419424961b2e6b40b1af1903c1f24a6516f6bf0a703033389cbdff4cfd59", func := "novation/novationlaw04.CalendarCounts", spec := "calendarCounts", unfollowed := true, recurses := true, apart := false }
def CalendarCountsSaid : Prop := calendarCountsRow.holds Try.pinned (OpenSpec.ofChange calendarCountsSpec)

/-- ITS FALSE NEIGHBOUR: 'it returns false'. Refute it at one input. -/
def calendarCountsWrong : ChangeSpec := { name := "calendarCounts", fn := fun _ => fun
  | [d1, d2, d3, d4] => { results := [.lit (.bool false)], args := [d1, d2, d3, d4] }
  | _ => none }
def CalendarCountsWrongFalsely : Prop := calendarCountsRow.holds Try.pinned (OpenSpec.ofChange calendarCountsWrong)

/-- 'novationlaw04.CalendarRolls': WHATEVER THE INPUT: true; the input reads as it did. -/
def calendarRollsSpec : ChangeSpec := { name := "calendarRolls", fn := fun _ => fun
  | [d1, d2, d3] => { results := [.lit (.bool true)], args := [d1, d2, d3] }
  | _ => none }
def calendarRollsRow : OpenClaim := { program := "ytmbbpimihnojeaa", sum := "6af3419424961b2e6b40b1af1903c1f24a6516f6bf0a703033389cbdff4cfd59", func := "novation/novationlaw04.CalendarRolls", spec := "calendarRolls", unfollowed := true, recurses := true, apart := false }
def CalendarRollsSaid : Prop := calendarRollsRow.holds Try.pinned (OpenSpec.ofChange calendarRollsSpec)

/-- ITS FALSE NEIGHBOUR: 'it returns false'. Refute it at one input. -/
def calendarRollsWrong : ChangeSpec := { name := "calendarRolls", fn := fun _ => fun
  | [d1, d2, d3] => { results := [.lit (.bool false)], args := [d1, d2, d3] }
  | _ => none }
def CalendarRollsWrongFalsely : Prop := calendarRollsRow.holds Try.pinned (OpenSpec.ofChange calendarRollsWrong)

/-- 'novationlaw04.CalendarSums': WHATEVER THE INPUT: true; the input reads as it did. -/
def calendarSumsSpec : ChangeSpec := { name := "calendarSums", fn := fun _ => fun
  | [d1, d2, d3, d4] => { results := [.lit (.bool true)], args := [d1, d2, d3, d4] }
  | _ => none }
def calendarSumsRow : OpenClaim := { program := "ytmbbpimihnojeaa", sum := "6af3419424961b2e6b40b1af1903c1f24a6516f6bf0a703033389cbdff4cfd59", func := "novation/novationlaw04.CalendarSums", spec := "calendarSums", unfollowed := true, recurses := true, apart := false }
def CalendarSumsSaid : Prop := calendarSumsRow.holds Try.pinned (OpenSpec.ofChange calendarSumsSpec)

/-- ITS FALSE NEIGHBOUR: 'it returns false'. Refute it at one input. -/
def calendarSumsWrong : ChangeSpec := { name := "calendarSums", fn := fun _ => fun
  | [d1, d2, d3, d4] => { results := [.lit (.bool false)], args := [d1, d2, d3, d4] }
  | _ => none }
def CalendarSumsWrongFalsely : Prop := calendarSumsRow.holds Try.pinned (OpenSpec.ofChange calendarSumsWrong)

/-- 'novationlaw04.CalendarNearest': WHATEVER THE INPUT: true; the input reads as it did. -/
def calendarNearestSpec : ChangeSpec := { name := "calendarNearest", fn := fun _ => fun
  | [d1, d2, d3] => { results := [.lit (.bool true)], args := [d1, d2, d3] }
  | _ => none }
def calendarNearestRow : OpenClaim := { program := "ytmbbpimihnojeaa", sum := "6af3419424961b2e6b40b1af1903c1f24a6516f6bf0a703033389cbdff4cfd59", func := "novation/novationlaw04.CalendarNearest", spec := "calendarNearest", unfollowed := true, recurses := true, apart := false }
def CalendarNearestSaid : Prop := calendarNearestRow.holds Try.pinned (OpenSpec.ofChange calendarNearestSpec)

/-- ITS FALSE NEIGHBOUR: 'it returns false'. Refute it at one input. -/
def calendarNearestWrong : ChangeSpec := { name := "calendarNearest", fn := fun _ => fun
  | [d1, d2, d3] => { results := [.lit (.bool false)], args := [d1, d2, d3] }
  | _ => none }
def CalendarNearestWrongFalsely : Prop := calendarNearestRow.holds Try.pinned (OpenSpec.ofChange calendarNearestWrong)

/-- 'novationlaw04.CalendarAdds': WHATEVER THE INPUT: true; the input reads as it did. -/
def calendarAddsSpec : ChangeSpec := { name := "calendarAdds", fn := fun _ => fun
  | [d1, d2, d3] => { results := [.lit (.bool true)], args := [d1, d2, d3] }
  | _ => none }
def calendarAddsRow : OpenClaim := { program := "ytmbbpimihnojeaa", sum := "6af3419424961b2e6b40b1af1903c1f24a6516f6bf0a703033389cbdff4cfd59", func := "novation/novationlaw04.CalendarAdds", spec := "calendarAdds", unfollowed := true, recurses := true, apart := false }
def CalendarAddsSaid : Prop := calendarAddsRow.holds Try.pinned (OpenSpec.ofChange calendarAddsSpec)

/-- ITS FALSE NEIGHBOUR: 'it returns false'. Refute it at one input. -/
def calendarAddsWrong : ChangeSpec := { name := "calendarAdds", fn := fun _ => fun
  | [d1, d2, d3] => { results := [.lit (.bool false)], args := [d1, d2, d3] }
  | _ => none }
def CalendarAddsWrongFalsely : Prop := calendarAddsRow.holds Try.pinned (OpenSpec.ofChange calendarAddsWrong)

/-- 'novationlaw04.CalendarTells': WHATEVER THE INPUT: true; the input reads as it did. -/
def calendarTellsSpec : ChangeSpec := { name := "calendarTells", fn := fun _ => fun
  | [d1, d2, d3] => { results := [.lit (.bool true)], args := [d1, d2, d3] }
  | _ => none }
def calendarTellsRow : OpenClaim := { program := "ytmbbpimihnojeaa", sum := "6af3419424961b2e6b40b1af1903c1f24a6516f6bf0a703033389cbdff4cfd59", func := "novation/novationlaw04.CalendarTells", spec := "calendarTells", unfollowed := true, recurses := true, apart := false }
def CalendarTellsSaid : Prop := calendarTellsRow.holds Try.pinned (OpenSpec.ofChange calendarTellsSpec)

/-- ITS FALSE NEIGHBOUR: 'it returns false'. Refute it at one input. -/
def calendarTellsWrong : ChangeSpec := { name := "calendarTells", fn := fun _ => fun
  | [d1, d2, d3] => { results := [.lit (.bool false)], args := [d1, d2, d3] }
  | _ => none }
def CalendarTellsWrongFalsely : Prop := calendarTellsRow.holds Try.pinned (OpenSpec.ofChange calendarTellsWrong)

/-- 'novationlaw04.CalendarNames': WHATEVER THE INPUT: true; the input reads as it did. -/
def calendarNamesSpec : ChangeSpec := { name := "calendarNames", fn := fun _ => fun
  | [] => { results := [.lit (.bool true)], args := [] }
  | _ => none }
def calendarNamesRow : OpenClaim := { program := "ytmbbpimihnojeaa", sum := "6af3419424961b2e6b40b1af1903c1f24a6516f6bf0a703033389cbdff4cfd59", func := "novation/novationlaw04.CalendarNames", spec := "calendarNames", unfollowed := true, recurses := true, apart := false }
def CalendarNamesSaid : Prop := calendarNamesRow.holds Try.pinned (OpenSpec.ofChange calendarNamesSpec)

/-- ITS FALSE NEIGHBOUR: 'it returns false'. Refute it at one input. -/
def calendarNamesWrong : ChangeSpec := { name := "calendarNames", fn := fun _ => fun
  | [] => { results := [.lit (.bool false)], args := [] }
  | _ => none }
def CalendarNamesWrongFalsely : Prop := calendarNamesRow.holds Try.pinned (OpenSpec.ofChange calendarNamesWrong)

/-- 'novationlaw04.CalendarJoins': WHATEVER THE INPUT: true; the input reads as it did. -/
def calendarJoinsSpec : ChangeSpec := { name := "calendarJoins", fn := fun _ => fun
  | [d1, d2, d3] => { results := [.lit (.bool true)], args := [d1, d2, d3] }
  | _ => none }
def calendarJoinsRow : OpenClaim := { program := "ytmbbpimihnojeaa", sum := "6af3419424961b2e6b40b1af1903c1f24a6516f6bf0a703033389cbdff4cfd59", func := "novation/novationlaw04.CalendarJoins", spec := "calendarJoins", unfollowed := true, recurses := true, apart := false }
def CalendarJoinsSaid : Prop := calendarJoinsRow.holds Try.pinned (OpenSpec.ofChange calendarJoinsSpec)

/-- ITS FALSE NEIGHBOUR: 'it returns false'. Refute it at one input. -/
def calendarJoinsWrong : ChangeSpec := { name := "calendarJoins", fn := fun _ => fun
  | [d1, d2, d3] => { results := [.lit (.bool false)], args := [d1, d2, d3] }
  | _ => none }
def CalendarJoinsWrongFalsely : Prop := calendarJoinsRow.holds Try.pinned (OpenSpec.ofChange calendarJoinsWrong)

/- THE SECOND FORM. 'bulk': how many values and letters a reading holds, each counted each time it is reached (what is shared counts as often as it is met; a slice's spare places count too). A statement '..UptoSaid' is the law's where the arguments, and the package variables that the reading takes, are together of bulk at most 1048576: NARROWER than '..Said'. Prove '..Said' where nothing that the law and all that it calls make is longer than what came in: it says more and counts as full. Else prove '..UptoSaid'. A law counts once. -/
mutual
def uptoBulk {H : Type} : DataW H → Nat
  | .lit (.string bytes) => bytes.length + 1
  | .lit _ => 1
  | .nil => 1
  | .ptr d => uptoBulk d + 1
  | .slice elems spare => uptoBulkAll elems + uptoBulkAll spare + 1
  | .agg parts => uptoBulkAll parts + 1
  | .iface _ d => uptoBulk d + 1
  | .map entries => uptoBulkEntries entries + 1
  | .held _ => 1
def uptoBulkAll {H : Type} : List (DataW H) → Nat
  | [] => 0
  | d :: r => uptoBulk d + uptoBulkAll r
def uptoBulkEntries {H : Type} : List (Lit × DataW H) → Nat
  | [] => 0
  | x :: r => uptoBulkEntry x + uptoBulkEntries r
def uptoBulkEntry {H : Type} : Lit × DataW H → Nat
  | (.string bytes, d) => bytes.length + uptoBulk d + 1
  | (_, d) => uptoBulk d + 1
 end
def uptoSmall : (H : Type) → List (DataW H) → Bool := fun _ ds => decide (uptoBulkAll ds ≤ 1048576)
def OpenSpec.upto (s : _root_.Go.ChangeSpec) : _root_.Go.OpenSpec := { _root_.Go.OpenSpec.ofChange s with cond := some uptoSmall }

/-- 'novationlaw04.CalendarCounts', WHERE WHAT IT READS IS OF BULK AT MOST 1048576: true; the input reads as it did. -/
def calendarCountsUptoRow : OpenClaim := { program := "ytmbbpimihnojeaa", sum := "6af3419424961b2e6b40b1af1903c1f24a6516f6bf0a703033389cbdff4cfd59", func := "novation/novationlaw04.CalendarCounts", spec := "calendarCounts", unfollowed := true, recurses := true, apart := false, narrowed := true }
def CalendarCountsUptoSaid : Prop := calendarCountsUptoRow.holds Try.pinned (OpenSpec.upto calendarCountsSpec)

/-- 'novationlaw04.CalendarRolls', WHERE WHAT IT READS IS OF BULK AT MOST 1048576: true; the input reads as it did. -/
def calendarRollsUptoRow : OpenClaim := { program := "ytmbbpimihnojeaa", sum := "6af3419424961b2e6b40b1af1903c1f24a6516f6bf0a703033389cbdff4cfd59", func := "novation/novationlaw04.CalendarRolls", spec := "calendarRolls", unfollowed := true, recurses := true, apart := false, narrowed := true }
def CalendarRollsUptoSaid : Prop := calendarRollsUptoRow.holds Try.pinned (OpenSpec.upto calendarRollsSpec)

/-- 'novationlaw04.CalendarSums', WHERE WHAT IT READS IS OF BULK AT MOST 1048576: true; the input reads as it did. -/
def calendarSumsUptoRow : OpenClaim := { program := "ytmbbpimihnojeaa", sum := "6af3419424961b2e6b40b1af1903c1f24a6516f6bf0a703033389cbdff4cfd59", func := "novation/novationlaw04.CalendarSums", spec := "calendarSums", unfollowed := true, recurses := true, apart := false, narrowed := true }
def CalendarSumsUptoSaid : Prop := calendarSumsUptoRow.holds Try.pinned (OpenSpec.upto calendarSumsSpec)

/-- 'novationlaw04.CalendarNearest', WHERE WHAT IT READS IS OF BULK AT MOST 1048576: true; the input reads as it did. -/
def calendarNearestUptoRow : OpenClaim := { program := "ytmbbpimihnojeaa", sum := "6af3419424961b2e6b40b1af1903c1f24a6516f6bf0a703033389cbdff4cfd59", func := "novation/novationlaw04.CalendarNearest", spec := "calendarNearest", unfollowed := true, recurses := true, apart := false, narrowed := true }
def CalendarNearestUptoSaid : Prop := calendarNearestUptoRow.holds Try.pinned (OpenSpec.upto calendarNearestSpec)

/-- 'novationlaw04.CalendarAdds', WHERE WHAT IT READS IS OF BULK AT MOST 1048576: true; the input reads as it did. -/
def calendarAddsUptoRow : OpenClaim := { program := "ytmbbpimihnojeaa", sum := "6af3419424961b2e6b40b1af1903c1f24a6516f6bf0a703033389cbdff4cfd59", func := "novation/novationlaw04.CalendarAdds", spec := "calendarAdds", unfollowed := true, recurses := true, apart := false, narrowed := true }
def CalendarAddsUptoSaid : Prop := calendarAddsUptoRow.holds Try.pinned (OpenSpec.upto calendarAddsSpec)

/-- 'novationlaw04.CalendarTells', WHERE WHAT IT READS IS OF BULK AT MOST 1048576: true; the input reads as it did. -/
def calendarTellsUptoRow : OpenClaim := { program := "ytmbbpimihnojeaa", sum := "6af3419424961b2e6b40b1af1903c1f24a6516f6bf0a703033389cbdff4cfd59", func := "novation/novationlaw04.CalendarTells", spec := "calendarTells", unfollowed := true, recurses := true, apart := false, narrowed := true }
def CalendarTellsUptoSaid : Prop := calendarTellsUptoRow.holds Try.pinned (OpenSpec.upto calendarTellsSpec)

/-- 'novationlaw04.CalendarNames', WHERE WHAT IT READS IS OF BULK AT MOST 1048576: true; the input reads as it did. -/
def calendarNamesUptoRow : OpenClaim := { program := "ytmbbpimihnojeaa", sum := "6af3419424961b2e6b40b1af1903c1f24a6516f6bf0a703033389cbdff4cfd59", func := "novation/novationlaw04.CalendarNames", spec := "calendarNames", unfollowed := true, recurses := true, apart := false, narrowed := true }
def CalendarNamesUptoSaid : Prop := calendarNamesUptoRow.holds Try.pinned (OpenSpec.upto calendarNamesSpec)

/-- 'novationlaw04.CalendarJoins', WHERE WHAT IT READS IS OF BULK AT MOST 1048576: true; the input reads as it did. -/
def calendarJoinsUptoRow : OpenClaim := { program := "ytmbbpimihnojeaa", sum := "6af3419424961b2e6b40b1af1903c1f24a6516f6bf0a703033389cbdff4cfd59", func := "novation/novationlaw04.CalendarJoins", spec := "calendarJoins", unfollowed := true, recurses := true, apart := false, narrowed := true }
def CalendarJoinsUptoSaid : Prop := calendarJoinsUptoRow.holds Try.pinned (OpenSpec.upto calendarJoinsSpec)

end Rows
end Go.Proofs.Ytmbbpimihnojeaa
