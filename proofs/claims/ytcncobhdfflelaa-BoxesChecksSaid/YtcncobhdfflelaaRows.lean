/-
  No cell of these rows narrows 'for every input' (looked for: loops, veiled, ifaces, maps, wideKeys, modest, calm, conditions, laid).
  DERIVED. THE GIVEN ROWS OF THIS SEAT. 6 by the template 'for every input the law returns true; each argument reads behind the call as it read before'; 0 by the template 'total and deterministic' (their statements: YtcncobhdfflelaaTotals.lean).
  GIVEN WITH THE SEED: the statements are not yours to turn. If you find one false, say at which input.
  Laid BY PROGRAM, IN A SANDBOX (cutbox-rows.mjs): the forced cells as the released guide's own fill.sh prints them over the translation 94f3c5982bde3a18… (all of the seat's roots in one cut). By AI agents, Wed Nov 11 2026. No macro, syntax, notation, axiom, sorry.
-/
import Derived.Test.YtcncobhdfflelaaChecked
import GoSem.Claim
import GoSem.ClaimJoined
import GoSem.ClaimMapViews
import Derived.JoinedTies
import Derived.KernelRfl
namespace Go.Proofs.Ytcncobhdfflelaa
/- THE CELL 'sum', in the pinned program and in every row, IS THE sha256 OF THE DUMP (.gsa) THAT YtcncobhdfflelaaProg.lean LOADS. Nothing in Lean hashes anything: it is a label: what it is worth is what the hold of that sum in a sandbox is worth. -/
noncomputable def Try.pinned : Pinned := { name := "ytcncobhdfflelaa", sum := "94f3c5982bde3a188804d36c022ccddd39efc27acc70ab69bf7112817ae4dc4d", checked := Try.checked }
namespace Rows
def none {H : Type} : Left H := { results := [], args := [] }

/-- 'retroactlaw35.BoxesSolves': WHATEVER THE INPUT: true; the input reads as it did. -/
def boxesSolvesSpec : ChangeSpec := { name := "boxesSolves", fn := fun _ => fun
  | [d1, d2, d3, d4] => { results := [.lit (.bool true)], args := [d1, d2, d3, d4] }
  | _ => none }
def boxesSolvesRow : OpenClaim := { program := "ytcncobhdfflelaa", sum := "94f3c5982bde3a188804d36c022ccddd39efc27acc70ab69bf7112817ae4dc4d", func := "retroact/retroactlaw35.BoxesSolves", spec := "boxesSolves", inPlace := ["math/bits.Add64"], unfollowed := true, recurses := true, apart := false }
def BoxesSolvesSaid : Prop := boxesSolvesRow.holds Try.pinned (OpenSpec.ofChange boxesSolvesSpec)

/-- ITS FALSE NEIGHBOUR: 'it returns false'. Refute it at one input. -/
def boxesSolvesWrong : ChangeSpec := { name := "boxesSolves", fn := fun _ => fun
  | [d1, d2, d3, d4] => { results := [.lit (.bool false)], args := [d1, d2, d3, d4] }
  | _ => none }
def BoxesSolvesWrongFalsely : Prop := boxesSolvesRow.holds Try.pinned (OpenSpec.ofChange boxesSolvesWrong)

/-- 'retroactlaw35.BoxesChecks': WHATEVER THE INPUT: true; the input reads as it did. -/
def boxesChecksSpec : ChangeSpec := { name := "boxesChecks", fn := fun _ => fun
  | [d1, d2, d3, d4] => { results := [.lit (.bool true)], args := [d1, d2, d3, d4] }
  | _ => none }
def boxesChecksRow : OpenClaim := { program := "ytcncobhdfflelaa", sum := "94f3c5982bde3a188804d36c022ccddd39efc27acc70ab69bf7112817ae4dc4d", func := "retroact/retroactlaw35.BoxesChecks", spec := "boxesChecks", inPlace := ["math/bits.Add64"], unfollowed := true, recurses := true, apart := false }
def BoxesChecksSaid : Prop := boxesChecksRow.holds Try.pinned (OpenSpec.ofChange boxesChecksSpec)

/-- ITS FALSE NEIGHBOUR: 'it returns false'. Refute it at one input. -/
def boxesChecksWrong : ChangeSpec := { name := "boxesChecks", fn := fun _ => fun
  | [d1, d2, d3, d4] => { results := [.lit (.bool false)], args := [d1, d2, d3, d4] }
  | _ => none }
def BoxesChecksWrongFalsely : Prop := boxesChecksRow.holds Try.pinned (OpenSpec.ofChange boxesChecksWrong)

/-- 'retroactlaw35.BoxesFull': WHATEVER THE INPUT: true; the input reads as it did. -/
def boxesFullSpec : ChangeSpec := { name := "boxesFull", fn := fun _ => fun
  | [d1, d2, d3, d4, d5] => { results := [.lit (.bool true)], args := [d1, d2, d3, d4, d5] }
  | _ => none }
def boxesFullRow : OpenClaim := { program := "ytcncobhdfflelaa", sum := "94f3c5982bde3a188804d36c022ccddd39efc27acc70ab69bf7112817ae4dc4d", func := "retroact/retroactlaw35.BoxesFull", spec := "boxesFull", inPlace := ["math/bits.Add64"], unfollowed := true, recurses := true, apart := false }
def BoxesFullSaid : Prop := boxesFullRow.holds Try.pinned (OpenSpec.ofChange boxesFullSpec)

/-- ITS FALSE NEIGHBOUR: 'it returns false'. Refute it at one input. -/
def boxesFullWrong : ChangeSpec := { name := "boxesFull", fn := fun _ => fun
  | [d1, d2, d3, d4, d5] => { results := [.lit (.bool false)], args := [d1, d2, d3, d4, d5] }
  | _ => none }
def BoxesFullWrongFalsely : Prop := boxesFullRow.holds Try.pinned (OpenSpec.ofChange boxesFullWrong)

/-- 'retroactlaw35.BoxesEdits': WHATEVER THE INPUT: true; the input reads as it did. -/
def boxesEditsSpec : ChangeSpec := { name := "boxesEdits", fn := fun _ => fun
  | [d1, d2, d3, d4, d5] => { results := [.lit (.bool true)], args := [d1, d2, d3, d4, d5] }
  | _ => none }
def boxesEditsRow : OpenClaim := { program := "ytcncobhdfflelaa", sum := "94f3c5982bde3a188804d36c022ccddd39efc27acc70ab69bf7112817ae4dc4d", func := "retroact/retroactlaw35.BoxesEdits", spec := "boxesEdits", inPlace := ["math/bits.Add64"], unfollowed := true, recurses := true, apart := false }
def BoxesEditsSaid : Prop := boxesEditsRow.holds Try.pinned (OpenSpec.ofChange boxesEditsSpec)

/-- ITS FALSE NEIGHBOUR: 'it returns false'. Refute it at one input. -/
def boxesEditsWrong : ChangeSpec := { name := "boxesEdits", fn := fun _ => fun
  | [d1, d2, d3, d4, d5] => { results := [.lit (.bool false)], args := [d1, d2, d3, d4, d5] }
  | _ => none }
def BoxesEditsWrongFalsely : Prop := boxesEditsRow.holds Try.pinned (OpenSpec.ofChange boxesEditsWrong)

/-- 'retroactlaw35.BoxesCounts': WHATEVER THE INPUT: true; the input reads as it did. -/
def boxesCountsSpec : ChangeSpec := { name := "boxesCounts", fn := fun _ => fun
  | [d1, d2, d3] => { results := [.lit (.bool true)], args := [d1, d2, d3] }
  | _ => none }
def boxesCountsRow : OpenClaim := { program := "ytcncobhdfflelaa", sum := "94f3c5982bde3a188804d36c022ccddd39efc27acc70ab69bf7112817ae4dc4d", func := "retroact/retroactlaw35.BoxesCounts", spec := "boxesCounts", inPlace := ["math/bits.Add64"], unfollowed := true, recurses := true, apart := false }
def BoxesCountsSaid : Prop := boxesCountsRow.holds Try.pinned (OpenSpec.ofChange boxesCountsSpec)

/-- ITS FALSE NEIGHBOUR: 'it returns false'. Refute it at one input. -/
def boxesCountsWrong : ChangeSpec := { name := "boxesCounts", fn := fun _ => fun
  | [d1, d2, d3] => { results := [.lit (.bool false)], args := [d1, d2, d3] }
  | _ => none }
def BoxesCountsWrongFalsely : Prop := boxesCountsRow.holds Try.pinned (OpenSpec.ofChange boxesCountsWrong)

/-- 'retroactlaw35.BoxesExact': WHATEVER THE INPUT: true; the input reads as it did. -/
def boxesExactSpec : ChangeSpec := { name := "boxesExact", fn := fun _ => fun
  | [d1, d2, d3, d4, d5] => { results := [.lit (.bool true)], args := [d1, d2, d3, d4, d5] }
  | _ => none }
def boxesExactRow : OpenClaim := { program := "ytcncobhdfflelaa", sum := "94f3c5982bde3a188804d36c022ccddd39efc27acc70ab69bf7112817ae4dc4d", func := "retroact/retroactlaw35.BoxesExact", spec := "boxesExact", inPlace := ["math/bits.Add64"], unfollowed := true, recurses := true, apart := false }
def BoxesExactSaid : Prop := boxesExactRow.holds Try.pinned (OpenSpec.ofChange boxesExactSpec)

/-- ITS FALSE NEIGHBOUR: 'it returns false'. Refute it at one input. -/
def boxesExactWrong : ChangeSpec := { name := "boxesExact", fn := fun _ => fun
  | [d1, d2, d3, d4, d5] => { results := [.lit (.bool false)], args := [d1, d2, d3, d4, d5] }
  | _ => none }
def BoxesExactWrongFalsely : Prop := boxesExactRow.holds Try.pinned (OpenSpec.ofChange boxesExactWrong)

/- THE SECOND FORM. 'bulk': how many values and letters a reading holds, each counted each time it is reached (what is shared counts as often as it is met; a slice's spare places count too). A statement '..UptoSaid' is the law's where the arguments, and the package variables that the reading takes, are together of bulk at most 1048576: NARROWER than '..Said'. Prove '..Said' where nothing that the law and all that it calls make is longer than what came in: it says more and counts as full. Else prove '..UptoSaid'. A law counts once. -/
mutual
def uptoBulk {H : Type} : DataW H → Nat
  | .lit (.string bytes) => bytes.length + 1
  | .lit _ => 1
  | .nil => 1
  | .ptr d => uptoBulk d + 1
  | .slice elems spare => uptoBulkAll elems + uptoBulkAll spare + 1
  | .agg parts => uptoBulkAll parts + 1
  | .iface _ d => uptoBulk d + 1
  | .map entries => uptoBulkEntries entries + 1
  | .held _ => 1
def uptoBulkAll {H : Type} : List (DataW H) → Nat
  | [] => 0
  | d :: r => uptoBulk d + uptoBulkAll r
def uptoBulkEntries {H : Type} : List (Lit × DataW H) → Nat
  | [] => 0
  | x :: r => uptoBulkEntry x + uptoBulkEntries r
def uptoBulkEntry {H : Type} : Lit × DataW H → Nat
  | (.string bytes, d) => bytes.length + uptoBulk d + 1
  | (_, d) => uptoBulk d + 1
 end
def uptoSmall : (H : Type) → List (DataW H) → Bool := fun _ ds => decide (uptoBulkAll ds ≤ 1048576)
def OpenSpec.upto (s : _root_.Go.ChangeSpec) : _root_.Go.OpenSpec := { _root_.Go.OpenSpec.ofChange s with cond := some uptoSmall }

/-- 'retroactlaw35.BoxesSolves', WHERE WHAT IT READS IS OF BULK AT MOST 1048576: true; the input reads as it did. -/
def boxesSolvesUptoRow : OpenClaim := { program := "ytcncobhdfflelaa", sum := "94f3c5982bde3a188804d36c022ccddd39efc27acc70ab69bf7112817ae4dc4d", func := "retroact/retroactlaw35.BoxesSolves", spec := "boxesSolves", inPlace := ["math/bits.Add64"], unfollowed := true, recurses := true, apart := false, narrowed := true }
def BoxesSolvesUptoSaid : Prop := boxesSolvesUptoRow.holds Try.pinned (OpenSpec.upto boxesSolvesSpec)

/-- 'retroactlaw35.BoxesChecks', WHERE WHAT IT READS IS OF BULK AT MOST 1048576: true; the input reads as it did. -/
def boxesChecksUptoRow : OpenClaim := { program := "ytcncobhdfflelaa", sum := "94f3c5982bde3a188804d36c022ccddd39efc27acc70ab69bf7112817ae4dc4d", func := "retroact/retroactlaw35.BoxesChecks", spec := "boxesChecks", inPlace := ["math/bits.Add64"], unfollowed := true, recurses := true, apart := false, narrowed := true }
def BoxesChecksUptoSaid : Prop := boxesChecksUptoRow.holds Try.pinned (OpenSpec.upto boxesChecksSpec)

/-- 'retroactlaw35.BoxesFull', WHERE WHAT IT READS IS OF BULK AT MOST 1048576: true; the input reads as it did. -/
def boxesFullUptoRow : OpenClaim := { program := "ytcncobhdfflelaa", sum := "94f3c5982bde3a188804d36c022ccddd39efc27acc70ab69bf7112817ae4dc4d", func := "retroact/retroactlaw35.BoxesFull", spec := "boxesFull", inPlace := ["math/bits.Add64"], unfollowed := true, recurses := true, apart := false, narrowed := true }
def BoxesFullUptoSaid : Prop := boxesFullUptoRow.holds Try.pinned (OpenSpec.upto boxesFullSpec)

/-- 'retroactlaw35.BoxesEdits', WHERE WHAT IT READS IS OF BULK AT MOST 1048576: true; the input reads as it did. -/
def boxesEditsUptoRow : OpenClaim := { program := "ytcncobhdfflelaa", sum := "94f3c5982bde3a188804d36c022ccddd39efc27acc70ab69bf7112817ae4dc4d", func := "retroact/retroactlaw35.BoxesEdits", spec := "boxesEdits", inPlace := ["math/bits.Add64"], unfollowed := true, recurses := true, apart := false, narrowed := true }
def BoxesEditsUptoSaid : Prop := boxesEditsUptoRow.holds Try.pinned (OpenSpec.upto boxesEditsSpec)

/-- 'retroactlaw35.BoxesCounts', WHERE WHAT IT READS IS OF BULK AT MOST 1048576: true; the input reads as it did. -/
def boxesCountsUptoRow : OpenClaim := { program := "ytcncobhdfflelaa", sum := "94f3c5982bde3a188804d36c022ccddd39efc27acc70ab69bf7112817ae4dc4d", func := "retroact/retroactlaw35.BoxesCounts", spec := "boxesCounts", inPlace := ["math/bits.Add64"], unfollowed := true, recurses := true, apart := false, narrowed := true }
def BoxesCountsUptoSaid : Prop := boxesCountsUptoRow.holds Try.pinned (OpenSpec.upto boxesCountsSpec)

/-- 'retroactlaw35.BoxesExact', WHERE WHAT IT READS IS OF BULK AT MOST 1048576: true; the input reads as it did. -/
def boxesExactUptoRow : OpenClaim := { program := "ytcncobhdfflelaa", sum := "94f3c5982bde3a188804d36c022ccddd39efc27acc70ab69bf7112817ae4dc4d", func := "retroact/retroactlaw35.BoxesExact", spec := "boxesExact", inPlace := ["math/bits.Add64"], unfollowed := true, recurses := true, apart := false, narrowed := true }
def BoxesExactUptoSaid : Prop := boxesExactUptoRow.holds Try.pinned (OpenSpec.upto boxesExactSpec)

end Rows
end Go.Proofs.Ytcncobhdfflelaa
