/-
  No cell of these rows narrows 'for every input' (looked for: loops, veiled, ifaces, maps, wideKeys, modest, calm, conditions, laid).
  DERIVED. THE GIVEN ROWS OF THIS SEAT. 9 by the template 'for every input the law returns true; each argument reads behind the call as it read before'; 0 by the template 'total and deterministic' (their statements: YtodoeeoihklkjaaTotals.lean).
  GIVEN WITH THE SEED: the statements are not yours to turn. If you find one false, say at which input.
  Laid BY PROGRAM, IN A SANDBOX (cutbox-rows.mjs): the forced cells as the released guide's own fill.sh prints them over the translation 84a53154ebd31ec9… (all of the seat's roots in one cut). By AI agents, Wed Nov 11 2026. No macro, syntax, notation, axiom, sorry.
-/
import Derived.Test.YtodoeeoihklkjaaChecked
import GoSem.Claim
import GoSem.ClaimJoined
import GoSem.ClaimMapViews
import Derived.JoinedTies
import Derived.KernelRfl
namespace Go.Proofs.Ytodoeeoihklkjaa
/- THE CELL 'sum', in the pinned program and in every row, IS THE sha256 OF THE DUMP (.gsa) THAT YtodoeeoihklkjaaProg.lean LOADS. Nothing in Lean hashes anything: it is a label: what it is worth is what the hold of that sum in a sandbox is worth. -/
noncomputable def Try.pinned : Pinned := { name := "ytodoeeoihklkjaa", sum := "84a53154ebd31ec9a88f287f2bf45aaee5871cfc75315a35fcc2e13e5a9489de", checked := Try.checked }
namespace Rows
def none {H : Type} : Left H := { results := [], args := [] }

/-- 'tempolaw01.BigendFixed': WHATEVER THE INPUT: true; the input reads as it did. -/
def bigendFixedSpec : ChangeSpec := { name := "bigendFixed", fn := fun _ => fun
  | [d1, d2, d3, d4] => { results := [.lit (.bool true)], args := [d1, d2, d3, d4] }
  | _ => none }
def bigendFixedRow : OpenClaim := { program := "ytodoeeoihklkjaa", sum := "84a53154ebd31ec9a88f287f2bf45aaee5871cfc75315a35fcc2e13e5a9489de", func := "tempo/tempolaw01.BigendFixed", spec := "bigendFixed", apart := false }
def BigendFixedSaid : Prop := bigendFixedRow.holds Try.pinned (OpenSpec.ofChange bigendFixedSpec)

/-- ITS FALSE NEIGHBOUR: 'it returns false'. Refute it at one input. -/
def bigendFixedWrong : ChangeSpec := { name := "bigendFixed", fn := fun _ => fun
  | [d1, d2, d3, d4] => { results := [.lit (.bool false)], args := [d1, d2, d3, d4] }
  | _ => none }
def BigendFixedWrongFalsely : Prop := bigendFixedRow.holds Try.pinned (OpenSpec.ofChange bigendFixedWrong)

/-- 'tempolaw01.BigendGroups': WHATEVER THE INPUT: true; the input reads as it did. -/
def bigendGroupsSpec : ChangeSpec := { name := "bigendGroups", fn := fun _ => fun
  | [d1, d2, d3] => { results := [.lit (.bool true)], args := [d1, d2, d3] }
  | _ => none }
def bigendGroupsRow : OpenClaim := { program := "ytodoeeoihklkjaa", sum := "84a53154ebd31ec9a88f287f2bf45aaee5871cfc75315a35fcc2e13e5a9489de", func := "tempo/tempolaw01.BigendGroups", spec := "bigendGroups", apart := false }
def BigendGroupsSaid : Prop := bigendGroupsRow.holds Try.pinned (OpenSpec.ofChange bigendGroupsSpec)

/-- ITS FALSE NEIGHBOUR: 'it returns false'. Refute it at one input. -/
def bigendGroupsWrong : ChangeSpec := { name := "bigendGroups", fn := fun _ => fun
  | [d1, d2, d3] => { results := [.lit (.bool false)], args := [d1, d2, d3] }
  | _ => none }
def BigendGroupsWrongFalsely : Prop := bigendGroupsRow.holds Try.pinned (OpenSpec.ofChange bigendGroupsWrong)

/-- 'tempolaw01.BigendCompares': WHATEVER THE INPUT: true; the input reads as it did. -/
def bigendComparesSpec : ChangeSpec := { name := "bigendCompares", fn := fun _ => fun
  | [d1, d2] => { results := [.lit (.bool true)], args := [d1, d2] }
  | _ => none }
def bigendComparesRow : OpenClaim := { program := "ytodoeeoihklkjaa", sum := "84a53154ebd31ec9a88f287f2bf45aaee5871cfc75315a35fcc2e13e5a9489de", func := "tempo/tempolaw01.BigendCompares", spec := "bigendCompares", apart := false }
def BigendComparesSaid : Prop := bigendComparesRow.holds Try.pinned (OpenSpec.ofChange bigendComparesSpec)

/-- ITS FALSE NEIGHBOUR: 'it returns false'. Refute it at one input. -/
def bigendComparesWrong : ChangeSpec := { name := "bigendCompares", fn := fun _ => fun
  | [d1, d2] => { results := [.lit (.bool false)], args := [d1, d2] }
  | _ => none }
def BigendComparesWrongFalsely : Prop := bigendComparesRow.holds Try.pinned (OpenSpec.ofChange bigendComparesWrong)

/-- 'tempolaw01.BigendOrder': WHATEVER THE INPUT: true; the input reads as it did. -/
def bigendOrderSpec : ChangeSpec := { name := "bigendOrder", fn := fun _ => fun
  | [d1, d2] => { results := [.lit (.bool true)], args := [d1, d2] }
  | _ => none }
def bigendOrderRow : OpenClaim := { program := "ytodoeeoihklkjaa", sum := "84a53154ebd31ec9a88f287f2bf45aaee5871cfc75315a35fcc2e13e5a9489de", func := "tempo/tempolaw01.BigendOrder", spec := "bigendOrder", unfollowed := true, recurses := true, apart := false }
def BigendOrderSaid : Prop := bigendOrderRow.holds Try.pinned (OpenSpec.ofChange bigendOrderSpec)

/-- ITS FALSE NEIGHBOUR: 'it returns false'. Refute it at one input. -/
def bigendOrderWrong : ChangeSpec := { name := "bigendOrder", fn := fun _ => fun
  | [d1, d2] => { results := [.lit (.bool false)], args := [d1, d2] }
  | _ => none }
def BigendOrderWrongFalsely : Prop := bigendOrderRow.holds Try.pinned (OpenSpec.ofChange bigendOrderWrong)

/-- 'tempolaw01.BigendShortest': WHATEVER THE INPUT: true; the input reads as it did. -/
def bigendShortestSpec : ChangeSpec := { name := "bigendShortest", fn := fun _ => fun
  | [d1, d2] => { results := [.lit (.bool true)], args := [d1, d2] }
  | _ => none }
def bigendShortestRow : OpenClaim := { program := "ytodoeeoihklkjaa", sum := "84a53154ebd31ec9a88f287f2bf45aaee5871cfc75315a35fcc2e13e5a9489de", func := "tempo/tempolaw01.BigendShortest", spec := "bigendShortest", apart := false }
def BigendShortestSaid : Prop := bigendShortestRow.holds Try.pinned (OpenSpec.ofChange bigendShortestSpec)

/-- ITS FALSE NEIGHBOUR: 'it returns false'. Refute it at one input. -/
def bigendShortestWrong : ChangeSpec := { name := "bigendShortest", fn := fun _ => fun
  | [d1, d2] => { results := [.lit (.bool false)], args := [d1, d2] }
  | _ => none }
def BigendShortestWrongFalsely : Prop := bigendShortestRow.holds Try.pinned (OpenSpec.ofChange bigendShortestWrong)

/-- 'tempolaw01.BigendReads': WHATEVER THE INPUT: true; the input reads as it did. -/
def bigendReadsSpec : ChangeSpec := { name := "bigendReads", fn := fun _ => fun
  | [d1, d2] => { results := [.lit (.bool true)], args := [d1, d2] }
  | _ => none }
def bigendReadsRow : OpenClaim := { program := "ytodoeeoihklkjaa", sum := "84a53154ebd31ec9a88f287f2bf45aaee5871cfc75315a35fcc2e13e5a9489de", func := "tempo/tempolaw01.BigendReads", spec := "bigendReads", apart := false }
def BigendReadsSaid : Prop := bigendReadsRow.holds Try.pinned (OpenSpec.ofChange bigendReadsSpec)

/-- ITS FALSE NEIGHBOUR: 'it returns false'. Refute it at one input. -/
def bigendReadsWrong : ChangeSpec := { name := "bigendReads", fn := fun _ => fun
  | [d1, d2] => { results := [.lit (.bool false)], args := [d1, d2] }
  | _ => none }
def BigendReadsWrongFalsely : Prop := bigendReadsRow.holds Try.pinned (OpenSpec.ofChange bigendReadsWrong)

/-- 'tempolaw01.BigendTotal': WHATEVER THE INPUT: true; the input reads as it did. -/
def bigendTotalSpec : ChangeSpec := { name := "bigendTotal", fn := fun _ => fun
  | [d1, d2, d3] => { results := [.lit (.bool true)], args := [d1, d2, d3] }
  | _ => none }
def bigendTotalRow : OpenClaim := { program := "ytodoeeoihklkjaa", sum := "84a53154ebd31ec9a88f287f2bf45aaee5871cfc75315a35fcc2e13e5a9489de", func := "tempo/tempolaw01.BigendTotal", spec := "bigendTotal", apart := false }
def BigendTotalSaid : Prop := bigendTotalRow.holds Try.pinned (OpenSpec.ofChange bigendTotalSpec)

/-- ITS FALSE NEIGHBOUR: 'it returns false'. Refute it at one input. -/
def bigendTotalWrong : ChangeSpec := { name := "bigendTotal", fn := fun _ => fun
  | [d1, d2, d3] => { results := [.lit (.bool false)], args := [d1, d2, d3] }
  | _ => none }
def BigendTotalWrongFalsely : Prop := bigendTotalRow.holds Try.pinned (OpenSpec.ofChange bigendTotalWrong)

/-- 'tempolaw01.BigendRefuses': WHATEVER THE INPUT: true; the input reads as it did. -/
def bigendRefusesSpec : ChangeSpec := { name := "bigendRefuses", fn := fun _ => fun
  | [d1, d2] => { results := [.lit (.bool true)], args := [d1, d2] }
  | _ => none }
def bigendRefusesRow : OpenClaim := { program := "ytodoeeoihklkjaa", sum := "84a53154ebd31ec9a88f287f2bf45aaee5871cfc75315a35fcc2e13e5a9489de", func := "tempo/tempolaw01.BigendRefuses", spec := "bigendRefuses", apart := false }
def BigendRefusesSaid : Prop := bigendRefusesRow.holds Try.pinned (OpenSpec.ofChange bigendRefusesSpec)

/-- ITS FALSE NEIGHBOUR: 'it returns false'. Refute it at one input. -/
def bigendRefusesWrong : ChangeSpec := { name := "bigendRefuses", fn := fun _ => fun
  | [d1, d2] => { results := [.lit (.bool false)], args := [d1, d2] }
  | _ => none }
def BigendRefusesWrongFalsely : Prop := bigendRefusesRow.holds Try.pinned (OpenSpec.ofChange bigendRefusesWrong)

/-- 'tempolaw01.BigendBack': WHATEVER THE INPUT: true; the input reads as it did. -/
def bigendBackSpec : ChangeSpec := { name := "bigendBack", fn := fun _ => fun
  | [d1, d2, d3] => { results := [.lit (.bool true)], args := [d1, d2, d3] }
  | _ => none }
def bigendBackRow : OpenClaim := { program := "ytodoeeoihklkjaa", sum := "84a53154ebd31ec9a88f287f2bf45aaee5871cfc75315a35fcc2e13e5a9489de", func := "tempo/tempolaw01.BigendBack", spec := "bigendBack", apart := false }
def BigendBackSaid : Prop := bigendBackRow.holds Try.pinned (OpenSpec.ofChange bigendBackSpec)

/-- ITS FALSE NEIGHBOUR: 'it returns false'. Refute it at one input. -/
def bigendBackWrong : ChangeSpec := { name := "bigendBack", fn := fun _ => fun
  | [d1, d2, d3] => { results := [.lit (.bool false)], args := [d1, d2, d3] }
  | _ => none }
def BigendBackWrongFalsely : Prop := bigendBackRow.holds Try.pinned (OpenSpec.ofChange bigendBackWrong)

/- THE SECOND FORM. 'bulk': how many values and letters a reading holds, each counted each time it is reached (what is shared counts as often as it is met; a slice's spare places count too). A statement '..UptoSaid' is the law's where the arguments, and the package variables that the reading takes, are together of bulk at most 1048576: NARROWER than '..Said'. Prove '..Said' where nothing that the law and all that it calls make is longer than what came in: it says more and counts as full. Else prove '..UptoSaid'. A law counts once. -/
mutual
def uptoBulk {H : Type} : DataW H → Nat
  | .lit (.string bytes) => bytes.length + 1
  | .lit _ => 1
  | .nil => 1
  | .ptr d => uptoBulk d + 1
  | .slice elems spare => uptoBulkAll elems + uptoBulkAll spare + 1
  | .agg parts => uptoBulkAll parts + 1
  | .iface _ d => uptoBulk d + 1
  | .map entries => uptoBulkEntries entries + 1
  | .held _ => 1
def uptoBulkAll {H : Type} : List (DataW H) → Nat
  | [] => 0
  | d :: r => uptoBulk d + uptoBulkAll r
def uptoBulkEntries {H : Type} : List (Lit × DataW H) → Nat
  | [] => 0
  | x :: r => uptoBulkEntry x + uptoBulkEntries r
def uptoBulkEntry {H : Type} : Lit × DataW H → Nat
  | (.string bytes, d) => bytes.length + uptoBulk d + 1
  | (_, d) => uptoBulk d + 1
 end
def uptoSmall : (H : Type) → List (DataW H) → Bool := fun _ ds => decide (uptoBulkAll ds ≤ 1048576)
def OpenSpec.upto (s : _root_.Go.ChangeSpec) : _root_.Go.OpenSpec := { _root_.Go.OpenSpec.ofChange s with cond := some uptoSmall }

/-- 'tempolaw01.BigendFixed', WHERE WHAT IT READS IS OF BULK AT MOST 1048576: true; the input reads as it did. -/
def bigendFixedUptoRow : OpenClaim := { program := "ytodoeeoihklkjaa", sum := "84a53154ebd31ec9a88f287f2bf45aaee5871cfc75315a35fcc2e13e5a9489de", func := "tempo/tempolaw01.BigendFixed", spec := "bigendFixed", apart := false, narrowed := true }
def BigendFixedUptoSaid : Prop := bigendFixedUptoRow.holds Try.pinned (OpenSpec.upto bigendFixedSpec)

/-- 'tempolaw01.BigendGroups', WHERE WHAT IT READS IS OF BULK AT MOST 1048576: true; the input reads as it did. -/
def bigendGroupsUptoRow : OpenClaim := { program := "ytodoeeoihklkjaa", sum := "84a53154ebd31ec9a88f287f2bf45aaee5871cfc75315a35fcc2e13e5a9489de", func := "tempo/tempolaw01.BigendGroups", spec := "bigendGroups", apart := false, narrowed := true }
def BigendGroupsUptoSaid : Prop := bigendGroupsUptoRow.holds Try.pinned (OpenSpec.upto bigendGroupsSpec)

/-- 'tempolaw01.BigendCompares', WHERE WHAT IT READS IS OF BULK AT MOST 1048576: true; the input reads as it did. -/
def bigendComparesUptoRow : OpenClaim := { program := "ytodoeeoihklkjaa", sum := "84a53154ebd31ec9a88f287f2bf45aaee5871cfc75315a35fcc2e13e5a9489de", func := "tempo/tempolaw01.BigendCompares", spec := "bigendCompares", apart := false, narrowed := true }
def BigendComparesUptoSaid : Prop := bigendComparesUptoRow.holds Try.pinned (OpenSpec.upto bigendComparesSpec)

/-- 'tempolaw01.BigendOrder', WHERE WHAT IT READS IS OF BULK AT MOST 1048576: true; the input reads as it did. -/
def bigendOrderUptoRow : OpenClaim := { program := "ytodoeeoihklkjaa", sum := "84a53154ebd31ec9a88f287f2bf45aaee5871cfc75315a35fcc2e13e5a9489de", func := "tempo/tempolaw01.BigendOrder", spec := "bigendOrder", unfollowed := true, recurses := true, apart := false, narrowed := true }
def BigendOrderUptoSaid : Prop := bigendOrderUptoRow.holds Try.pinned (OpenSpec.upto bigendOrderSpec)

/-- 'tempolaw01.BigendShortest', WHERE WHAT IT READS IS OF BULK AT MOST 1048576: true; the input reads as it did. -/
def bigendShortestUptoRow : OpenClaim := { program := "ytodoeeoihklkjaa", sum := "84a53154ebd31ec9a88f287f2bf45aaee5871cfc75315a35fcc2e13e5a9489de", func := "tempo/tempolaw01.BigendShortest", spec := "bigendShortest", apart := false, narrowed := true }
def BigendShortestUptoSaid : Prop := bigendShortestUptoRow.holds Try.pinned (OpenSpec.upto bigendShortestSpec)

/-- 'tempolaw01.BigendReads', WHERE WHAT IT READS IS OF BULK AT MOST 1048576: true; the input reads as it did. -/
def bigendReadsUptoRow : OpenClaim := { program := "ytodoeeoihklkjaa", sum := "84a53154ebd31ec9a88f287f2bf45aaee5871cfc75315a35fcc2e13e5a9489de", func := "tempo/tempolaw01.BigendReads", spec := "bigendReads", apart := false, narrowed := true }
def BigendReadsUptoSaid : Prop := bigendReadsUptoRow.holds Try.pinned (OpenSpec.upto bigendReadsSpec)

/-- 'tempolaw01.BigendTotal', WHERE WHAT IT READS IS OF BULK AT MOST 1048576: true; the input reads as it did. -/
def bigendTotalUptoRow : OpenClaim := { program := "ytodoeeoihklkjaa", sum := "84a53154ebd31ec9a88f287f2bf45aaee5871cfc75315a35fcc2e13e5a9489de", func := "tempo/tempolaw01.BigendTotal", spec := "bigendTotal", apart := false, narrowed := true }
def BigendTotalUptoSaid : Prop := bigendTotalUptoRow.holds Try.pinned (OpenSpec.upto bigendTotalSpec)

/-- 'tempolaw01.BigendRefuses', WHERE WHAT IT READS IS OF BULK AT MOST 1048576: true; the input reads as it did. -/
def bigendRefusesUptoRow : OpenClaim := { program := "ytodoeeoihklkjaa", sum := "84a53154ebd31ec9a88f287f2bf45aaee5871cfc75315a35fcc2e13e5a9489de", func := "tempo/tempolaw01.BigendRefuses", spec := "bigendRefuses", apart := false, narrowed := true }
def BigendRefusesUptoSaid : Prop := bigendRefusesUptoRow.holds Try.pinned (OpenSpec.upto bigendRefusesSpec)

/-- 'tempolaw01.BigendBack', WHERE WHAT IT READS IS OF BULK AT MOST 1048576: true; the input reads as it did. -/
def bigendBackUptoRow : OpenClaim := { program := "ytodoeeoihklkjaa", sum := "84a53154ebd31ec9a88f287f2bf45aaee5871cfc75315a35fcc2e13e5a9489de", func := "tempo/tempolaw01.BigendBack", spec := "bigendBack", apart := false, narrowed := true }
def BigendBackUptoSaid : Prop := bigendBackUptoRow.holds Try.pinned (OpenSpec.upto bigendBackSpec)

end Rows
end Go.Proofs.Ytodoeeoihklkjaa
