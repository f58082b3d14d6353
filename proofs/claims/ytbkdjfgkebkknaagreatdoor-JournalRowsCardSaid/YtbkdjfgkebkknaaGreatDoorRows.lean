/-
  NARROWER THAN 'FOR EVERY INPUT', by the rows' own cells (each row's printed sentence says how): JournalFinds: laid · JournalPlays: laid · JournalNil: laid · JournalSpoilt: laid · JournalWrites: laid · JournalRows: laid · JournalRefuses: laid · JournalCrashes: laid.
  DERIVED. THE GIVEN ROWS OF THIS SEAT. 8 by the template 'for every input the law returns true; each argument reads behind the call as it read before'; 0 by the template 'total and deterministic' (their statements: YtbkdjfgkebkknaaGreatDoorTotals.lean).
  GIVEN WITH THE SEED: the statements are not yours to turn. If you find one false, say at which input.
  Laid BY PROGRAM, IN A SANDBOX (cutbox-rows.mjs): the forced cells as the released guide's own fill.sh prints them over the translation fc0372f1569d0f5b… (all of the seat's roots in one cut). By AI agents, Wed Nov 11 2026. No macro, syntax, notation, axiom, sorry.
-/
import Derived.Test.YtbkdjfgkebkknaaGreatDoorChecked
import GoSem.Claim
import GoSem.ClaimJoined
import GoSem.ClaimMapViews
import Derived.JoinedTies
import Derived.KernelRfl
namespace Go.Proofs.YtbkdjfgkebkknaaGreatDoor
/- THE CELL 'sum', in the pinned program and in every row, IS THE sha256 OF THE DUMP (.gsa) THAT YtbkdjfgkebkknaaGreatDoorProg.lean LOADS. Nothing in Lean hashes anything: it is a label: what it is worth is what the hold of that sum in a sandbox is worth. -/
noncomputable def Tryz.pinned : Pinned := { name := "ytbkdjfgkebkknaagreatdoor", sum := "fc0372f1569d0f5b2bf8bdd03c0262e5bf062afb5e05497a822c354aa9aaf666", checked := Tryz.checked }
namespace Rows
def none {H : Type} : Left H := { results := [], args := [] }

/- WHAT THE LISTED PACKAGE-LEVEL VARIABLES READ AS WHEN THE CALL BEGINS. Each datum BY PROGRAM (the guide's laid-datum.mjs) off the statement by which the dump's own 'gosem.cut.vars' lays the variable. In a bare row this is a premise. The card (YtbkdjfgkebkknaaGreatDoorCards.lean) ties it to the program's text. -/
def laid_tempo_frame_kinds {H : Type} : DataW H := .agg [.agg [.lit (.int .i64 0), .lit (.int .i64 0), .lit (.int .i64 0), .lit (.int .i64 0), .lit (.int .i64 0)], .agg [.lit (.int .i64 5), .lit (.int .i64 512), .lit (.int .i64 4095), .lit (.int .i64 0), .lit (.int .i64 4095)], .agg [.lit (.int .i64 1), .lit (.int .i64 0), .lit (.int .i64 0), .lit (.int .i64 1), .lit (.int .i64 4096)]]

/-- 'tempolaw35.JournalFinds': WHATEVER THE INPUT: true; the input reads as it did. -/
def journalFindsSpec : ChangeSpec := { name := "journalFinds", fn := fun _ => fun
  | [d1, d2] => { results := [.lit (.bool true)], args := [d1, d2] }
  | _ => none }
def journalFindsRow : OpenClaim := { program := "ytbkdjfgkebkknaagreatdoor", sum := "fc0372f1569d0f5b2bf8bdd03c0262e5bf062afb5e05497a822c354aa9aaf666", func := "tempo/tempolaw35.JournalFinds", spec := "journalFinds", inPlace := ["maps.clone", "internal/bytealg.MakeNoZero"], unfollowed := true, recurses := true, named := ["tempo/frame.kinds"], apart := false, laid := [("tempo/frame.kinds", laid_tempo_frame_kinds)] }
def JournalFindsSaid : Prop := journalFindsRow.holds Tryz.pinned (OpenSpec.ofChange journalFindsSpec)

/-- ITS FALSE NEIGHBOUR: 'it returns false'. Refute it at one input. -/
def journalFindsWrong : ChangeSpec := { name := "journalFinds", fn := fun _ => fun
  | [d1, d2] => { results := [.lit (.bool false)], args := [d1, d2] }
  | _ => none }
def JournalFindsWrongFalsely : Prop := journalFindsRow.holds Tryz.pinned (OpenSpec.ofChange journalFindsWrong)

/-- 'tempolaw35.JournalPlays': WHATEVER THE INPUT: true; the input reads as it did. -/
def journalPlaysSpec : ChangeSpec := { name := "journalPlays", fn := fun _ => fun
  | [d1, d2, d3, d4, d5] => { results := [.lit (.bool true)], args := [d1, d2, d3, d4, d5] }
  | _ => none }
def journalPlaysRow : OpenClaim := { program := "ytbkdjfgkebkknaagreatdoor", sum := "fc0372f1569d0f5b2bf8bdd03c0262e5bf062afb5e05497a822c354aa9aaf666", func := "tempo/tempolaw35.JournalPlays", spec := "journalPlays", inPlace := ["maps.clone", "internal/bytealg.MakeNoZero"], unfollowed := true, recurses := true, named := ["tempo/frame.kinds"], apart := false, laid := [("tempo/frame.kinds", laid_tempo_frame_kinds)] }
def JournalPlaysSaid : Prop := journalPlaysRow.holds Tryz.pinned (OpenSpec.ofChange journalPlaysSpec)

/-- ITS FALSE NEIGHBOUR: 'it returns false'. Refute it at one input. -/
def journalPlaysWrong : ChangeSpec := { name := "journalPlays", fn := fun _ => fun
  | [d1, d2, d3, d4, d5] => { results := [.lit (.bool false)], args := [d1, d2, d3, d4, d5] }
  | _ => none }
def JournalPlaysWrongFalsely : Prop := journalPlaysRow.holds Tryz.pinned (OpenSpec.ofChange journalPlaysWrong)

/-- 'tempolaw35.JournalNil': WHATEVER THE INPUT: true; the input reads as it did. -/
def journalNilSpec : ChangeSpec := { name := "journalNil", fn := fun _ => fun
  | [d1, d2, d3, d4] => { results := [.lit (.bool true)], args := [d1, d2, d3, d4] }
  | _ => none }
def journalNilRow : OpenClaim := { program := "ytbkdjfgkebkknaagreatdoor", sum := "fc0372f1569d0f5b2bf8bdd03c0262e5bf062afb5e05497a822c354aa9aaf666", func := "tempo/tempolaw35.JournalNil", spec := "journalNil", inPlace := ["maps.clone", "internal/bytealg.MakeNoZero"], unfollowed := true, recurses := true, named := ["tempo/frame.kinds"], apart := false, laid := [("tempo/frame.kinds", laid_tempo_frame_kinds)] }
def JournalNilSaid : Prop := journalNilRow.holds Tryz.pinned (OpenSpec.ofChange journalNilSpec)

/-- ITS FALSE NEIGHBOUR: 'it returns false'. Refute it at one input. -/
def journalNilWrong : ChangeSpec := { name := "journalNil", fn := fun _ => fun
  | [d1, d2, d3, d4] => { results := [.lit (.bool false)], args := [d1, d2, d3, d4] }
  | _ => none }
def JournalNilWrongFalsely : Prop := journalNilRow.holds Tryz.pinned (OpenSpec.ofChange journalNilWrong)

/-- 'tempolaw35.JournalSpoilt': WHATEVER THE INPUT: true; the input reads as it did. -/
def journalSpoiltSpec : ChangeSpec := { name := "journalSpoilt", fn := fun _ => fun
  | [d1, d2, d3] => { results := [.lit (.bool true)], args := [d1, d2, d3] }
  | _ => none }
def journalSpoiltRow : OpenClaim := { program := "ytbkdjfgkebkknaagreatdoor", sum := "fc0372f1569d0f5b2bf8bdd03c0262e5bf062afb5e05497a822c354aa9aaf666", func := "tempo/tempolaw35.JournalSpoilt", spec := "journalSpoilt", inPlace := ["maps.clone", "internal/bytealg.MakeNoZero"], unfollowed := true, recurses := true, named := ["tempo/frame.kinds"], apart := false, laid := [("tempo/frame.kinds", laid_tempo_frame_kinds)] }
def JournalSpoiltSaid : Prop := journalSpoiltRow.holds Tryz.pinned (OpenSpec.ofChange journalSpoiltSpec)

/-- ITS FALSE NEIGHBOUR: 'it returns false'. Refute it at one input. -/
def journalSpoiltWrong : ChangeSpec := { name := "journalSpoilt", fn := fun _ => fun
  | [d1, d2, d3] => { results := [.lit (.bool false)], args := [d1, d2, d3] }
  | _ => none }
def JournalSpoiltWrongFalsely : Prop := journalSpoiltRow.holds Tryz.pinned (OpenSpec.ofChange journalSpoiltWrong)

/-- 'tempolaw35.JournalWrites': WHATEVER THE INPUT: true; the input reads as it did. -/
def journalWritesSpec : ChangeSpec := { name := "journalWrites", fn := fun _ => fun
  | [d] => { results := [.lit (.bool true)], args := [d] }
  | _ => none }
def journalWritesRow : OpenClaim := { program := "ytbkdjfgkebkknaagreatdoor", sum := "fc0372f1569d0f5b2bf8bdd03c0262e5bf062afb5e05497a822c354aa9aaf666", func := "tempo/tempolaw35.JournalWrites", spec := "journalWrites", inPlace := ["maps.clone", "internal/bytealg.MakeNoZero"], unfollowed := true, recurses := true, named := ["tempo/frame.kinds"], apart := false, laid := [("tempo/frame.kinds", laid_tempo_frame_kinds)] }
def JournalWritesSaid : Prop := journalWritesRow.holds Tryz.pinned (OpenSpec.ofChange journalWritesSpec)

/-- ITS FALSE NEIGHBOUR: 'it returns false'. Refute it at one input. -/
def journalWritesWrong : ChangeSpec := { name := "journalWrites", fn := fun _ => fun
  | [d] => { results := [.lit (.bool false)], args := [d] }
  | _ => none }
def JournalWritesWrongFalsely : Prop := journalWritesRow.holds Tryz.pinned (OpenSpec.ofChange journalWritesWrong)

/-- 'tempolaw35.JournalRows': WHATEVER THE INPUT: true; the input reads as it did. -/
def journalRowsSpec : ChangeSpec := { name := "journalRows", fn := fun _ => fun
  | [d1, d2, d3, d4, d5] => { results := [.lit (.bool true)], args := [d1, d2, d3, d4, d5] }
  | _ => none }
def journalRowsRow : OpenClaim := { program := "ytbkdjfgkebkknaagreatdoor", sum := "fc0372f1569d0f5b2bf8bdd03c0262e5bf062afb5e05497a822c354aa9aaf666", func := "tempo/tempolaw35.JournalRows", spec := "journalRows", inPlace := ["maps.clone", "internal/bytealg.MakeNoZero"], unfollowed := true, recurses := true, named := ["tempo/frame.kinds"], apart := false, laid := [("tempo/frame.kinds", laid_tempo_frame_kinds)] }
def JournalRowsSaid : Prop := journalRowsRow.holds Tryz.pinned (OpenSpec.ofChange journalRowsSpec)

/-- ITS FALSE NEIGHBOUR: 'it returns false'. Refute it at one input. -/
def journalRowsWrong : ChangeSpec := { name := "journalRows", fn := fun _ => fun
  | [d1, d2, d3, d4, d5] => { results := [.lit (.bool false)], args := [d1, d2, d3, d4, d5] }
  | _ => none }
def JournalRowsWrongFalsely : Prop := journalRowsRow.holds Tryz.pinned (OpenSpec.ofChange journalRowsWrong)

/-- 'tempolaw35.JournalRefuses': WHATEVER THE INPUT: true; the input reads as it did. -/
def journalRefusesSpec : ChangeSpec := { name := "journalRefuses", fn := fun _ => fun
  | [d1, d2, d3] => { results := [.lit (.bool true)], args := [d1, d2, d3] }
  | _ => none }
def journalRefusesRow : OpenClaim := { program := "ytbkdjfgkebkknaagreatdoor", sum := "fc0372f1569d0f5b2bf8bdd03c0262e5bf062afb5e05497a822c354aa9aaf666", func := "tempo/tempolaw35.JournalRefuses", spec := "journalRefuses", inPlace := ["internal/bytealg.MakeNoZero"], unfollowed := true, recurses := true, named := ["tempo/frame.kinds"], apart := false, laid := [("tempo/frame.kinds", laid_tempo_frame_kinds)] }
def JournalRefusesSaid : Prop := journalRefusesRow.holds Tryz.pinned (OpenSpec.ofChange journalRefusesSpec)

/-- ITS FALSE NEIGHBOUR: 'it returns false'. Refute it at one input. -/
def journalRefusesWrong : ChangeSpec := { name := "journalRefuses", fn := fun _ => fun
  | [d1, d2, d3] => { results := [.lit (.bool false)], args := [d1, d2, d3] }
  | _ => none }
def JournalRefusesWrongFalsely : Prop := journalRefusesRow.holds Tryz.pinned (OpenSpec.ofChange journalRefusesWrong)

/-- 'tempolaw35.JournalCrashes': WHATEVER THE INPUT: true; the input reads as it did. -/
def journalCrashesSpec : ChangeSpec := { name := "journalCrashes", fn := fun _ => fun
  | [d1, d2, d3, d4] => { results := [.lit (.bool true)], args := [d1, d2, d3, d4] }
  | _ => none }
def journalCrashesRow : OpenClaim := { program := "ytbkdjfgkebkknaagreatdoor", sum := "fc0372f1569d0f5b2bf8bdd03c0262e5bf062afb5e05497a822c354aa9aaf666", func := "tempo/tempolaw35.JournalCrashes", spec := "journalCrashes", inPlace := ["maps.clone", "internal/bytealg.MakeNoZero"], unfollowed := true, recurses := true, named := ["tempo/frame.kinds"], apart := false, laid := [("tempo/frame.kinds", laid_tempo_frame_kinds)] }
def JournalCrashesSaid : Prop := journalCrashesRow.holds Tryz.pinned (OpenSpec.ofChange journalCrashesSpec)

/-- ITS FALSE NEIGHBOUR: 'it returns false'. Refute it at one input. -/
def journalCrashesWrong : ChangeSpec := { name := "journalCrashes", fn := fun _ => fun
  | [d1, d2, d3, d4] => { results := [.lit (.bool false)], args := [d1, d2, d3, d4] }
  | _ => none }
def JournalCrashesWrongFalsely : Prop := journalCrashesRow.holds Tryz.pinned (OpenSpec.ofChange journalCrashesWrong)

/- THE SECOND FORM. 'bulk': how many values and letters a reading holds, each counted each time it is reached (what is shared counts as often as it is met; a slice's spare places count too). A statement '..UptoSaid' is the law's where the arguments, and the package variables that the reading takes, are together of bulk at most 1048576: NARROWER than '..Said'. Prove '..Said' where nothing that the law and all that it calls make is longer than what came in: it says more and counts as full. Else prove '..UptoSaid'. A law counts once. -/
mutual
def uptoBulk {H : Type} : DataW H → Nat
  | .lit (.string bytes) => bytes.length + 1
  | .lit _ => 1
  | .nil => 1
  | .ptr d => uptoBulk d + 1
  | .slice elems spare => uptoBulkAll elems + uptoBulkAll spare + 1
  | .agg parts => uptoBulkAll parts + 1
  | .iface _ d => uptoBulk d + 1
  | .map entries => uptoBulkEntries entries + 1
  | .held _ => 1
def uptoBulkAll {H : Type} : List (DataW H) → Nat
  | [] => 0
  | d :: r => uptoBulk d + uptoBulkAll r
def uptoBulkEntries {H : Type} : List (Lit × DataW H) → Nat
  | [] => 0
  | x :: r => uptoBulkEntry x + uptoBulkEntries r
def uptoBulkEntry {H : Type} : Lit × DataW H → Nat
  | (.string bytes, d) => bytes.length + uptoBulk d + 1
  | (_, d) => uptoBulk d + 1
 end
def uptoSmall : (H : Type) → List (DataW H) → Bool := fun _ ds => decide (uptoBulkAll ds ≤ 1048576)
def OpenSpec.upto (s : _root_.Go.ChangeSpec) : _root_.Go.OpenSpec := { _root_.Go.OpenSpec.ofChange s with cond := some uptoSmall }

/-- 'tempolaw35.JournalFinds', WHERE WHAT IT READS IS OF BULK AT MOST 1048576: true; the input reads as it did. -/
def journalFindsUptoRow : OpenClaim := { program := "ytbkdjfgkebkknaagreatdoor", sum := "fc0372f1569d0f5b2bf8bdd03c0262e5bf062afb5e05497a822c354aa9aaf666", func := "tempo/tempolaw35.JournalFinds", spec := "journalFinds", inPlace := ["maps.clone", "internal/bytealg.MakeNoZero"], unfollowed := true, recurses := true, named := ["tempo/frame.kinds"], apart := false, laid := [("tempo/frame.kinds", laid_tempo_frame_kinds)], narrowed := true }
def JournalFindsUptoSaid : Prop := journalFindsUptoRow.holds Tryz.pinned (OpenSpec.upto journalFindsSpec)

/-- 'tempolaw35.JournalPlays', WHERE WHAT IT READS IS OF BULK AT MOST 1048576: true; the input reads as it did. -/
def journalPlaysUptoRow : OpenClaim := { program := "ytbkdjfgkebkknaagreatdoor", sum := "fc0372f1569d0f5b2bf8bdd03c0262e5bf062afb5e05497a822c354aa9aaf666", func := "tempo/tempolaw35.JournalPlays", spec := "journalPlays", inPlace := ["maps.clone", "internal/bytealg.MakeNoZero"], unfollowed := true, recurses := true, named := ["tempo/frame.kinds"], apart := false, laid := [("tempo/frame.kinds", laid_tempo_frame_kinds)], narrowed := true }
def JournalPlaysUptoSaid : Prop := journalPlaysUptoRow.holds Tryz.pinned (OpenSpec.upto journalPlaysSpec)

/-- 'tempolaw35.JournalNil', WHERE WHAT IT READS IS OF BULK AT MOST 1048576: true; the input reads as it did. -/
def journalNilUptoRow : OpenClaim := { program := "ytbkdjfgkebkknaagreatdoor", sum := "fc0372f1569d0f5b2bf8bdd03c0262e5bf062afb5e05497a822c354aa9aaf666", func := "tempo/tempolaw35.JournalNil", spec := "journalNil", inPlace := ["maps.clone", "internal/bytealg.MakeNoZero"], unfollowed := true, recurses := true, named := ["tempo/frame.kinds"], apart := false, laid := [("tempo/frame.kinds", laid_tempo_frame_kinds)], narrowed := true }
def JournalNilUptoSaid : Prop := journalNilUptoRow.holds Tryz.pinned (OpenSpec.upto journalNilSpec)

/-- 'tempolaw35.JournalSpoilt', WHERE WHAT IT READS IS OF BULK AT MOST 1048576: true; the input reads as it did. -/
def journalSpoiltUptoRow : OpenClaim := { program := "ytbkdjfgkebkknaagreatdoor", sum := "fc0372f1569d0f5b2bf8bdd03c0262e5bf062afb5e05497a822c354aa9aaf666", func := "tempo/tempolaw35.JournalSpoilt", spec := "journalSpoilt", inPlace := ["maps.clone", "internal/bytealg.MakeNoZero"], unfollowed := true, recurses := true, named := ["tempo/frame.kinds"], apart := false, laid := [("tempo/frame.kinds", laid_tempo_frame_kinds)], narrowed := true }
def JournalSpoiltUptoSaid : Prop := journalSpoiltUptoRow.holds Tryz.pinned (OpenSpec.upto journalSpoiltSpec)

/-- 'tempolaw35.JournalWrites', WHERE WHAT IT READS IS OF BULK AT MOST 1048576: true; the input reads as it did. -/
def journalWritesUptoRow : OpenClaim := { program := "ytbkdjfgkebkknaagreatdoor", sum := "fc0372f1569d0f5b2bf8bdd03c0262e5bf062afb5e05497a822c354aa9aaf666", func := "tempo/tempolaw35.JournalWrites", spec := "journalWrites", inPlace := ["maps.clone", "internal/bytealg.MakeNoZero"], unfollowed := true, recurses := true, named := ["tempo/frame.kinds"], apart := false, laid := [("tempo/frame.kinds", laid_tempo_frame_kinds)], narrowed := true }
def JournalWritesUptoSaid : Prop := journalWritesUptoRow.holds Tryz.pinned (OpenSpec.upto journalWritesSpec)

/-- 'tempolaw35.JournalRows', WHERE WHAT IT READS IS OF BULK AT MOST 1048576: true; the input reads as it did. -/
def journalRowsUptoRow : OpenClaim := { program := "ytbkdjfgkebkknaagreatdoor", sum := "fc0372f1569d0f5b2bf8bdd03c0262e5bf062afb5e05497a822c354aa9aaf666", func := "tempo/tempolaw35.JournalRows", spec := "journalRows", inPlace := ["maps.clone", "internal/bytealg.MakeNoZero"], unfollowed := true, recurses := true, named := ["tempo/frame.kinds"], apart := false, laid := [("tempo/frame.kinds", laid_tempo_frame_kinds)], narrowed := true }
def JournalRowsUptoSaid : Prop := journalRowsUptoRow.holds Tryz.pinned (OpenSpec.upto journalRowsSpec)

/-- 'tempolaw35.JournalRefuses', WHERE WHAT IT READS IS OF BULK AT MOST 1048576: true; the input reads as it did. -/
def journalRefusesUptoRow : OpenClaim := { program := "ytbkdjfgkebkknaagreatdoor", sum := "fc0372f1569d0f5b2bf8bdd03c0262e5bf062afb5e05497a822c354aa9aaf666", func := "tempo/tempolaw35.JournalRefuses", spec := "journalRefuses", inPlace := ["internal/bytealg.MakeNoZero"], unfollowed := true, recurses := true, named := ["tempo/frame.kinds"], apart := false, laid := [("tempo/frame.kinds", laid_tempo_frame_kinds)], narrowed := true }
def JournalRefusesUptoSaid : Prop := journalRefusesUptoRow.holds Tryz.pinned (OpenSpec.upto journalRefusesSpec)

/-- 'tempolaw35.JournalCrashes', WHERE WHAT IT READS IS OF BULK AT MOST 1048576: true; the input reads as it did. -/
def journalCrashesUptoRow : OpenClaim := { program := "ytbkdjfgkebkknaagreatdoor", sum := "fc0372f1569d0f5b2bf8bdd03c0262e5bf062afb5e05497a822c354aa9aaf666", func := "tempo/tempolaw35.JournalCrashes", spec := "journalCrashes", inPlace := ["maps.clone", "internal/bytealg.MakeNoZero"], unfollowed := true, recurses := true, named := ["tempo/frame.kinds"], apart := false, laid := [("tempo/frame.kinds", laid_tempo_frame_kinds)], narrowed := true }
def JournalCrashesUptoSaid : Prop := journalCrashesUptoRow.holds Tryz.pinned (OpenSpec.upto journalCrashesSpec)

end Rows
end Go.Proofs.YtbkdjfgkebkknaaGreatDoor
