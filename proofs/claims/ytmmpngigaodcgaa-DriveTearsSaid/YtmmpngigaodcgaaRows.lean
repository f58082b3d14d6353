/-
  No cell of these rows narrows 'for every input' (looked for: loops, veiled, ifaces, maps, wideKeys, modest, calm, conditions, laid).
  DERIVED. THE GIVEN ROWS OF THIS SEAT. 6 by the template 'for every input the law returns true; each argument reads behind the call as it read before'; 0 by the template 'total and deterministic' (their statements: YtmmpngigaodcgaaTotals.lean).
  GIVEN WITH THE SEED: the statements are not yours to turn. If you find one false, say at which input.
  Laid BY PROGRAM, IN A SANDBOX (cutbox-rows.mjs): the forced cells as the released guide's own fill.sh prints them over the translation 7bb85076779e336b… (all of the seat's roots in one cut). By AI agents, Wed Nov 11 2026. No macro, syntax, notation, axiom, sorry.
-/
import Derived.Test.YtmmpngigaodcgaaChecked
import GoSem.Claim
import GoSem.ClaimJoined
import GoSem.ClaimMapViews
import Derived.JoinedTies
import Derived.KernelRfl
namespace Go.Proofs.Ytmmpngigaodcgaa
/- THE CELL 'sum', in the pinned program and in every row, IS THE sha256 OF THE DUMP (.gsa) THAT YtmmpngigaodcgaaProg.lean LOADS. Nothing in Lean hashes anything: it is a label: what it is worth is what the hold of that sum in a sandbox is worth. -/
noncomputable def Try.pinned : Pinned := { name := "ytmmpngigaodcgaa", sum := "7bb85076779e336b5e7d591fbec51933617710f33e67ff0f0a2d60215f7f8781", checked := Try.checked }
namespace Rows
def none {H : Type} : Left H := { results := [], args := [] }

/-- 'tempolaw33.DrivePlans': WHATEVER THE INPUT: true; the input reads as it did. -/
def drivePlansSpec : ChangeSpec := { name := "drivePlans", fn := fun _ => fun
  | [d] => { results := [.lit (.bool true)], args := [d] }
  | _ => none }
def drivePlansRow : OpenClaim := { program := "ytmmpngigaodcgaa", sum := "7bb85076779e336b5e7d591fbec51933617710f33e67ff0f0a2d60215f7f8781", func := "tempo/tempolaw33.DrivePlans", spec := "drivePlans", inPlace := ["internal/bytealg.MakeNoZero"], unfollowed := true, recurses := true, apart := false }
def DrivePlansSaid : Prop := drivePlansRow.holds Try.pinned (OpenSpec.ofChange drivePlansSpec)

/-- ITS FALSE NEIGHBOUR: 'it returns false'. Refute it at one input. -/
def drivePlansWrong : ChangeSpec := { name := "drivePlans", fn := fun _ => fun
  | [d] => { results := [.lit (.bool false)], args := [d] }
  | _ => none }
def DrivePlansWrongFalsely : Prop := drivePlansRow.holds Try.pinned (OpenSpec.ofChange drivePlansWrong)

/-- 'tempolaw33.DriveTears': WHATEVER THE INPUT: true; the input reads as it did. -/
def driveTearsSpec : ChangeSpec := { name := "driveTears", fn := fun _ => fun
  | [d1, d2, d3, d4] => { results := [.lit (.bool true)], args := [d1, d2, d3, d4] }
  | _ => none }
def driveTearsRow : OpenClaim := { program := "ytmmpngigaodcgaa", sum := "7bb85076779e336b5e7d591fbec51933617710f33e67ff0f0a2d60215f7f8781", func := "tempo/tempolaw33.DriveTears", spec := "driveTears", inPlace := ["internal/bytealg.MakeNoZero"], unfollowed := true, recurses := true, apart := false }
def DriveTearsSaid : Prop := driveTearsRow.holds Try.pinned (OpenSpec.ofChange driveTearsSpec)

/-- ITS FALSE NEIGHBOUR: 'it returns false'. Refute it at one input. -/
def driveTearsWrong : ChangeSpec := { name := "driveTears", fn := fun _ => fun
  | [d1, d2, d3, d4] => { results := [.lit (.bool false)], args := [d1, d2, d3, d4] }
  | _ => none }
def DriveTearsWrongFalsely : Prop := driveTearsRow.holds Try.pinned (OpenSpec.ofChange driveTearsWrong)

/-- 'tempolaw33.DriveCounts': WHATEVER THE INPUT: true; the input reads as it did. -/
def driveCountsSpec : ChangeSpec := { name := "driveCounts", fn := fun _ => fun
  | [d1, d2, d3] => { results := [.lit (.bool true)], args := [d1, d2, d3] }
  | _ => none }
def driveCountsRow : OpenClaim := { program := "ytmmpngigaodcgaa", sum := "7bb85076779e336b5e7d591fbec51933617710f33e67ff0f0a2d60215f7f8781", func := "tempo/tempolaw33.DriveCounts", spec := "driveCounts", inPlace := ["internal/bytealg.MakeNoZero"], unfollowed := true, recurses := true, apart := false }
def DriveCountsSaid : Prop := driveCountsRow.holds Try.pinned (OpenSpec.ofChange driveCountsSpec)

/-- ITS FALSE NEIGHBOUR: 'it returns false'. Refute it at one input. -/
def driveCountsWrong : ChangeSpec := { name := "driveCounts", fn := fun _ => fun
  | [d1, d2, d3] => { results := [.lit (.bool false)], args := [d1, d2, d3] }
  | _ => none }
def DriveCountsWrongFalsely : Prop := driveCountsRow.holds Try.pinned (OpenSpec.ofChange driveCountsWrong)

/-- 'tempolaw33.DrivePlanned': WHATEVER THE INPUT: true; the input reads as it did. -/
def drivePlannedSpec : ChangeSpec := { name := "drivePlanned", fn := fun _ => fun
  | [d1, d2] => { results := [.lit (.bool true)], args := [d1, d2] }
  | _ => none }
def drivePlannedRow : OpenClaim := { program := "ytmmpngigaodcgaa", sum := "7bb85076779e336b5e7d591fbec51933617710f33e67ff0f0a2d60215f7f8781", func := "tempo/tempolaw33.DrivePlanned", spec := "drivePlanned", inPlace := ["maps.clone", "internal/bytealg.MakeNoZero"], unfollowed := true, recurses := true, apart := false }
def DrivePlannedSaid : Prop := drivePlannedRow.holds Try.pinned (OpenSpec.ofChange drivePlannedSpec)

/-- ITS FALSE NEIGHBOUR: 'it returns false'. Refute it at one input. -/
def drivePlannedWrong : ChangeSpec := { name := "drivePlanned", fn := fun _ => fun
  | [d1, d2] => { results := [.lit (.bool false)], args := [d1, d2] }
  | _ => none }
def DrivePlannedWrongFalsely : Prop := drivePlannedRow.holds Try.pinned (OpenSpec.ofChange drivePlannedWrong)

/-- 'tempolaw33.DriveApart': WHATEVER THE INPUT: true; the input reads as it did. -/
def driveApartSpec : ChangeSpec := { name := "driveApart", fn := fun _ => fun
  | [d1, d2] => { results := [.lit (.bool true)], args := [d1, d2] }
  | _ => none }
def driveApartRow : OpenClaim := { program := "ytmmpngigaodcgaa", sum := "7bb85076779e336b5e7d591fbec51933617710f33e67ff0f0a2d60215f7f8781", func := "tempo/tempolaw33.DriveApart", spec := "driveApart", inPlace := ["internal/bytealg.MakeNoZero", "maps.clone"], unfollowed := true, recurses := true, apart := false }
def DriveApartSaid : Prop := driveApartRow.holds Try.pinned (OpenSpec.ofChange driveApartSpec)

/-- ITS FALSE NEIGHBOUR: 'it returns false'. Refute it at one input. -/
def driveApartWrong : ChangeSpec := { name := "driveApart", fn := fun _ => fun
  | [d1, d2] => { results := [.lit (.bool false)], args := [d1, d2] }
  | _ => none }
def DriveApartWrongFalsely : Prop := driveApartRow.holds Try.pinned (OpenSpec.ofChange driveApartWrong)

/-- 'tempolaw33.DriveRefuses': WHATEVER THE INPUT: true; the input reads as it did. -/
def driveRefusesSpec : ChangeSpec := { name := "driveRefuses", fn := fun _ => fun
  | [d] => { results := [.lit (.bool true)], args := [d] }
  | _ => none }
def driveRefusesRow : OpenClaim := { program := "ytmmpngigaodcgaa", sum := "7bb85076779e336b5e7d591fbec51933617710f33e67ff0f0a2d60215f7f8781", func := "tempo/tempolaw33.DriveRefuses", spec := "driveRefuses", inPlace := ["maps.clone", "internal/bytealg.MakeNoZero"], unfollowed := true, recurses := true, apart := false }
def DriveRefusesSaid : Prop := driveRefusesRow.holds Try.pinned (OpenSpec.ofChange driveRefusesSpec)

/-- ITS FALSE NEIGHBOUR: 'it returns false'. Refute it at one input. -/
def driveRefusesWrong : ChangeSpec := { name := "driveRefuses", fn := fun _ => fun
  | [d] => { results := [.lit (.bool false)], args := [d] }
  | _ => none }
def DriveRefusesWrongFalsely : Prop := driveRefusesRow.holds Try.pinned (OpenSpec.ofChange driveRefusesWrong)

/- THE SECOND FORM. 'bulk': how many values and letters a reading holds, each counted each time it is reached (what is shared counts as often as it is met; a slice's spare places count too). A statement '..UptoSaid' is the law's where the arguments, and the package variables that the reading takes, are together of bulk at most 1048576: NARROWER than '..Said'. Prove '..Said' where nothing that the law and all that it calls make is longer than what came in: it says more and counts as full. Else prove '..UptoSaid'. A law counts once. -/
mutual
def uptoBulk {H : Type} : DataW H → Nat
  | .lit (.string bytes) => bytes.length + 1
  | .lit _ => 1
  | .nil => 1
  | .ptr d => uptoBulk d + 1
  | .slice elems spare => uptoBulkAll elems + uptoBulkAll spare + 1
  | .agg parts => uptoBulkAll parts + 1
  | .iface _ d => uptoBulk d + 1
  | .map entries => uptoBulkEntries entries + 1
  | .held _ => 1
def uptoBulkAll {H : Type} : List (DataW H) → Nat
  | [] => 0
  | d :: r => uptoBulk d + uptoBulkAll r
def uptoBulkEntries {H : Type} : List (Lit × DataW H) → Nat
  | [] => 0
  | x :: r => uptoBulkEntry x + uptoBulkEntries r
def uptoBulkEntry {H : Type} : Lit × DataW H → Nat
  | (.string bytes, d) => bytes.length + uptoBulk d + 1
  | (_, d) => uptoBulk d + 1
 end
def uptoSmall : (H : Type) → List (DataW H) → Bool := fun _ ds => decide (uptoBulkAll ds ≤ 1048576)
def OpenSpec.upto (s : _root_.Go.ChangeSpec) : _root_.Go.OpenSpec := { _root_.Go.OpenSpec.ofChange s with cond := some uptoSmall }

/-- 'tempolaw33.DrivePlans', WHERE WHAT IT READS IS OF BULK AT MOST 1048576: true; the input reads as it did. -/
def drivePlansUptoRow : OpenClaim := { program := "ytmmpngigaodcgaa", sum := "7bb85076779e336b5e7d591fbec51933617710f33e67ff0f0a2d60215f7f8781", func := "tempo/tempolaw33.DrivePlans", spec := "drivePlans", inPlace := ["internal/bytealg.MakeNoZero"], unfollowed := true, recurses := true, apart := false, narrowed := true }
def DrivePlansUptoSaid : Prop := drivePlansUptoRow.holds Try.pinned (OpenSpec.upto drivePlansSpec)

/-- 'tempolaw33.DriveTears', WHERE WHAT IT READS IS OF BULK AT MOST 1048576: true; the input reads as it did. -/
def driveTearsUptoRow : OpenClaim := { program := "ytmmpngigaodcgaa", sum := "7bb85076779e336b5e7d591fbec51933617710f33e67ff0f0a2d60215f7f8781", func := "tempo/tempolaw33.DriveTears", spec := "driveTears", inPlace := ["internal/bytealg.MakeNoZero"], unfollowed := true, recurses := true, apart := false, narrowed := true }
def DriveTearsUptoSaid : Prop := driveTearsUptoRow.holds Try.pinned (OpenSpec.upto driveTearsSpec)

/-- 'tempolaw33.DriveCounts', WHERE WHAT IT READS IS OF BULK AT MOST 1048576: true; the input reads as it did. -/
def driveCountsUptoRow : OpenClaim := { program := "ytmmpngigaodcgaa", sum := "7bb85076779e336b5e7d591fbec51933617710f33e67ff0f0a2d60215f7f8781", func := "tempo/tempolaw33.DriveCounts", spec := "driveCounts", inPlace := ["internal/bytealg.MakeNoZero"], unfollowed := true, recurses := true, apart := false, narrowed := true }
def DriveCountsUptoSaid : Prop := driveCountsUptoRow.holds Try.pinned (OpenSpec.upto driveCountsSpec)

/-- 'tempolaw33.DrivePlanned', WHERE WHAT IT READS IS OF BULK AT MOST 1048576: true; the input reads as it did. -/
def drivePlannedUptoRow : OpenClaim := { program := "ytmmpngigaodcgaa", sum := "7bb85076779e336b5e7d591fbec51933617710f33e67ff0f0a2d60215f7f8781", func := "tempo/tempolaw33.DrivePlanned", spec := "drivePlanned", inPlace := ["maps.clone", "internal/bytealg.MakeNoZero"], unfollowed := true, recurses := true, apart := false, narrowed := true }
def DrivePlannedUptoSaid : Prop := drivePlannedUptoRow.holds Try.pinned (OpenSpec.upto drivePlannedSpec)

/-- 'tempolaw33.DriveApart', WHERE WHAT IT READS IS OF BULK AT MOST 1048576: true; the input reads as it did. -/
def driveApartUptoRow : OpenClaim := { program := "ytmmpngigaodcgaa", sum := "7bb85076779e336b5e7d591fbec51933617710f33e67ff0f0a2d60215f7f8781", func := "tempo/tempolaw33.DriveApart", spec := "driveApart", inPlace := ["internal/bytealg.MakeNoZero", "maps.clone"], unfollowed := true, recurses := true, apart := false, narrowed := true }
def DriveApartUptoSaid : Prop := driveApartUptoRow.holds Try.pinned (OpenSpec.upto driveApartSpec)

/-- 'tempolaw33.DriveRefuses', WHERE WHAT IT READS IS OF BULK AT MOST 1048576: true; the input reads as it did. -/
def driveRefusesUptoRow : OpenClaim := { program := "ytmmpngigaodcgaa", sum := "7bb85076779e336b5e7d591fbec51933617710f33e67ff0f0a2d60215f7f8781", func := "tempo/tempolaw33.DriveRefuses", spec := "driveRefuses", inPlace := ["maps.clone", "internal/bytealg.MakeNoZero"], unfollowed := true, recurses := true, apart := false, narrowed := true }
def DriveRefusesUptoSaid : Prop := driveRefusesUptoRow.holds Try.pinned (OpenSpec.upto driveRefusesSpec)

end Rows
end Go.Proofs.Ytmmpngigaodcgaa
