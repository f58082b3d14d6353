/-
  No cell of these rows narrows 'for every input' (looked for: loops, veiled, ifaces, maps, wideKeys, modest, calm, conditions, laid).
  DERIVED. THE GIVEN ROWS OF THIS SEAT. 9 by the template 'for every input the law returns true; each argument reads behind the call as it read before'; 0 by the template 'total and deterministic' (their statements: YtjijjohhmokmmaaTotals.lean).
  GIVEN WITH THE SEED: the statements are not yours to turn. If you find one false, say at which input.
  Laid BY PROGRAM, IN A SANDBOX (cutbox-rows.mjs): the forced cells as the released guide's own fill.sh prints them over the translation 88646d310bb26519… (all of the seat's roots in one cut). By AI agents, Wed Nov 11 2026. No macro, syntax, notation, axiom, sorry.
-/
import Derived.Test.YtjijjohhmokmmaaChecked
import GoSem.Claim
import GoSem.ClaimJoined
import GoSem.ClaimMapViews
import Derived.JoinedTies
import Derived.KernelRfl
namespace Go.Proofs.Ytjijjohhmokmmaa
/- THE CELL 'sum', in the pinned program and in every row, IS THE sha256 OF THE DUMP (.gsa) THAT YtjijjohhmokmmaaProg.lean LOADS. Nothing in Lean hashes anything: it is a label: what it is worth is what the hold of that sum in a sandbox is worth. -/
noncomputable def Try.pinned : Pinned := { name := "ytjijjohhmokmmaa", sum := "88646d310bb26519bef3d174a4ece7c170a1d9dba7154cc751668c09a32b85ca", checked := Try.checked }
namespace Rows
def none {H : Type} : Left H := { results := [], args := [] }

/-- 'tempolaw32.SectorTears': WHATEVER THE INPUT: true; the input reads as it did. -/
def sectorTearsSpec : ChangeSpec := { name := "sectorTears", fn := fun _ => fun
  | [d1, d2, d3] => { results := [.lit (.bool true)], args := [d1, d2, d3] }
  | _ => none }
def sectorTearsRow : OpenClaim := { program := "ytjijjohhmokmmaa", sum := "88646d310bb26519bef3d174a4ece7c170a1d9dba7154cc751668c09a32b85ca", func := "tempo/tempolaw32.SectorTears", spec := "sectorTears", unfollowed := true, recurses := true, apart := false }
def SectorTearsSaid : Prop := sectorTearsRow.holds Try.pinned (OpenSpec.ofChange sectorTearsSpec)

/-- ITS FALSE NEIGHBOUR: 'it returns false'. Refute it at one input. -/
def sectorTearsWrong : ChangeSpec := { name := "sectorTears", fn := fun _ => fun
  | [d1, d2, d3] => { results := [.lit (.bool false)], args := [d1, d2, d3] }
  | _ => none }
def SectorTearsWrongFalsely : Prop := sectorTearsRow.holds Try.pinned (OpenSpec.ofChange sectorTearsWrong)

/-- 'tempolaw32.SectorTorn': WHATEVER THE INPUT: true; the input reads as it did. -/
def sectorTornSpec : ChangeSpec := { name := "sectorTorn", fn := fun _ => fun
  | [d1, d2, d3, d4] => { results := [.lit (.bool true)], args := [d1, d2, d3, d4] }
  | _ => none }
def sectorTornRow : OpenClaim := { program := "ytjijjohhmokmmaa", sum := "88646d310bb26519bef3d174a4ece7c170a1d9dba7154cc751668c09a32b85ca", func := "tempo/tempolaw32.SectorTorn", spec := "sectorTorn", unfollowed := true, recurses := true, apart := false }
def SectorTornSaid : Prop := sectorTornRow.holds Try.pinned (OpenSpec.ofChange sectorTornSpec)

/-- ITS FALSE NEIGHBOUR: 'it returns false'. Refute it at one input. -/
def sectorTornWrong : ChangeSpec := { name := "sectorTorn", fn := fun _ => fun
  | [d1, d2, d3, d4] => { results := [.lit (.bool false)], args := [d1, d2, d3, d4] }
  | _ => none }
def SectorTornWrongFalsely : Prop := sectorTornRow.holds Try.pinned (OpenSpec.ofChange sectorTornWrong)

/-- 'tempolaw32.SectorKnown': WHATEVER THE INPUT: true; the input reads as it did. -/
def sectorKnownSpec : ChangeSpec := { name := "sectorKnown", fn := fun _ => fun
  | [] => { results := [.lit (.bool true)], args := [] }
  | _ => none }
def sectorKnownRow : OpenClaim := { program := "ytjijjohhmokmmaa", sum := "88646d310bb26519bef3d174a4ece7c170a1d9dba7154cc751668c09a32b85ca", func := "tempo/tempolaw32.SectorKnown", spec := "sectorKnown", unfollowed := true, recurses := true, apart := false }
def SectorKnownSaid : Prop := sectorKnownRow.holds Try.pinned (OpenSpec.ofChange sectorKnownSpec)

/-- ITS FALSE NEIGHBOUR: 'it returns false'. Refute it at one input. -/
def sectorKnownWrong : ChangeSpec := { name := "sectorKnown", fn := fun _ => fun
  | [] => { results := [.lit (.bool false)], args := [] }
  | _ => none }
def SectorKnownWrongFalsely : Prop := sectorKnownRow.holds Try.pinned (OpenSpec.ofChange sectorKnownWrong)

/-- 'tempolaw32.SectorKept': WHATEVER THE INPUT: true; the input reads as it did. -/
def sectorKeptSpec : ChangeSpec := { name := "sectorKept", fn := fun _ => fun
  | [d1, d2] => { results := [.lit (.bool true)], args := [d1, d2] }
  | _ => none }
def sectorKeptRow : OpenClaim := { program := "ytjijjohhmokmmaa", sum := "88646d310bb26519bef3d174a4ece7c170a1d9dba7154cc751668c09a32b85ca", func := "tempo/tempolaw32.SectorKept", spec := "sectorKept", unfollowed := true, recurses := true, apart := false }
def SectorKeptSaid : Prop := sectorKeptRow.holds Try.pinned (OpenSpec.ofChange sectorKeptSpec)

/-- ITS FALSE NEIGHBOUR: 'it returns false'. Refute it at one input. -/
def sectorKeptWrong : ChangeSpec := { name := "sectorKept", fn := fun _ => fun
  | [d1, d2] => { results := [.lit (.bool false)], args := [d1, d2] }
  | _ => none }
def SectorKeptWrongFalsely : Prop := sectorKeptRow.holds Try.pinned (OpenSpec.ofChange sectorKeptWrong)

/-- 'tempolaw32.SectorRefuses': WHATEVER THE INPUT: true; the input reads as it did. -/
def sectorRefusesSpec : ChangeSpec := { name := "sectorRefuses", fn := fun _ => fun
  | [d1, d2, d3] => { results := [.lit (.bool true)], args := [d1, d2, d3] }
  | _ => none }
def sectorRefusesRow : OpenClaim := { program := "ytjijjohhmokmmaa", sum := "88646d310bb26519bef3d174a4ece7c170a1d9dba7154cc751668c09a32b85ca", func := "tempo/tempolaw32.SectorRefuses", spec := "sectorRefuses", unfollowed := true, recurses := true, apart := false }
def SectorRefusesSaid : Prop := sectorRefusesRow.holds Try.pinned (OpenSpec.ofChange sectorRefusesSpec)

/-- ITS FALSE NEIGHBOUR: 'it returns false'. Refute it at one input. -/
def sectorRefusesWrong : ChangeSpec := { name := "sectorRefuses", fn := fun _ => fun
  | [d1, d2, d3] => { results := [.lit (.bool false)], args := [d1, d2, d3] }
  | _ => none }
def SectorRefusesWrongFalsely : Prop := sectorRefusesRow.holds Try.pinned (OpenSpec.ofChange sectorRefusesWrong)

/-- 'tempolaw32.SectorPlays': WHATEVER THE INPUT: true; the input reads as it did. -/
def sectorPlaysSpec : ChangeSpec := { name := "sectorPlays", fn := fun _ => fun
  | [d1, d2] => { results := [.lit (.bool true)], args := [d1, d2] }
  | _ => none }
def sectorPlaysRow : OpenClaim := { program := "ytjijjohhmokmmaa", sum := "88646d310bb26519bef3d174a4ece7c170a1d9dba7154cc751668c09a32b85ca", func := "tempo/tempolaw32.SectorPlays", spec := "sectorPlays", inPlace := ["maps.clone"], unfollowed := true, recurses := true, apart := false }
def SectorPlaysSaid : Prop := sectorPlaysRow.holds Try.pinned (OpenSpec.ofChange sectorPlaysSpec)

/-- ITS FALSE NEIGHBOUR: 'it returns false'. Refute it at one input. -/
def sectorPlaysWrong : ChangeSpec := { name := "sectorPlays", fn := fun _ => fun
  | [d1, d2] => { results := [.lit (.bool false)], args := [d1, d2] }
  | _ => none }
def SectorPlaysWrongFalsely : Prop := sectorPlaysRow.holds Try.pinned (OpenSpec.ofChange sectorPlaysWrong)

/-- 'tempolaw32.SectorNil': WHATEVER THE INPUT: true; the input reads as it did. -/
def sectorNilSpec : ChangeSpec := { name := "sectorNil", fn := fun _ => fun
  | [d] => { results := [.lit (.bool true)], args := [d] }
  | _ => none }
def sectorNilRow : OpenClaim := { program := "ytjijjohhmokmmaa", sum := "88646d310bb26519bef3d174a4ece7c170a1d9dba7154cc751668c09a32b85ca", func := "tempo/tempolaw32.SectorNil", spec := "sectorNil", inPlace := ["maps.clone"], unfollowed := true, recurses := true, apart := false }
def SectorNilSaid : Prop := sectorNilRow.holds Try.pinned (OpenSpec.ofChange sectorNilSpec)

/-- ITS FALSE NEIGHBOUR: 'it returns false'. Refute it at one input. -/
def sectorNilWrong : ChangeSpec := { name := "sectorNil", fn := fun _ => fun
  | [d] => { results := [.lit (.bool false)], args := [d] }
  | _ => none }
def SectorNilWrongFalsely : Prop := sectorNilRow.holds Try.pinned (OpenSpec.ofChange sectorNilWrong)

/-- 'tempolaw32.SectorEnds': WHATEVER THE INPUT: true; the input reads as it did. -/
def sectorEndsSpec : ChangeSpec := { name := "sectorEnds", fn := fun _ => fun
  | [d1, d2] => { results := [.lit (.bool true)], args := [d1, d2] }
  | _ => none }
def sectorEndsRow : OpenClaim := { program := "ytjijjohhmokmmaa", sum := "88646d310bb26519bef3d174a4ece7c170a1d9dba7154cc751668c09a32b85ca", func := "tempo/tempolaw32.SectorEnds", spec := "sectorEnds", inPlace := ["maps.clone"], unfollowed := true, recurses := true, apart := false }
def SectorEndsSaid : Prop := sectorEndsRow.holds Try.pinned (OpenSpec.ofChange sectorEndsSpec)

/-- ITS FALSE NEIGHBOUR: 'it returns false'. Refute it at one input. -/
def sectorEndsWrong : ChangeSpec := { name := "sectorEnds", fn := fun _ => fun
  | [d1, d2] => { results := [.lit (.bool false)], args := [d1, d2] }
  | _ => none }
def SectorEndsWrongFalsely : Prop := sectorEndsRow.holds Try.pinned (OpenSpec.ofChange sectorEndsWrong)

/-- 'tempolaw32.SectorCopies': WHATEVER THE INPUT: true; the input reads as it did. -/
def sectorCopiesSpec : ChangeSpec := { name := "sectorCopies", fn := fun _ => fun
  | [d1, d2, d3] => { results := [.lit (.bool true)], args := [d1, d2, d3] }
  | _ => none }
def sectorCopiesRow : OpenClaim := { program := "ytjijjohhmokmmaa", sum := "88646d310bb26519bef3d174a4ece7c170a1d9dba7154cc751668c09a32b85ca", func := "tempo/tempolaw32.SectorCopies", spec := "sectorCopies", inPlace := ["maps.clone"], unfollowed := true, recurses := true, apart := false }
def SectorCopiesSaid : Prop := sectorCopiesRow.holds Try.pinned (OpenSpec.ofChange sectorCopiesSpec)

/-- ITS FALSE NEIGHBOUR: 'it returns false'. Refute it at one input. -/
def sectorCopiesWrong : ChangeSpec := { name := "sectorCopies", fn := fun _ => fun
  | [d1, d2, d3] => { results := [.lit (.bool false)], args := [d1, d2, d3] }
  | _ => none }
def SectorCopiesWrongFalsely : Prop := sectorCopiesRow.holds Try.pinned (OpenSpec.ofChange sectorCopiesWrong)

/- THE SECOND FORM. 'bulk': how many values and letters a reading holds, each counted each time it is reached (what is shared counts as often as it is met; a slice's spare places count too). A statement '..UptoSaid' is the law's where the arguments, and the package variables that the reading takes, are together of bulk at most 1048576: NARROWER than '..Said'. Prove '..Said' where nothing that the law and all that it calls make is longer than what came in: it says more and counts as full. Else prove '..UptoSaid'. A law counts once. -/
mutual
def uptoBulk {H : Type} : DataW H → Nat
  | .lit (.string bytes) => bytes.length + 1
  | .lit _ => 1
  | .nil => 1
  | .ptr d => uptoBulk d + 1
  | .slice elems spare => uptoBulkAll elems + uptoBulkAll spare + 1
  | .agg parts => uptoBulkAll parts + 1
  | .iface _ d => uptoBulk d + 1
  | .map entries => uptoBulkEntries entries + 1
  | .held _ => 1
def uptoBulkAll {H : Type} : List (DataW H) → Nat
  | [] => 0
  | d :: r => uptoBulk d + uptoBulkAll r
def uptoBulkEntries {H : Type} : List (Lit × DataW H) → Nat
  | [] => 0
  | x :: r => uptoBulkEntry x + uptoBulkEntries r
def uptoBulkEntry {H : Type} : Lit × DataW H → Nat
  | (.string bytes, d) => bytes.length + uptoBulk d + 1
  | (_, d) => uptoBulk d + 1
 end
def uptoSmall : (H : Type) → List (DataW H) → Bool := fun _ ds => decide (uptoBulkAll ds ≤ 1048576)
def OpenSpec.upto (s : _root_.Go.ChangeSpec) : _root_.Go.OpenSpec := { _root_.Go.OpenSpec.ofChange s with cond := some uptoSmall }

/-- 'tempolaw32.SectorTears', WHERE WHAT IT READS IS OF BULK AT MOST 1048576: true; the input reads as it did. -/
def sectorTearsUptoRow : OpenClaim := { program := "ytjijjohhmokmmaa", sum := "88646d310bb26519bef3d174a4ece7c170a1d9dba7154cc751668c09a32b85ca", func := "tempo/tempolaw32.SectorTears", spec := "sectorTears", unfollowed := true, recurses := true, apart := false, narrowed := true }
def SectorTearsUptoSaid : Prop := sectorTearsUptoRow.holds Try.pinned (OpenSpec.upto sectorTearsSpec)

/-- 'tempolaw32.SectorTorn', WHERE WHAT IT READS IS OF BULK AT MOST 1048576: true; the input reads as it did. -/
def sectorTornUptoRow : OpenClaim := { program := "ytjijjohhmokmmaa", sum := "88646d310bb26519bef3d174a4ece7c170a1d9dba7154cc751668c09a32b85ca", func := "tempo/tempolaw32.SectorTorn", spec := "sectorTorn", unfollowed := true, recurses := true, apart := false, narrowed := true }
def SectorTornUptoSaid : Prop := sectorTornUptoRow.holds Try.pinned (OpenSpec.upto sectorTornSpec)

/-- 'tempolaw32.SectorKnown', WHERE WHAT IT READS IS OF BULK AT MOST 1048576: true; the input reads as it did. -/
def sectorKnownUptoRow : OpenClaim := { program := "ytjijjohhmokmmaa", sum := "88646d310bb26519bef3d174a4ece7c170a1d9dba7154cc751668c09a32b85ca", func := "tempo/tempolaw32.SectorKnown", spec := "sectorKnown", unfollowed := true, recurses := true, apart := false, narrowed := true }
def SectorKnownUptoSaid : Prop := sectorKnownUptoRow.holds Try.pinned (OpenSpec.upto sectorKnownSpec)

/-- 'tempolaw32.SectorKept', WHERE WHAT IT READS IS OF BULK AT MOST 1048576: true; the input reads as it did. -/
def sectorKeptUptoRow : OpenClaim := { program := "ytjijjohhmokmmaa", sum := "88646d310bb26519bef3d174a4ece7c170a1d9dba7154cc751668c09a32b85ca", func := "tempo/tempolaw32.SectorKept", spec := "sectorKept", unfollowed := true, recurses := true, apart := false, narrowed := true }
def SectorKeptUptoSaid : Prop := sectorKeptUptoRow.holds Try.pinned (OpenSpec.upto sectorKeptSpec)

/-- 'tempolaw32.SectorRefuses', WHERE WHAT IT READS IS OF BULK AT MOST 1048576: true; the input reads as it did. -/
def sectorRefusesUptoRow : OpenClaim := { program := "ytjijjohhmokmmaa", sum := "88646d310bb26519bef3d174a4ece7c170a1d9dba7154cc751668c09a32b85ca", func := "tempo/tempolaw32.SectorRefuses", spec := "sectorRefuses", unfollowed := true, recurses := true, apart := false, narrowed := true }
def SectorRefusesUptoSaid : Prop := sectorRefusesUptoRow.holds Try.pinned (OpenSpec.upto sectorRefusesSpec)

/-- 'tempolaw32.SectorPlays', WHERE WHAT IT READS IS OF BULK AT MOST 1048576: true; the input reads as it did. -/
def sectorPlaysUptoRow : OpenClaim := { program := "ytjijjohhmokmmaa", sum := "88646d310bb26519bef3d174a4ece7c170a1d9dba7154cc751668c09a32b85ca", func := "tempo/tempolaw32.SectorPlays", spec := "sectorPlays", inPlace := ["maps.clone"], unfollowed := true, recurses := true, apart := false, narrowed := true }
def SectorPlaysUptoSaid : Prop := sectorPlaysUptoRow.holds Try.pinned (OpenSpec.upto sectorPlaysSpec)

/-- 'tempolaw32.SectorNil', WHERE WHAT IT READS IS OF BULK AT MOST 1048576: true; the input reads as it did. -/
def sectorNilUptoRow : OpenClaim := { program := "ytjijjohhmokmmaa", sum := "88646d310bb26519bef3d174a4ece7c170a1d9dba7154cc751668c09a32b85ca", func := "tempo/tempolaw32.SectorNil", spec := "sectorNil", inPlace := ["maps.clone"], unfollowed := true, recurses := true, apart := false, narrowed := true }
def SectorNilUptoSaid : Prop := sectorNilUptoRow.holds Try.pinned (OpenSpec.upto sectorNilSpec)

/-- 'tempolaw32.SectorEnds', WHERE WHAT IT READS IS OF BULK AT MOST 1048576: true; the input reads as it did. -/
def sectorEndsUptoRow : OpenClaim := { program := "ytjijjohhmokmmaa", sum := "88646d310bb26519bef3d174a4ece7c170a1d9dba7154cc751668c09a32b85ca", func := "tempo/tempolaw32.SectorEnds", spec := "sectorEnds", inPlace := ["maps.clone"], unfollowed := true, recurses := true, apart := false, narrowed := true }
def SectorEndsUptoSaid : Prop := sectorEndsUptoRow.holds Try.pinned (OpenSpec.upto sectorEndsSpec)

/-- 'tempolaw32.SectorCopies', WHERE WHAT IT READS IS OF BULK AT MOST 1048576: true; the input reads as it did. -/
def sectorCopiesUptoRow : OpenClaim := { program := "ytjijjohhmokmmaa", sum := "88646d310bb26519bef3d174a4ece7c170a1d9dba7154cc751668c09a32b85ca", func := "tempo/tempolaw32.SectorCopies", spec := "sectorCopies", inPlace := ["maps.clone"], unfollowed := true, recurses := true, apart := false, narrowed := true }
def SectorCopiesUptoSaid : Prop := sectorCopiesUptoRow.holds Try.pinned (OpenSpec.upto sectorCopiesSpec)

end Rows
end Go.Proofs.Ytjijjohhmokmmaa
