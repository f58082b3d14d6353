/-
  NARROWER THAN 'FOR EVERY INPUT', by the rows' own cells (each row's printed sentence says how): FrameChecks: laid · FrameStamps: laid · FrameDecodes: laid · FrameBack: laid · FrameReads: laid · FrameChanged: laid · FrameRefuses: laid · FrameStamped: laid · FrameTorn: laid.
  DERIVED. THE GIVEN ROWS OF THIS SEAT. 9 by the template 'for every input the law returns true; each argument reads behind the call as it read before'; 0 by the template 'total and deterministic' (their statements: YthpkgfpmfnijiaaDoorTotals.lean).
  GIVEN WITH THE SEED: the statements are not yours to turn. If you find one false, say at which input.
  Laid BY PROGRAM, IN A SANDBOX (cutbox-rows.mjs): the forced cells as the released guide's own fill.sh prints them over the translation 6834bc4c112dd6a5… (all of the seat's roots in one cut). By AI agents, Wed Nov 11 2026. No macro, syntax, notation, axiom, sorry.
-/
import Derived.Test.YthpkgfpmfnijiaaDoorChecked
import GoSem.Claim
import GoSem.ClaimJoined
import GoSem.ClaimMapViews
import Derived.JoinedTies
import Derived.KernelRfl
namespace Go.Proofs.YthpkgfpmfnijiaaDoor
/- THE CELL 'sum', in the pinned program and in every row, IS THE sha256 OF THE DUMP (.gsa) THAT YthpkgfpmfnijiaaDoorProg.lean LOADS. Nothing in Lean hashes anything: it is a label: what it is worth is what the hold of that sum in a sandbox is worth. -/
noncomputable def Tryd.pinned : Pinned := { name := "ythpkgfpmfnijiaadoor", sum := "6834bc4c112dd6a5881c4dbb8c302d1c811fcb253ca2b9ac58d6840ed1a7a1f1", checked := Tryd.checked }
namespace Rows
def none {H : Type} : Left H := { results := [], args := [] }

/- WHAT THE LISTED PACKAGE-LEVEL VARIABLES READ AS WHEN THE CALL BEGINS. Each datum BY PROGRAM (the guide's laid-datum.mjs) off the statement by which the dump's own 'gosem.cut.vars' lays the variable. In a bare row this is a premise. The card (YthpkgfpmfnijiaaDoorCards.lean) ties it to the program's text. -/
def laid_tempo_frame_kinds {H : Type} : DataW H := .agg [.agg [.lit (.int .i64 0), .lit (.int .i64 0), .lit (.int .i64 0), .lit (.int .i64 0), .lit (.int .i64 0)], .agg [.lit (.int .i64 5), .lit (.int .i64 512), .lit (.int .i64 4095), .lit (.int .i64 0), .lit (.int .i64 4095)], .agg [.lit (.int .i64 1), .lit (.int .i64 0), .lit (.int .i64 0), .lit (.int .i64 1), .lit (.int .i64 4096)]]

/-- 'tempolaw34.FrameChecks': WHATEVER THE INPUT: true; the input reads as it did. -/
def frameChecksSpec : ChangeSpec := { name := "frameChecks", fn := fun _ => fun
  | [d] => { results := [.lit (.bool true)], args := [d] }
  | _ => none }
def frameChecksRow : OpenClaim := { program := "ythpkgfpmfnijiaadoor", sum := "6834bc4c112dd6a5881c4dbb8c302d1c811fcb253ca2b9ac58d6840ed1a7a1f1", func := "tempo/tempolaw34.FrameChecks", spec := "frameChecks", unfollowed := true, recurses := true, named := ["tempo/frame.kinds"], apart := false, laid := [("tempo/frame.kinds", laid_tempo_frame_kinds)] }
def FrameChecksSaid : Prop := frameChecksRow.holds Tryd.pinned (OpenSpec.ofChange frameChecksSpec)

/-- ITS FALSE NEIGHBOUR: 'it returns false'. Refute it at one input. -/
def frameChecksWrong : ChangeSpec := { name := "frameChecks", fn := fun _ => fun
  | [d] => { results := [.lit (.bool false)], args := [d] }
  | _ => none }
def FrameChecksWrongFalsely : Prop := frameChecksRow.holds Tryd.pinned (OpenSpec.ofChange frameChecksWrong)

/-- 'tempolaw34.FrameStamps': WHATEVER THE INPUT: true; the input reads as it did. -/
def frameStampsSpec : ChangeSpec := { name := "frameStamps", fn := fun _ => fun
  | [d1, d2] => { results := [.lit (.bool true)], args := [d1, d2] }
  | _ => none }
def frameStampsRow : OpenClaim := { program := "ythpkgfpmfnijiaadoor", sum := "6834bc4c112dd6a5881c4dbb8c302d1c811fcb253ca2b9ac58d6840ed1a7a1f1", func := "tempo/tempolaw34.FrameStamps", spec := "frameStamps", unfollowed := true, recurses := true, named := ["tempo/frame.kinds"], apart := false, laid := [("tempo/frame.kinds", laid_tempo_frame_kinds)] }
def FrameStampsSaid : Prop := frameStampsRow.holds Tryd.pinned (OpenSpec.ofChange frameStampsSpec)

/-- ITS FALSE NEIGHBOUR: 'it returns false'. Refute it at one input. -/
def frameStampsWrong : ChangeSpec := { name := "frameStamps", fn := fun _ => fun
  | [d1, d2] => { results := [.lit (.bool false)], args := [d1, d2] }
  | _ => none }
def FrameStampsWrongFalsely : Prop := frameStampsRow.holds Tryd.pinned (OpenSpec.ofChange frameStampsWrong)

/-- 'tempolaw34.FrameDecodes': WHATEVER THE INPUT: true; the input reads as it did. -/
def frameDecodesSpec : ChangeSpec := { name := "frameDecodes", fn := fun _ => fun
  | [d1, d2] => { results := [.lit (.bool true)], args := [d1, d2] }
  | _ => none }
def frameDecodesRow : OpenClaim := { program := "ythpkgfpmfnijiaadoor", sum := "6834bc4c112dd6a5881c4dbb8c302d1c811fcb253ca2b9ac58d6840ed1a7a1f1", func := "tempo/tempolaw34.FrameDecodes", spec := "frameDecodes", unfollowed := true, recurses := true, named := ["tempo/frame.kinds"], apart := false, laid := [("tempo/frame.kinds", laid_tempo_frame_kinds)] }
def FrameDecodesSaid : Prop := frameDecodesRow.holds Tryd.pinned (OpenSpec.ofChange frameDecodesSpec)

/-- ITS FALSE NEIGHBOUR: 'it returns false'. Refute it at one input. -/
def frameDecodesWrong : ChangeSpec := { name := "frameDecodes", fn := fun _ => fun
  | [d1, d2] => { results := [.lit (.bool false)], args := [d1, d2] }
  | _ => none }
def FrameDecodesWrongFalsely : Prop := frameDecodesRow.holds Tryd.pinned (OpenSpec.ofChange frameDecodesWrong)

/-- 'tempolaw34.FrameBack': WHATEVER THE INPUT: true; the input reads as it did. -/
def frameBackSpec : ChangeSpec := { name := "frameBack", fn := fun _ => fun
  | [d1, d2, d3] => { results := [.lit (.bool true)], args := [d1, d2, d3] }
  | _ => none }
def frameBackRow : OpenClaim := { program := "ythpkgfpmfnijiaadoor", sum := "6834bc4c112dd6a5881c4dbb8c302d1c811fcb253ca2b9ac58d6840ed1a7a1f1", func := "tempo/tempolaw34.FrameBack", spec := "frameBack", unfollowed := true, recurses := true, named := ["tempo/frame.kinds"], apart := false, laid := [("tempo/frame.kinds", laid_tempo_frame_kinds)] }
def FrameBackSaid : Prop := frameBackRow.holds Tryd.pinned (OpenSpec.ofChange frameBackSpec)

/-- ITS FALSE NEIGHBOUR: 'it returns false'. Refute it at one input. -/
def frameBackWrong : ChangeSpec := { name := "frameBack", fn := fun _ => fun
  | [d1, d2, d3] => { results := [.lit (.bool false)], args := [d1, d2, d3] }
  | _ => none }
def FrameBackWrongFalsely : Prop := frameBackRow.holds Tryd.pinned (OpenSpec.ofChange frameBackWrong)

/-- 'tempolaw34.FrameReads': WHATEVER THE INPUT: true; the input reads as it did. -/
def frameReadsSpec : ChangeSpec := { name := "frameReads", fn := fun _ => fun
  | [d1, d2] => { results := [.lit (.bool true)], args := [d1, d2] }
  | _ => none }
def frameReadsRow : OpenClaim := { program := "ythpkgfpmfnijiaadoor", sum := "6834bc4c112dd6a5881c4dbb8c302d1c811fcb253ca2b9ac58d6840ed1a7a1f1", func := "tempo/tempolaw34.FrameReads", spec := "frameReads", unfollowed := true, recurses := true, named := ["tempo/frame.kinds"], apart := false, laid := [("tempo/frame.kinds", laid_tempo_frame_kinds)] }
def FrameReadsSaid : Prop := frameReadsRow.holds Tryd.pinned (OpenSpec.ofChange frameReadsSpec)

/-- ITS FALSE NEIGHBOUR: 'it returns false'. Refute it at one input. -/
def frameReadsWrong : ChangeSpec := { name := "frameReads", fn := fun _ => fun
  | [d1, d2] => { results := [.lit (.bool false)], args := [d1, d2] }
  | _ => none }
def FrameReadsWrongFalsely : Prop := frameReadsRow.holds Tryd.pinned (OpenSpec.ofChange frameReadsWrong)

/-- 'tempolaw34.FrameChanged': WHATEVER THE INPUT: true; the input reads as it did. -/
def frameChangedSpec : ChangeSpec := { name := "frameChanged", fn := fun _ => fun
  | [d1, d2, d3] => { results := [.lit (.bool true)], args := [d1, d2, d3] }
  | _ => none }
def frameChangedRow : OpenClaim := { program := "ythpkgfpmfnijiaadoor", sum := "6834bc4c112dd6a5881c4dbb8c302d1c811fcb253ca2b9ac58d6840ed1a7a1f1", func := "tempo/tempolaw34.FrameChanged", spec := "frameChanged", unfollowed := true, recurses := true, named := ["tempo/frame.kinds"], apart := false, laid := [("tempo/frame.kinds", laid_tempo_frame_kinds)] }
def FrameChangedSaid : Prop := frameChangedRow.holds Tryd.pinned (OpenSpec.ofChange frameChangedSpec)

/-- ITS FALSE NEIGHBOUR: 'it returns false'. Refute it at one input. -/
def frameChangedWrong : ChangeSpec := { name := "frameChanged", fn := fun _ => fun
  | [d1, d2, d3] => { results := [.lit (.bool false)], args := [d1, d2, d3] }
  | _ => none }
def FrameChangedWrongFalsely : Prop := frameChangedRow.holds Tryd.pinned (OpenSpec.ofChange frameChangedWrong)

/-- 'tempolaw34.FrameRefuses': WHATEVER THE INPUT: true; the input reads as it did. -/
def frameRefusesSpec : ChangeSpec := { name := "frameRefuses", fn := fun _ => fun
  | [d1, d2, d3] => { results := [.lit (.bool true)], args := [d1, d2, d3] }
  | _ => none }
def frameRefusesRow : OpenClaim := { program := "ythpkgfpmfnijiaadoor", sum := "6834bc4c112dd6a5881c4dbb8c302d1c811fcb253ca2b9ac58d6840ed1a7a1f1", func := "tempo/tempolaw34.FrameRefuses", spec := "frameRefuses", unfollowed := true, recurses := true, named := ["tempo/frame.kinds"], apart := false, laid := [("tempo/frame.kinds", laid_tempo_frame_kinds)] }
def FrameRefusesSaid : Prop := frameRefusesRow.holds Tryd.pinned (OpenSpec.ofChange frameRefusesSpec)

/-- ITS FALSE NEIGHBOUR: 'it returns false'. Refute it at one input. -/
def frameRefusesWrong : ChangeSpec := { name := "frameRefuses", fn := fun _ => fun
  | [d1, d2, d3] => { results := [.lit (.bool false)], args := [d1, d2, d3] }
  | _ => none }
def FrameRefusesWrongFalsely : Prop := frameRefusesRow.holds Tryd.pinned (OpenSpec.ofChange frameRefusesWrong)

/-- 'tempolaw34.FrameStamped': WHATEVER THE INPUT: true; the input reads as it did. -/
def frameStampedSpec : ChangeSpec := { name := "frameStamped", fn := fun _ => fun
  | [d1, d2] => { results := [.lit (.bool true)], args := [d1, d2] }
  | _ => none }
def frameStampedRow : OpenClaim := { program := "ythpkgfpmfnijiaadoor", sum := "6834bc4c112dd6a5881c4dbb8c302d1c811fcb253ca2b9ac58d6840ed1a7a1f1", func := "tempo/tempolaw34.FrameStamped", spec := "frameStamped", unfollowed := true, recurses := true, named := ["tempo/frame.kinds"], apart := false, laid := [("tempo/frame.kinds", laid_tempo_frame_kinds)] }
def FrameStampedSaid : Prop := frameStampedRow.holds Tryd.pinned (OpenSpec.ofChange frameStampedSpec)

/-- ITS FALSE NEIGHBOUR: 'it returns false'. Refute it at one input. -/
def frameStampedWrong : ChangeSpec := { name := "frameStamped", fn := fun _ => fun
  | [d1, d2] => { results := [.lit (.bool false)], args := [d1, d2] }
  | _ => none }
def FrameStampedWrongFalsely : Prop := frameStampedRow.holds Tryd.pinned (OpenSpec.ofChange frameStampedWrong)

/-- 'tempolaw34.FrameTorn': WHATEVER THE INPUT: true; the input reads as it did. -/
def frameTornSpec : ChangeSpec := { name := "frameTorn", fn := fun _ => fun
  | [d1, d2, d3, d4, d5, d6] => { results := [.lit (.bool true)], args := [d1, d2, d3, d4, d5, d6] }
  | _ => none }
def frameTornRow : OpenClaim := { program := "ythpkgfpmfnijiaadoor", sum := "6834bc4c112dd6a5881c4dbb8c302d1c811fcb253ca2b9ac58d6840ed1a7a1f1", func := "tempo/tempolaw34.FrameTorn", spec := "frameTorn", unfollowed := true, recurses := true, named := ["tempo/frame.kinds"], apart := false, laid := [("tempo/frame.kinds", laid_tempo_frame_kinds)] }
def FrameTornSaid : Prop := frameTornRow.holds Tryd.pinned (OpenSpec.ofChange frameTornSpec)

/-- ITS FALSE NEIGHBOUR: 'it returns false'. Refute it at one input. -/
def frameTornWrong : ChangeSpec := { name := "frameTorn", fn := fun _ => fun
  | [d1, d2, d3, d4, d5, d6] => { results := [.lit (.bool false)], args := [d1, d2, d3, d4, d5, d6] }
  | _ => none }
def FrameTornWrongFalsely : Prop := frameTornRow.holds Tryd.pinned (OpenSpec.ofChange frameTornWrong)

/- THE SECOND FORM. 'bulk': how many values and letters a reading holds, each counted each time it is reached (what is shared counts as often as it is met; a slice's spare places count too). A statement '..UptoSaid' is the law's where the arguments, and the package variables that the reading takes, are together of bulk at most 1048576: NARROWER than '..Said'. Prove '..Said' where nothing that the law and all that it calls make is longer than what came in: it says more and counts as full. Else prove '..UptoSaid'. A law counts once. -/
mutual
def uptoBulk {H : Type} : DataW H → Nat
  | .lit (.string bytes) => bytes.length + 1
  | .lit _ => 1
  | .nil => 1
  | .ptr d => uptoBulk d + 1
  | .slice elems spare => uptoBulkAll elems + uptoBulkAll spare + 1
  | .agg parts => uptoBulkAll parts + 1
  | .iface _ d => uptoBulk d + 1
  | .map entries => uptoBulkEntries entries + 1
  | .held _ => 1
def uptoBulkAll {H : Type} : List (DataW H) → Nat
  | [] => 0
  | d :: r => uptoBulk d + uptoBulkAll r
def uptoBulkEntries {H : Type} : List (Lit × DataW H) → Nat
  | [] => 0
  | x :: r => uptoBulkEntry x + uptoBulkEntries r
def uptoBulkEntry {H : Type} : Lit × DataW H → Nat
  | (.string bytes, d) => bytes.length + uptoBulk d + 1
  | (_, d) => uptoBulk d + 1
 end
def uptoSmall : (H : Type) → List (DataW H) → Bool := fun _ ds => decide (uptoBulkAll ds ≤ 1048576)
def OpenSpec.upto (s : _root_.Go.ChangeSpec) : _root_.Go.OpenSpec := { _root_.Go.OpenSpec.ofChange s with cond := some uptoSmall }

/-- 'tempolaw34.FrameChecks', WHERE WHAT IT READS IS OF BULK AT MOST 1048576: true; the input reads as it did. -/
def frameChecksUptoRow : OpenClaim := { program := "ythpkgfpmfnijiaadoor", sum := "6834bc4c112dd6a5881c4dbb8c302d1c811fcb253ca2b9ac58d6840ed1a7a1f1", func := "tempo/tempolaw34.FrameChecks", spec := "frameChecks", unfollowed := true, recurses := true, named := ["tempo/frame.kinds"], apart := false, laid := [("tempo/frame.kinds", laid_tempo_frame_kinds)], narrowed := true }
def FrameChecksUptoSaid : Prop := frameChecksUptoRow.holds Tryd.pinned (OpenSpec.upto frameChecksSpec)

/-- 'tempolaw34.FrameStamps', WHERE WHAT IT READS IS OF BULK AT MOST 1048576: true; the input reads as it did. -/
def frameStampsUptoRow : OpenClaim := { program := "ythpkgfpmfnijiaadoor", sum := "6834bc4c112dd6a5881c4dbb8c302d1c811fcb253ca2b9ac58d6840ed1a7a1f1", func := "tempo/tempolaw34.FrameStamps", spec := "frameStamps", unfollowed := true, recurses := true, named := ["tempo/frame.kinds"], apart := false, laid := [("tempo/frame.kinds", laid_tempo_frame_kinds)], narrowed := true }
def FrameStampsUptoSaid : Prop := frameStampsUptoRow.holds Tryd.pinned (OpenSpec.upto frameStampsSpec)

/-- 'tempolaw34.FrameDecodes', WHERE WHAT IT READS IS OF BULK AT MOST 1048576: true; the input reads as it did. -/
def frameDecodesUptoRow : OpenClaim := { program := "ythpkgfpmfnijiaadoor", sum := "6834bc4c112dd6a5881c4dbb8c302d1c811fcb253ca2b9ac58d6840ed1a7a1f1", func := "tempo/tempolaw34.FrameDecodes", spec := "frameDecodes", unfollowed := true, recurses := true, named := ["tempo/frame.kinds"], apart := false, laid := [("tempo/frame.kinds", laid_tempo_frame_kinds)], narrowed := true }
def FrameDecodesUptoSaid : Prop := frameDecodesUptoRow.holds Tryd.pinned (OpenSpec.upto frameDecodesSpec)

/-- 'tempolaw34.FrameBack', WHERE WHAT IT READS IS OF BULK AT MOST 1048576: true; the input reads as it did. -/
def frameBackUptoRow : OpenClaim := { program := "ythpkgfpmfnijiaadoor", sum := "6834bc4c112dd6a5881c4dbb8c302d1c811fcb253ca2b9ac58d6840ed1a7a1f1", func := "tempo/tempolaw34.FrameBack", spec := "frameBack", unfollowed := true, recurses := true, named := ["tempo/frame.kinds"], apart := false, laid := [("tempo/frame.kinds", laid_tempo_frame_kinds)], narrowed := true }
def FrameBackUptoSaid : Prop := frameBackUptoRow.holds Tryd.pinned (OpenSpec.upto frameBackSpec)

/-- 'tempolaw34.FrameReads', WHERE WHAT IT READS IS OF BULK AT MOST 1048576: true; the input reads as it did. -/
def frameReadsUptoRow : OpenClaim := { program := "ythpkgfpmfnijiaadoor", sum := "6834bc4c112dd6a5881c4dbb8c302d1c811fcb253ca2b9ac58d6840ed1a7a1f1", func := "tempo/tempolaw34.FrameReads", spec := "frameReads", unfollowed := true, recurses := true, named := ["tempo/frame.kinds"], apart := false, laid := [("tempo/frame.kinds", laid_tempo_frame_kinds)], narrowed := true }
def FrameReadsUptoSaid : Prop := frameReadsUptoRow.holds Tryd.pinned (OpenSpec.upto frameReadsSpec)

/-- 'tempolaw34.FrameChanged', WHERE WHAT IT READS IS OF BULK AT MOST 1048576: true; the input reads as it did. -/
def frameChangedUptoRow : OpenClaim := { program := "ythpkgfpmfnijiaadoor", sum := "6834bc4c112dd6a5881c4dbb8c302d1c811fcb253ca2b9ac58d6840ed1a7a1f1", func := "tempo/tempolaw34.FrameChanged", spec := "frameChanged", unfollowed := true, recurses := true, named := ["tempo/frame.kinds"], apart := false, laid := [("tempo/frame.kinds", laid_tempo_frame_kinds)], narrowed := true }
def FrameChangedUptoSaid : Prop := frameChangedUptoRow.holds Tryd.pinned (OpenSpec.upto frameChangedSpec)

/-- 'tempolaw34.FrameRefuses', WHERE WHAT IT READS IS OF BULK AT MOST 1048576: true; the input reads as it did. -/
def frameRefusesUptoRow : OpenClaim := { program := "ythpkgfpmfnijiaadoor", sum := "6834bc4c112dd6a5881c4dbb8c302d1c811fcb253ca2b9ac58d6840ed1a7a1f1", func := "tempo/tempolaw34.FrameRefuses", spec := "frameRefuses", unfollowed := true, recurses := true, named := ["tempo/frame.kinds"], apart := false, laid := [("tempo/frame.kinds", laid_tempo_frame_kinds)], narrowed := true }
def FrameRefusesUptoSaid : Prop := frameRefusesUptoRow.holds Tryd.pinned (OpenSpec.upto frameRefusesSpec)

/-- 'tempolaw34.FrameStamped', WHERE WHAT IT READS IS OF BULK AT MOST 1048576: true; the input reads as it did. -/
def frameStampedUptoRow : OpenClaim := { program := "ythpkgfpmfnijiaadoor", sum := "6834bc4c112dd6a5881c4dbb8c302d1c811fcb253ca2b9ac58d6840ed1a7a1f1", func := "tempo/tempolaw34.FrameStamped", spec := "frameStamped", unfollowed := true, recurses := true, named := ["tempo/frame.kinds"], apart := false, laid := [("tempo/frame.kinds", laid_tempo_frame_kinds)], narrowed := true }
def FrameStampedUptoSaid : Prop := frameStampedUptoRow.holds Tryd.pinned (OpenSpec.upto frameStampedSpec)

/-- 'tempolaw34.FrameTorn', WHERE WHAT IT READS IS OF BULK AT MOST 1048576: true; the input reads as it did. -/
def frameTornUptoRow : OpenClaim := { program := "ythpkgfpmfnijiaadoor", sum := "6834bc4c112dd6a5881c4dbb8c302d1c811fcb253ca2b9ac58d6840ed1a7a1f1", func := "tempo/tempolaw34.FrameTorn", spec := "frameTorn", unfollowed := true, recurses := true, named := ["tempo/frame.kinds"], apart := false, laid := [("tempo/frame.kinds", laid_tempo_frame_kinds)], narrowed := true }
def FrameTornUptoSaid : Prop := frameTornUptoRow.holds Tryd.pinned (OpenSpec.upto frameTornSpec)

end Rows
end Go.Proofs.YthpkgfpmfnijiaaDoor
