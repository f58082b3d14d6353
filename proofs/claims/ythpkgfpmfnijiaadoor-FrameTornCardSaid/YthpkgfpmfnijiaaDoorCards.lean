/-
  DERIVED. GIVEN WITH THE SEED: THE CARDS: each row of YthpkgfpmfnijiaaDoorRows.lean that lists a variable, with what it lists TIED to the program's text (the seventh form; the later family's looks); each row that meets fmt, with fmt's text TOLD by the authors' own Lean function (tested against real Go, not proved from fmt's source: count such statements apart). THE CARD IS WHAT COUNTS. Prove the row's statement (the work); the ties are given (YthpkgfpmfnijiaaDoorTie.lean); close each card by the builder's one call (the guide's Derived/Test/ToyasCard.lean, 'card_holds'). Laid BY PROGRAM, IN A SANDBOX (cutbox-door.mjs). By AI agents, Wed Nov 11 2026. No macro, syntax, notation, axiom, sorry.
-/
import Derived.Test.YthpkgfpmfnijiaaDoorRows
import GoSem.ClaimSeven
namespace Go.Proofs.YthpkgfpmfnijiaaDoor
namespace Rows

/-- THE TIED CARD OF 'tempolaw34.FrameChecks'. -/
def frameChecksCard : Claim7 := { stood := { row := frameChecksRow, standIns := [], harness := (true, "99f2c03a3c311c28f3b7cc91386c9b1104221c2d091368a47b1c0bff31bda894"), looks := false }, kinds := [], alts := [], laidByText := true, laidKinds := [.data], laidTests := true, laidLooks := .later }
def FrameChecksCardSaid : Prop := Claim7.holds Tryd.pinned (.plain (OpenSpec.ofChange frameChecksSpec)) frameChecksCard

/-- THE TIED CARD OF 'tempolaw34.FrameStamps'. -/
def frameStampsCard : Claim7 := { stood := { row := frameStampsRow, standIns := [], harness := (true, "99f2c03a3c311c28f3b7cc91386c9b1104221c2d091368a47b1c0bff31bda894"), looks := false }, kinds := [], alts := [], laidByText := true, laidKinds := [.data], laidTests := true, laidLooks := .later }
def FrameStampsCardSaid : Prop := Claim7.holds Tryd.pinned (.plain (OpenSpec.ofChange frameStampsSpec)) frameStampsCard

/-- THE TIED CARD OF 'tempolaw34.FrameDecodes'. -/
def frameDecodesCard : Claim7 := { stood := { row := frameDecodesRow, standIns := [], harness := (true, "99f2c03a3c311c28f3b7cc91386c9b1104221c2d091368a47b1c0bff31bda894"), looks := false }, kinds := [], alts := [], laidByText := true, laidKinds := [.data], laidTests := true, laidLooks := .later }
def FrameDecodesCardSaid : Prop := Claim7.holds Tryd.pinned (.plain (OpenSpec.ofChange frameDecodesSpec)) frameDecodesCard

/-- THE TIED CARD OF 'tempolaw34.FrameBack'. -/
def frameBackCard : Claim7 := { stood := { row := frameBackRow, standIns := [], harness := (true, "99f2c03a3c311c28f3b7cc91386c9b1104221c2d091368a47b1c0bff31bda894"), looks := false }, kinds := [], alts := [], laidByText := true, laidKinds := [.data], laidTests := true, laidLooks := .later }
def FrameBackCardSaid : Prop := Claim7.holds Tryd.pinned (.plain (OpenSpec.ofChange frameBackSpec)) frameBackCard

/-- THE TIED CARD OF 'tempolaw34.FrameReads'. -/
def frameReadsCard : Claim7 := { stood := { row := frameReadsRow, standIns := [], harness := (true, "99f2c03a3c311c28f3b7cc91386c9b1104221c2d091368a47b1c0bff31bda894"), looks := false }, kinds := [], alts := [], laidByText := true, laidKinds := [.data], laidTests := true, laidLooks := .later }
def FrameReadsCardSaid : Prop := Claim7.holds Tryd.pinned (.plain (OpenSpec.ofChange frameReadsSpec)) frameReadsCard

/-- THE TIED CARD OF 'tempolaw34.FrameChanged'. -/
def frameChangedCard : Claim7 := { stood := { row := frameChangedRow, standIns := [], harness := (true, "99f2c03a3c311c28f3b7cc91386c9b1104221c2d091368a47b1c0bff31bda894"), looks := false }, kinds := [], alts := [], laidByText := true, laidKinds := [.data], laidTests := true, laidLooks := .later }
def FrameChangedCardSaid : Prop := Claim7.holds Tryd.pinned (.plain (OpenSpec.ofChange frameChangedSpec)) frameChangedCard

/-- THE TIED CARD OF 'tempolaw34.FrameRefuses'. -/
def frameRefusesCard : Claim7 := { stood := { row := frameRefusesRow, standIns := [], harness := (true, "99f2c03a3c311c28f3b7cc91386c9b1104221c2d091368a47b1c0bff31bda894"), looks := false }, kinds := [], alts := [], laidByText := true, laidKinds := [.data], laidTests := true, laidLooks := .later }
def FrameRefusesCardSaid : Prop := Claim7.holds Tryd.pinned (.plain (OpenSpec.ofChange frameRefusesSpec)) frameRefusesCard

/-- THE TIED CARD OF 'tempolaw34.FrameStamped'. -/
def frameStampedCard : Claim7 := { stood := { row := frameStampedRow, standIns := [], harness := (true, "99f2c03a3c311c28f3b7cc91386c9b1104221c2d091368a47b1c0bff31bda894"), looks := false }, kinds := [], alts := [], laidByText := true, laidKinds := [.data], laidTests := true, laidLooks := .later }
def FrameStampedCardSaid : Prop := Claim7.holds Tryd.pinned (.plain (OpenSpec.ofChange frameStampedSpec)) frameStampedCard

/-- THE TIED CARD OF 'tempolaw34.FrameTorn'. -/
def frameTornCard : Claim7 := { stood := { row := frameTornRow, standIns := [], harness := (true, "99f2c03a3c311c28f3b7cc91386c9b1104221c2d091368a47b1c0bff31bda894"), looks := false }, kinds := [], alts := [], laidByText := true, laidKinds := [.data], laidTests := true, laidLooks := .later }
def FrameTornCardSaid : Prop := Claim7.holds Tryd.pinned (.plain (OpenSpec.ofChange frameTornSpec)) frameTornCard

/-- THE SECOND FORM's CARD OF 'tempolaw34.FrameChecks'. -/
def frameChecksUptoCard : Claim7 := { stood := { row := frameChecksUptoRow, standIns := [], harness := (true, "99f2c03a3c311c28f3b7cc91386c9b1104221c2d091368a47b1c0bff31bda894"), looks := false }, kinds := [], alts := [], laidByText := true, laidKinds := [.data], laidTests := true, laidLooks := .later }
def FrameChecksUptoCardSaid : Prop := Claim7.holds Tryd.pinned (.plain (OpenSpec.upto frameChecksSpec)) frameChecksUptoCard

/-- THE SECOND FORM's CARD OF 'tempolaw34.FrameStamps'. -/
def frameStampsUptoCard : Claim7 := { stood := { row := frameStampsUptoRow, standIns := [], harness := (true, "99f2c03a3c311c28f3b7cc91386c9b1104221c2d091368a47b1c0bff31bda894"), looks := false }, kinds := [], alts := [], laidByText := true, laidKinds := [.data], laidTests := true, laidLooks := .later }
def FrameStampsUptoCardSaid : Prop := Claim7.holds Tryd.pinned (.plain (OpenSpec.upto frameStampsSpec)) frameStampsUptoCard

/-- THE SECOND FORM's CARD OF 'tempolaw34.FrameDecodes'. -/
def frameDecodesUptoCard : Claim7 := { stood := { row := frameDecodesUptoRow, standIns := [], harness := (true, "99f2c03a3c311c28f3b7cc91386c9b1104221c2d091368a47b1c0bff31bda894"), looks := false }, kinds := [], alts := [], laidByText := true, laidKinds := [.data], laidTests := true, laidLooks := .later }
def FrameDecodesUptoCardSaid : Prop := Claim7.holds Tryd.pinned (.plain (OpenSpec.upto frameDecodesSpec)) frameDecodesUptoCard

/-- THE SECOND FORM's CARD OF 'tempolaw34.FrameBack'. -/
def frameBackUptoCard : Claim7 := { stood := { row := frameBackUptoRow, standIns := [], harness := (true, "99f2c03a3c311c28f3b7cc91386c9b1104221c2d091368a47b1c0bff31bda894"), looks := false }, kinds := [], alts := [], laidByText := true, laidKinds := [.data], laidTests := true, laidLooks := .later }
def FrameBackUptoCardSaid : Prop := Claim7.holds Tryd.pinned (.plain (OpenSpec.upto frameBackSpec)) frameBackUptoCard

/-- THE SECOND FORM's CARD OF 'tempolaw34.FrameReads'. -/
def frameReadsUptoCard : Claim7 := { stood := { row := frameReadsUptoRow, standIns := [], harness := (true, "99f2c03a3c311c28f3b7cc91386c9b1104221c2d091368a47b1c0bff31bda894"), looks := false }, kinds := [], alts := [], laidByText := true, laidKinds := [.data], laidTests := true, laidLooks := .later }
def FrameReadsUptoCardSaid : Prop := Claim7.holds Tryd.pinned (.plain (OpenSpec.upto frameReadsSpec)) frameReadsUptoCard

/-- THE SECOND FORM's CARD OF 'tempolaw34.FrameChanged'. -/
def frameChangedUptoCard : Claim7 := { stood := { row := frameChangedUptoRow, standIns := [], harness := (true, "99f2c03a3c311c28f3b7cc91386c9b1104221c2d091368a47b1c0bff31bda894"), looks := false }, kinds := [], alts := [], laidByText := true, laidKinds := [.data], laidTests := true, laidLooks := .later }
def FrameChangedUptoCardSaid : Prop := Claim7.holds Tryd.pinned (.plain (OpenSpec.upto frameChangedSpec)) frameChangedUptoCard

/-- THE SECOND FORM's CARD OF 'tempolaw34.FrameRefuses'. -/
def frameRefusesUptoCard : Claim7 := { stood := { row := frameRefusesUptoRow, standIns := [], harness := (true, "99f2c03a3c311c28f3b7cc91386c9b1104221c2d091368a47b1c0bff31bda894"), looks := false }, kinds := [], alts := [], laidByText := true, laidKinds := [.data], laidTests := true, laidLooks := .later }
def FrameRefusesUptoCardSaid : Prop := Claim7.holds Tryd.pinned (.plain (OpenSpec.upto frameRefusesSpec)) frameRefusesUptoCard

/-- THE SECOND FORM's CARD OF 'tempolaw34.FrameStamped'. -/
def frameStampedUptoCard : Claim7 := { stood := { row := frameStampedUptoRow, standIns := [], harness := (true, "99f2c03a3c311c28f3b7cc91386c9b1104221c2d091368a47b1c0bff31bda894"), looks := false }, kinds := [], alts := [], laidByText := true, laidKinds := [.data], laidTests := true, laidLooks := .later }
def FrameStampedUptoCardSaid : Prop := Claim7.holds Tryd.pinned (.plain (OpenSpec.upto frameStampedSpec)) frameStampedUptoCard

/-- THE SECOND FORM's CARD OF 'tempolaw34.FrameTorn'. -/
def frameTornUptoCard : Claim7 := { stood := { row := frameTornUptoRow, standIns := [], harness := (true, "99f2c03a3c311c28f3b7cc91386c9b1104221c2d091368a47b1c0bff31bda894"), looks := false }, kinds := [], alts := [], laidByText := true, laidKinds := [.data], laidTests := true, laidLooks := .later }
def FrameTornUptoCardSaid : Prop := Claim7.holds Tryd.pinned (.plain (OpenSpec.upto frameTornSpec)) frameTornUptoCard
end Rows
end Go.Proofs.YthpkgfpmfnijiaaDoor
