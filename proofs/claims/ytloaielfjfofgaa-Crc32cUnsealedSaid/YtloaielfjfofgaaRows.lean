/-
  No cell of these rows narrows 'for every input' (looked for: loops, veiled, ifaces, maps, wideKeys, modest, calm, conditions, laid).
  DERIVED. THE GIVEN ROWS OF THIS SEAT. 8 by the template 'for every input the law returns true; each argument reads behind the call as it read before'; 0 by the template 'total and deterministic' (their statements: YtloaielfjfofgaaTotals.lean).
  GIVEN WITH THE SEED: the statements are not yours to turn. If you find one false, say at which input.
  Laid BY PROGRAM, IN A SANDBOX (cutbox-rows.mjs): the forced cells as the released guide's own fill.sh prints them over the translation f71ad660b312a399… (all of the seat's roots in one cut). By AI agents, Wed Nov 11 2026. No macro, syntax, notation, axiom, sorry.
-/
import Derived.Test.YtloaielfjfofgaaChecked
import GoSem.Claim
import GoSem.ClaimJoined
import GoSem.ClaimMapViews
import Derived.JoinedTies
import Derived.KernelRfl
namespace Go.Proofs.Ytloaielfjfofgaa
/- THE CELL 'sum', in the pinned program and in every row, IS THE sha256 OF THE DUMP (.gsa) THAT YtloaielfjfofgaaProg.lean LOADS. Nothing in Lean hashes anything: it is a label: what it is worth is what the hold of that sum in a sandbox is worth. -/
noncomputable def Try.pinned : Pinned := { name := "ytloaielfjfofgaa", sum := "f71ad660b312a3998d83cf0d6d7d89899a7e2f312ddbdba0c5824433f9f461fb", checked := Try.checked }
namespace Rows
def none {H : Type} : Left H := { results := [], args := [] }

/-- 'tempolaw02.Crc32cSums': WHATEVER THE INPUT: true; the input reads as it did. -/
def crc32cSumsSpec : ChangeSpec := { name := "crc32cSums", fn := fun _ => fun
  | [d1, d2] => { results := [.lit (.bool true)], args := [d1, d2] }
  | _ => none }
def crc32cSumsRow : OpenClaim := { program := "ytloaielfjfofgaa", sum := "f71ad660b312a3998d83cf0d6d7d89899a7e2f312ddbdba0c5824433f9f461fb", func := "tempo/tempolaw02.Crc32cSums", spec := "crc32cSums", apart := false }
def Crc32cSumsSaid : Prop := crc32cSumsRow.holds Try.pinned (OpenSpec.ofChange crc32cSumsSpec)

/-- ITS FALSE NEIGHBOUR: 'it returns false'. Refute it at one input. -/
def crc32cSumsWrong : ChangeSpec := { name := "crc32cSums", fn := fun _ => fun
  | [d1, d2] => { results := [.lit (.bool false)], args := [d1, d2] }
  | _ => none }
def Crc32cSumsWrongFalsely : Prop := crc32cSumsRow.holds Try.pinned (OpenSpec.ofChange crc32cSumsWrong)

/-- 'tempolaw02.Crc32cSeals': WHATEVER THE INPUT: true; the input reads as it did. -/
def crc32cSealsSpec : ChangeSpec := { name := "crc32cSeals", fn := fun _ => fun
  | [d] => { results := [.lit (.bool true)], args := [d] }
  | _ => none }
def crc32cSealsRow : OpenClaim := { program := "ytloaielfjfofgaa", sum := "f71ad660b312a3998d83cf0d6d7d89899a7e2f312ddbdba0c5824433f9f461fb", func := "tempo/tempolaw02.Crc32cSeals", spec := "crc32cSeals", apart := false }
def Crc32cSealsSaid : Prop := crc32cSealsRow.holds Try.pinned (OpenSpec.ofChange crc32cSealsSpec)

/-- ITS FALSE NEIGHBOUR: 'it returns false'. Refute it at one input. -/
def crc32cSealsWrong : ChangeSpec := { name := "crc32cSeals", fn := fun _ => fun
  | [d] => { results := [.lit (.bool false)], args := [d] }
  | _ => none }
def Crc32cSealsWrongFalsely : Prop := crc32cSealsRow.holds Try.pinned (OpenSpec.ofChange crc32cSealsWrong)

/-- 'tempolaw02.Crc32cParts': WHATEVER THE INPUT: true; the input reads as it did. -/
def crc32cPartsSpec : ChangeSpec := { name := "crc32cParts", fn := fun _ => fun
  | [d] => { results := [.lit (.bool true)], args := [d] }
  | _ => none }
def crc32cPartsRow : OpenClaim := { program := "ytloaielfjfofgaa", sum := "f71ad660b312a3998d83cf0d6d7d89899a7e2f312ddbdba0c5824433f9f461fb", func := "tempo/tempolaw02.Crc32cParts", spec := "crc32cParts", apart := false }
def Crc32cPartsSaid : Prop := crc32cPartsRow.holds Try.pinned (OpenSpec.ofChange crc32cPartsSpec)

/-- ITS FALSE NEIGHBOUR: 'it returns false'. Refute it at one input. -/
def crc32cPartsWrong : ChangeSpec := { name := "crc32cParts", fn := fun _ => fun
  | [d] => { results := [.lit (.bool false)], args := [d] }
  | _ => none }
def Crc32cPartsWrongFalsely : Prop := crc32cPartsRow.holds Try.pinned (OpenSpec.ofChange crc32cPartsWrong)

/-- 'tempolaw02.Crc32cChanges': WHATEVER THE INPUT: true; the input reads as it did. -/
def crc32cChangesSpec : ChangeSpec := { name := "crc32cChanges", fn := fun _ => fun
  | [d1, d2, d3] => { results := [.lit (.bool true)], args := [d1, d2, d3] }
  | _ => none }
def crc32cChangesRow : OpenClaim := { program := "ytloaielfjfofgaa", sum := "f71ad660b312a3998d83cf0d6d7d89899a7e2f312ddbdba0c5824433f9f461fb", func := "tempo/tempolaw02.Crc32cChanges", spec := "crc32cChanges", apart := false }
def Crc32cChangesSaid : Prop := crc32cChangesRow.holds Try.pinned (OpenSpec.ofChange crc32cChangesSpec)

/-- ITS FALSE NEIGHBOUR: 'it returns false'. Refute it at one input. -/
def crc32cChangesWrong : ChangeSpec := { name := "crc32cChanges", fn := fun _ => fun
  | [d1, d2, d3] => { results := [.lit (.bool false)], args := [d1, d2, d3] }
  | _ => none }
def Crc32cChangesWrongFalsely : Prop := crc32cChangesRow.holds Try.pinned (OpenSpec.ofChange crc32cChangesWrong)

/-- 'tempolaw02.Crc32cLinear': WHATEVER THE INPUT: true; the input reads as it did. -/
def crc32cLinearSpec : ChangeSpec := { name := "crc32cLinear", fn := fun _ => fun
  | [d1, d2, d3] => { results := [.lit (.bool true)], args := [d1, d2, d3] }
  | _ => none }
def crc32cLinearRow : OpenClaim := { program := "ytloaielfjfofgaa", sum := "f71ad660b312a3998d83cf0d6d7d89899a7e2f312ddbdba0c5824433f9f461fb", func := "tempo/tempolaw02.Crc32cLinear", spec := "crc32cLinear", apart := false }
def Crc32cLinearSaid : Prop := crc32cLinearRow.holds Try.pinned (OpenSpec.ofChange crc32cLinearSpec)

/-- ITS FALSE NEIGHBOUR: 'it returns false'. Refute it at one input. -/
def crc32cLinearWrong : ChangeSpec := { name := "crc32cLinear", fn := fun _ => fun
  | [d1, d2, d3] => { results := [.lit (.bool false)], args := [d1, d2, d3] }
  | _ => none }
def Crc32cLinearWrongFalsely : Prop := crc32cLinearRow.holds Try.pinned (OpenSpec.ofChange crc32cLinearWrong)

/-- 'tempolaw02.Crc32cSealed': WHATEVER THE INPUT: true; the input reads as it did. -/
def crc32cSealedSpec : ChangeSpec := { name := "crc32cSealed", fn := fun _ => fun
  | [d1, d2, d3] => { results := [.lit (.bool true)], args := [d1, d2, d3] }
  | _ => none }
def crc32cSealedRow : OpenClaim := { program := "ytloaielfjfofgaa", sum := "f71ad660b312a3998d83cf0d6d7d89899a7e2f312ddbdba0c5824433f9f461fb", func := "tempo/tempolaw02.Crc32cSealed", spec := "crc32cSealed", apart := false }
def Crc32cSealedSaid : Prop := crc32cSealedRow.holds Try.pinned (OpenSpec.ofChange crc32cSealedSpec)

/-- ITS FALSE NEIGHBOUR: 'it returns false'. Refute it at one input. -/
def crc32cSealedWrong : ChangeSpec := { name := "crc32cSealed", fn := fun _ => fun
  | [d1, d2, d3] => { results := [.lit (.bool false)], args := [d1, d2, d3] }
  | _ => none }
def Crc32cSealedWrongFalsely : Prop := crc32cSealedRow.holds Try.pinned (OpenSpec.ofChange crc32cSealedWrong)

/-- 'tempolaw02.Crc32cUnsealed': WHATEVER THE INPUT: true; the input reads as it did. -/
def crc32cUnsealedSpec : ChangeSpec := { name := "crc32cUnsealed", fn := fun _ => fun
  | [d] => { results := [.lit (.bool true)], args := [d] }
  | _ => none }
def crc32cUnsealedRow : OpenClaim := { program := "ytloaielfjfofgaa", sum := "f71ad660b312a3998d83cf0d6d7d89899a7e2f312ddbdba0c5824433f9f461fb", func := "tempo/tempolaw02.Crc32cUnsealed", spec := "crc32cUnsealed", apart := false }
def Crc32cUnsealedSaid : Prop := crc32cUnsealedRow.holds Try.pinned (OpenSpec.ofChange crc32cUnsealedSpec)

/-- ITS FALSE NEIGHBOUR: 'it returns false'. Refute it at one input. -/
def crc32cUnsealedWrong : ChangeSpec := { name := "crc32cUnsealed", fn := fun _ => fun
  | [d] => { results := [.lit (.bool false)], args := [d] }
  | _ => none }
def Crc32cUnsealedWrongFalsely : Prop := crc32cUnsealedRow.holds Try.pinned (OpenSpec.ofChange crc32cUnsealedWrong)

/-- 'tempolaw02.Crc32cKnown': WHATEVER THE INPUT: true; the input reads as it did. -/
def crc32cKnownSpec : ChangeSpec := { name := "crc32cKnown", fn := fun _ => fun
  | [] => { results := [.lit (.bool true)], args := [] }
  | _ => none }
def crc32cKnownRow : OpenClaim := { program := "ytloaielfjfofgaa", sum := "f71ad660b312a3998d83cf0d6d7d89899a7e2f312ddbdba0c5824433f9f461fb", func := "tempo/tempolaw02.Crc32cKnown", spec := "crc32cKnown", apart := false }
def Crc32cKnownSaid : Prop := crc32cKnownRow.holds Try.pinned (OpenSpec.ofChange crc32cKnownSpec)

/-- ITS FALSE NEIGHBOUR: 'it returns false'. Refute it at one input. -/
def crc32cKnownWrong : ChangeSpec := { name := "crc32cKnown", fn := fun _ => fun
  | [] => { results := [.lit (.bool false)], args := [] }
  | _ => none }
def Crc32cKnownWrongFalsely : Prop := crc32cKnownRow.holds Try.pinned (OpenSpec.ofChange crc32cKnownWrong)

/- THE SECOND FORM. 'bulk': how many values and letters a reading holds, each counted each time it is reached (what is shared counts as often as it is met; a slice's spare places count too). A statement '..UptoSaid' is the law's where the arguments, and the package variables that the reading takes, are together of bulk at most 1048576: NARROWER than '..Said'. Prove '..Said' where nothing that the law and all that it calls make is longer than what came in: it says more and counts as full. Else prove '..UptoSaid'. A law counts once. -/
mutual
def uptoBulk {H : Type} : DataW H → Nat
  | .lit (.string bytes) => bytes.length + 1
  | .lit _ => 1
  | .nil => 1
  | .ptr d => uptoBulk d + 1
  | .slice elems spare => uptoBulkAll elems + uptoBulkAll spare + 1
  | .agg parts => uptoBulkAll parts + 1
  | .iface _ d => uptoBulk d + 1
  | .map entries => uptoBulkEntries entries + 1
  | .held _ => 1
def uptoBulkAll {H : Type} : List (DataW H) → Nat
  | [] => 0
  | d :: r => uptoBulk d + uptoBulkAll r
def uptoBulkEntries {H : Type} : List (Lit × DataW H) → Nat
  | [] => 0
  | x :: r => uptoBulkEntry x + uptoBulkEntries r
def uptoBulkEntry {H : Type} : Lit × DataW H → Nat
  | (.string bytes, d) => bytes.length + uptoBulk d + 1
  | (_, d) => uptoBulk d + 1
 end
def uptoSmall : (H : Type) → List (DataW H) → Bool := fun _ ds => decide (uptoBulkAll ds ≤ 1048576)
def OpenSpec.upto (s : _root_.Go.ChangeSpec) : _root_.Go.OpenSpec := { _root_.Go.OpenSpec.ofChange s with cond := some uptoSmall }

/-- 'tempolaw02.Crc32cSums', WHERE WHAT IT READS IS OF BULK AT MOST 1048576: true; the input reads as it did. -/
def crc32cSumsUptoRow : OpenClaim := { program := "ytloaielfjfofgaa", sum := "f71ad660b312a3998d83cf0d6d7d89899a7e2f312ddbdba0c5824433f9f461fb", func := "tempo/tempolaw02.Crc32cSums", spec := "crc32cSums", apart := false, narrowed := true }
def Crc32cSumsUptoSaid : Prop := crc32cSumsUptoRow.holds Try.pinned (OpenSpec.upto crc32cSumsSpec)

/-- 'tempolaw02.Crc32cSeals', WHERE WHAT IT READS IS OF BULK AT MOST 1048576: true; the input reads as it did. -/
def crc32cSealsUptoRow : OpenClaim := { program := "ytloaielfjfofgaa", sum := "f71ad660b312a3998d83cf0d6d7d89899a7e2f312ddbdba0c5824433f9f461fb", func := "tempo/tempolaw02.Crc32cSeals", spec := "crc32cSeals", apart := false, narrowed := true }
def Crc32cSealsUptoSaid : Prop := crc32cSealsUptoRow.holds Try.pinned (OpenSpec.upto crc32cSealsSpec)

/-- 'tempolaw02.Crc32cParts', WHERE WHAT IT READS IS OF BULK AT MOST 1048576: true; the input reads as it did. -/
def crc32cPartsUptoRow : OpenClaim := { program := "ytloaielfjfofgaa", sum := "f71ad660b312a3998d83cf0d6d7d89899a7e2f312ddbdba0c5824433f9f461fb", func := "tempo/tempolaw02.Crc32cParts", spec := "crc32cParts", apart := false, narrowed := true }
def Crc32cPartsUptoSaid : Prop := crc32cPartsUptoRow.holds Try.pinned (OpenSpec.upto crc32cPartsSpec)

/-- 'tempolaw02.Crc32cChanges', WHERE WHAT IT READS IS OF BULK AT MOST 1048576: true; the input reads as it did. -/
def crc32cChangesUptoRow : OpenClaim := { program := "ytloaielfjfofgaa", sum := "f71ad660b312a3998d83cf0d6d7d89899a7e2f312ddbdba0c5824433f9f461fb", func := "tempo/tempolaw02.Crc32cChanges", spec := "crc32cChanges", apart := false, narrowed := true }
def Crc32cChangesUptoSaid : Prop := crc32cChangesUptoRow.holds Try.pinned (OpenSpec.upto crc32cChangesSpec)

/-- 'tempolaw02.Crc32cLinear', WHERE WHAT IT READS IS OF BULK AT MOST 1048576: true; the input reads as it did. -/
def crc32cLinearUptoRow : OpenClaim := { program := "ytloaielfjfofgaa", sum := "f71ad660b312a3998d83cf0d6d7d89899a7e2f312ddbdba0c5824433f9f461fb", func := "tempo/tempolaw02.Crc32cLinear", spec := "crc32cLinear", apart := false, narrowed := true }
def Crc32cLinearUptoSaid : Prop := crc32cLinearUptoRow.holds Try.pinned (OpenSpec.upto crc32cLinearSpec)

/-- 'tempolaw02.Crc32cSealed', WHERE WHAT IT READS IS OF BULK AT MOST 1048576: true; the input reads as it did. -/
def crc32cSealedUptoRow : OpenClaim := { program := "ytloaielfjfofgaa", sum := "f71ad660b312a3998d83cf0d6d7d89899a7e2f312ddbdba0c5824433f9f461fb", func := "tempo/tempolaw02.Crc32cSealed", spec := "crc32cSealed", apart := false, narrowed := true }
def Crc32cSealedUptoSaid : Prop := crc32cSealedUptoRow.holds Try.pinned (OpenSpec.upto crc32cSealedSpec)

/-- 'tempolaw02.Crc32cUnsealed', WHERE WHAT IT READS IS OF BULK AT MOST 1048576: true; the input reads as it did. -/
def crc32cUnsealedUptoRow : OpenClaim := { program := "ytloaielfjfofgaa", sum := "f71ad660b312a3998d83cf0d6d7d89899a7e2f312ddbdba0c5824433f9f461fb", func := "tempo/tempolaw02.Crc32cUnsealed", spec := "crc32cUnsealed", apart := false, narrowed := true }
def Crc32cUnsealedUptoSaid : Prop := crc32cUnsealedUptoRow.holds Try.pinned (OpenSpec.upto crc32cUnsealedSpec)

/-- 'tempolaw02.Crc32cKnown', WHERE WHAT IT READS IS OF BULK AT MOST 1048576: true; the input reads as it did. -/
def crc32cKnownUptoRow : OpenClaim := { program := "ytloaielfjfofgaa", sum := "f71ad660b312a3998d83cf0d6d7d89899a7e2f312ddbdba0c5824433f9f461fb", func := "tempo/tempolaw02.Crc32cKnown", spec := "crc32cKnown", apart := false, narrowed := true }
def Crc32cKnownUptoSaid : Prop := crc32cKnownUptoRow.holds Try.pinned (OpenSpec.upto crc32cKnownSpec)

end Rows
end Go.Proofs.Ytloaielfjfofgaa
