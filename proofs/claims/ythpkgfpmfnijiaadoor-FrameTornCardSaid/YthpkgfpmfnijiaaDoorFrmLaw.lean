/- The plain law of frames: stamps, sectors, encodings; numbers and lists alone, no Go in it. -/
import Derived.Test.YthpkgfpmfnijiaaDoorBigLaw
import Derived.Test.YthpkgfpmfnijiaaDoorCrcLaw
namespace Go.Proofs.YthpkgfpmfnijiaaDoor.Frm
/-- A number is an epoch. -/
abbrev Ep (n : Int) : Prop := 1 ≤ n ∧ n ≤ 1099511627776
/-- A frame is valid: its kind, epoch, transaction, index, number, and how many bytes it has. -/
abbrev Ok (kd ep tx ix no : Int) (n : Nat) : Prop :=
  Ep ep ∧ 1 ≤ tx ∧ tx ≤ 4294967295 ∧ (kd = 1 ∧ 0 ≤ ix ∧ ix ≤ 4095 ∧ 0 ≤ no ∧ no ≤ 4095 ∧ n = 512 ∨ kd = 2 ∧ ix = 0 ∧ 1 ≤ no ∧ no ≤ 4096 ∧ n = 0)
def check (kd ep tx ix no : Int) (n : Nat) : Nat := if Ok kd ep tx ix no n then 0 else 2
def secs (kd : Int) : Nat × Nat := if kd = 1 then (5, 0) else if kd = 2 then (1, 0) else (0, 2)
/-- A sector with a stamp at both ends. -/
def stamp (n : Int) (d : List UInt8) : List UInt8 := Big.be 8 n.toNat ++ d ++ List.replicate (112 - d.length) 0 ++ Big.be 8 n.toNat
def stamped (n : Int) (d : List UInt8) : Nat × List UInt8 := if Ep n ∧ d.length ≤ 112 then (0, stamp n d) else (2, [])
def Torn (b : List UInt8) (n : Int) : Prop := b.length < 128 ∨ b.take 8 ≠ Big.be 8 n.toNat ∨ (b.drop 120).take 8 ≠ Big.be 8 n.toNat
instance (b : List UInt8) (n : Int) : Decidable (Torn b n) := by unfold Torn; infer_instance
def unst (b : List UInt8) (n : Int) : Nat × List UInt8 := if ¬ Ep n then (2, []) else if Torn b n then (13, []) else (0, (b.drop 8).take 112)
theorem stamp_length {n : Int} {d : List UInt8} (h : d.length ≤ 112) : (stamp n d).length = 128 := by
  simp only [stamp, List.length_append, Big.be_length, List.length_replicate]; omega
end Go.Proofs.YthpkgfpmfnijiaaDoor.Frm
