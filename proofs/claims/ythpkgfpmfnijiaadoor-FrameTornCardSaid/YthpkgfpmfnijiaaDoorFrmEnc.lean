/- The plain law of a frame's encoding: numbers and lists alone, no Go in it. -/
import Derived.Test.YthpkgfpmfnijiaaDoorFrmLaw
import Derived.Test.YthpkgfpmfnijiaaDoorBigVal
namespace Go.Proofs.YthpkgfpmfnijiaaDoor.Frm
/-- The numbers in front of the data. -/
def head (kd tx ix no : Nat) : List UInt8 := Big.be 1 kd ++ Big.be 4 tx ++ Big.be 2 ix ++ Big.be 4 no
def payload (kd tx ix no : Nat) (d : List UInt8) : List UInt8 := Crc.sealed (head kd tx ix no ++ d)
/-- The sectors that the bytes p make. -/
def chunks (ep : Int) (p : List UInt8) : Nat → List UInt8
  | 0 => []
  | k + 1 => chunks ep p k ++ stamp ep ((p.drop (112 * k)).take 112)
def enc (kd ep tx ix no : Int) (d : List UInt8) : Nat × List UInt8 :=
  if Ok kd ep tx ix no d.length then (0, chunks ep (payload kd.toNat tx.toNat ix.toNat no.toNat d) (secs kd).1) else (2, [])
theorem chunks_succ (ep : Int) (p : List UInt8) (k : Nat) : chunks ep p (k + 1) = chunks ep p k ++ stamp ep ((p.drop (112 * k)).take 112) := rfl
theorem chunks_zero (ep : Int) (p : List UInt8) : chunks ep p 0 = [] := rfl
theorem head_length (kd tx ix no : Nat) : (head kd tx ix no).length = 11 := by simp only [head, List.length_append, Big.be_length]
theorem sealed_length (l : List UInt8) : (Crc.sealed l).length = l.length + 4 := by simp [Crc.sealed, Crc.be4]
theorem payload_length (kd tx ix no : Nat) (d : List UInt8) : (payload kd tx ix no d).length = d.length + 15 := by
  unfold payload; rw [sealed_length, List.length_append, head_length]; omega
theorem chunks_length (ep : Int) (p : List UInt8) (k : Nat) : (chunks ep p k).length = 128 * k := by
  induction k with
  | zero => rfl
  | succ k ih => rw [chunks, List.length_append, ih, stamp_length (by rw [List.length_take]; omega)]; omega
/-- A stamped sector ends with zeros: so it does not matter whether they were there. -/
theorem stamp_zeros (n : Int) (d : List UInt8) (k : Nat) (h : d.length + k ≤ 112) : stamp n (d ++ List.replicate k 0) = stamp n d := by
  unfold stamp
  rw [List.length_append, List.length_replicate, List.append_assoc (Big.be 8 n.toNat) (d ++ _), List.append_assoc d, List.replicate_append_replicate, List.append_assoc (Big.be 8 n.toNat) d]
  rw [show k + (112 - (d.length + k)) = 112 - d.length by omega]
theorem stamp_pad (n : Int) (p : List UInt8) (m j : Nat) : stamp n (((p ++ List.replicate m 0).drop (112 * j)).take 112) = stamp n ((p.drop (112 * j)).take 112) := by
  by_cases h : 112 * j ≤ p.length
  · rw [List.drop_append_of_le_length h]
    by_cases h2 : 112 ≤ (p.drop (112 * j)).length
    · rw [List.take_append_of_le_length h2]
    · rw [List.take_append, List.take_of_length_le (by omega : (p.drop (112 * j)).length ≤ 112), List.take_replicate, stamp_zeros]
      omega
  · have e1 : (p.drop (112 * j)) = [] := List.drop_eq_nil_of_le (by omega)
    have e2 : (p ++ List.replicate m (0 : UInt8)).drop (112 * j) = List.replicate (m - (112 * j - p.length)) 0 := by
      rw [List.drop_append, e1, List.nil_append, List.drop_replicate]
    rw [e1, e2, List.take_replicate, List.take_nil]
    have := stamp_zeros n [] (min 112 (m - (112 * j - p.length))) (by simp; omega)
    rwa [List.nil_append] at this
end Go.Proofs.YthpkgfpmfnijiaaDoor.Frm
