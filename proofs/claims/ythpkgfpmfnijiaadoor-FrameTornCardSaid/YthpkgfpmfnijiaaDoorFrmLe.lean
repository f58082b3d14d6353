/- Frames are checked, encoded, stamped and decoded as the document says: the functions that state it return true. -/
import Derived.Test.YthpkgfpmfnijiaaDoorFrmWk
import Derived.Test.YthpkgfpmfnijiaaDoorFrm8
import Derived.Test.YthpkgfpmfnijiaaDoorFrm11
namespace Go.Proofs.YthpkgfpmfnijiaaDoor
open Go Go.RowKit
set_option maxHeartbeats 8000000
set_option maxRecDepth 100000
theorem stamped_le (x : Int) (l : List UInt8) : (Frm.stamped x l).2.length ≤ 128 := by
  unfold Frm.stamped
  split
  · rename_i h; exact Nat.le_of_eq (Frm.stamp_length h.2)
  · exact Nat.zero_le _
theorem unst_le (l : List UInt8) (x : Int) : (Frm.unst l x).2.length ≤ 112 := by
  unfold Frm.unst
  split
  · exact Nat.zero_le _
  · split
    · exact Nat.zero_le _
    · rw [List.length_take]; exact Nat.min_le_left _ _
theorem enc_le (kd ep tx ix no : Int) (d : List UInt8) : (Frm.enc kd ep tx ix no d).2.length ≤ 640 := by
  unfold Frm.enc
  split
  · rename_i h
    rw [Frm.chunks_length]
    have : (Frm.secs kd).1 ≤ 5 := by
      unfold Frm.secs
      split
      · exact Nat.le_refl _
      · split
        · show 1 ≤ 5; decide
        · exact Nat.zero_le _
    omega
  · exact Nat.zero_le _
theorem same_t (a b : Option Addr) (n c1 c2 : Nat) (l : List UInt8) (w : World) (hl : l.length = n) (hn : n ≤ 9223372036854775807) (hr : CellsAt w a (bs l)) (hr2 : CellsAt w b (bs l)) :
    Calls Tryd.prog 19 #[.slice a n c1, .slice b n c2] w (Gives (Val (.bool true)) w) := by
  have := same_c a b n n c1 c2 l l w hl hl hn hr hr2
  rwa [decide_eq_true rfl] at this
end Go.Proofs.YthpkgfpmfnijiaaDoor
