/- What the functions of package bigend, and of its reference, compute: reading groups, and the order of bytes. -/
import Derived.Test.YtbfhdggfdhlkfaaBig3
namespace Go.Proofs.Ytbfhdggfdhlkfaa
set_option linter.unusedVariables false
set_option linter.unusedSimpArgs false
open Go Go.RowKit
set_option maxRecDepth 100000
set_option maxHeartbeats 4000000
attribute [local irreducible] WL WC WN Yl WH WQ WT
/-- The result of reading groups. -/
def three (p : Nat × Nat × Nat) : Value := .tuple #[.int .u64 (p.1 : Int), .int .i64 (p.2.1 : Int), .int .i64 (p.2.2 : Int)]
theorem vgo {v : Nat} (c : UInt8) : ((v <<< 7 % 2 ^ IntKind.u64.bits) ||| (c.toNat &&& (2 ^ IntKind.u8.bits - 1 - 128))) = (v * 128 + c.toNat % 128) % 18446744073709551616 := by
  rw [show (2 ^ IntKind.u8.bits - 1 - 128 : Nat) = 2 ^ 7 - 1 from rfl, Nat.and_two_pow_sub_one_eq_mod]
  show ((v <<< 7 % 18446744073709551616) ||| (c.toNat % 2 ^ 7)) = _
  rw [Nat.shiftLeft_eq]
  have h : v * 2 ^ 7 % 18446744073709551616 = (v % 144115188075855872) * 2 ^ 7 := by omega
  rw [h, Big.or_low (Nat.mod_lt _ (by decide))]
  omega
theorem drop_get (l : List UInt8) (t i : Nat) : (l.drop t).getD i 0 = l.getD (t + i) 0 := by simp [List.getD]
end Go.Proofs.Ytbfhdggfdhlkfaa
