/- What the functions of package bigend, and of its reference, compute: groups, and the order of bytes. -/
import Derived.Test.YtbfhdggfdhlkfaaBig2
namespace Go.Proofs.Ytbfhdggfdhlkfaa
set_option linter.unusedVariables false
set_option linter.unusedSimpArgs false
open Go Go.RowKit
set_option maxRecDepth 100000
set_option maxHeartbeats 4000000
attribute [local irreducible] WL WC WN Yl WH WQ WT
theorem bdig (x k : Nat) (h : k = 0) : Value.int .u8 ((x / 2 ^ (7 * k) % 2 ^ IntKind.u8.bits &&& (2 ^ IntKind.u8.bits - 1 - 128) : Nat) : Int) = bv (Big.dig k x) := by
  have e : (2 ^ IntKind.u8.bits - 1 - 128 : Nat) = 2 ^ 7 - 1 := rfl
  rw [e, Nat.and_two_pow_sub_one_eq_mod]
  simp only [bv, Big.dig, if_pos h, UInt8.toNat_ofNat', Big.pow128]
  congr 2
  show x / 2 ^ (7 * k) % 256 % 128 = (x / 2 ^ (7 * k) % 128 + 0) % 256
  omega
theorem bdig2 (x k : Nat) (h : k ≠ 0) : Value.int .u8 (((x / 2 ^ (7 * k) % 2 ^ IntKind.u8.bits &&& (2 ^ IntKind.u8.bits - 1 - 128)) ||| 128 : Nat) : Int) = bv (Big.dig k x) := by
  have e : (2 ^ IntKind.u8.bits - 1 - 128 : Nat) = 2 ^ 7 - 1 := rfl
  rw [e, Nat.and_two_pow_sub_one_eq_mod]
  simp only [bv, Big.dig, if_neg h, UInt8.toNat_ofNat', Big.pow128]
  congr 2
  have h1 : x / 2 ^ (7 * k) % 2 ^ IntKind.u8.bits % 2 ^ 7 < 2 ^ 7 := Nat.mod_lt _ (by decide)
  have h2 := Big.or_low (n := 1) h1
  rw [Nat.or_comm]
  rw [show (128 : Nat) = 1 * 2 ^ 7 from rfl, h2]
  show 1 * 128 + x / 2 ^ (7 * k) % 256 % 128 = (x / 2 ^ (7 * k) % 128 + 1 * 128) % 256
  omega
theorem bg1 (x : Nat) : Value.int .u8 ((x % 128 : Nat) : Int) = bv (Big.dig 0 x) := by
  simp only [bv, Big.dig, UInt8.toNat_ofNat', Nat.pow_zero, Nat.div_one, if_true, Nat.add_zero]
  congr 2
  show x % 128 = x % 128 % 256
  omega
theorem bg2 (x j : Nat) (hj : j ≠ 0) : Value.int .u8 (((128 + x / 128 ^ j % 128) % 2 ^ IntKind.u64.bits : Nat) : Int) = bv (Big.dig j x) := by
  simp only [bv, Big.dig, UInt8.toNat_ofNat', if_neg hj]
  congr 2
  show (128 + x / 128 ^ j % 128) % 18446744073709551616 = (x / 128 ^ j % 128 + 128) % 256
  omega
end Go.Proofs.Ytbfhdggfdhlkfaa
