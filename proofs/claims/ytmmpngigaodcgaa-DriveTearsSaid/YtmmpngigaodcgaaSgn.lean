/- Shifts and bits of numbers with a sign, where nothing overflows. -/
import Derived.Test.YtmmpngigaodcgaaClo
namespace Go.Proofs.Ytmmpngigaodcgaa
set_option linter.unusedVariables false
set_option linter.unusedSimpArgs false
open Go Go.RowKit
section
variable {X : Cx} {ρ : Env} {A : List HA} {ty t u : TypeId} {x y : Operand}
theorem Yl.shl64 {k' : IntKind} {m c : Nat} (hx : ev ρ x = some (.int .i64 (m : Int))) (hy : ev ρ y = some (.int k' (c : Int))) (hc : c ≤ 64) (hm : m * 2 ^ c < 9223372036854775808) :
    Yl X (.binOp .shl t x y u) ty ρ A (.int .i64 ((m * 2 ^ c : Nat) : Int)) := Yl.intro fun o ho _ a w f _ => by
  have e : IntKind.i64.wrap ((m : Int) * 2 ^ c) = ((m * 2 ^ c : Nat) : Int) := by
    have : (m : Int) * 2 ^ c = ((m * 2 ^ c : Nat) : Int) := by norm_cast
    rw [this]; exact wrap64_fits (by omega) (by omega)
  have h2 : c ≤ IntKind.i64.bits := hc
  simp only [execOp, ho, f.ev hx, f.ev hy, eqGuard, binOp, Op.shift]
  simp [show ¬ ((c : Int) < 0) by omega, Nat.min_eq_left h2, e]
theorem Yl.or64 {m n : Nat} (hx : ev ρ x = some (.int .i64 (m : Int))) (hy : ev ρ y = some (.int .i64 (n : Int))) (hm : m < 2 ^ 63) (hn : n < 2 ^ 63) :
    Yl X (.binOp .or t x y u) ty ρ A (.int .i64 ((m ||| n : Nat) : Int)) := Yl.intro fun o ho _ a w f _ => by
  have h : m ||| n < 2 ^ 63 := Nat.or_lt_two_pow hm hn
  have h63 : (2 : Nat) ^ 63 = 9223372036854775808 := by decide
  have h64 : (2 : Nat) ^ IntKind.i64.bits = 18446744073709551616 := by decide
  have e : (BitVec.ofInt IntKind.i64.bits (m : Int) ||| BitVec.ofInt IntKind.i64.bits (n : Int)).toNat = m ||| n := by rw [BitVec.toNat_or, ofInt_nat (by omega), ofInt_nat (by omega)]
  simp only [execOp, ho, f.ev hx, f.ev hy, eqGuard, binOp, Op.intBits, e, wrap64_fits (z := ((m ||| n : Nat) : Int)) (by omega) (by omega)]
  simp
theorem Yl.neg64 {m : Int} (hx : ev ρ x = some (.int .i64 m)) (h : -9223372036854775808 ≤ -m ∧ -m ≤ 9223372036854775807) : Yl X (.unOp .neg t x) ty ρ A (.int .i64 (-m)) := Yl.intro fun o ho _ a w f _ => by
  simp [execOp, ho, f.ev hx, Op.unary, Op.intArith, wrap64_fits h.1 h.2]
end
end Go.Proofs.Ytmmpngigaodcgaa
