/- Integers as bytes: what bytes that were made of a number are worth, and back. -/
import Derived.Test.YtbfhdggfdhlkfaaBigLaw
namespace Go.Proofs.Ytbfhdggfdhlkfaa.Big
set_option linter.unusedVariables false
set_option linter.unusedSimpArgs false
theorem val_be (k x : Nat) (h : x < 256 ^ k) : val 0 (be k x) = x := by
  have key : ∀ (k y x : Nat), val y (be k x) = y * 256 ^ k + x % 256 ^ k := by
    intro k
    induction k with
    | zero => intro y x; simp [val, be, Nat.mod_one]
    | succ k ih =>
      intro y x
      have hp : 0 < 256 ^ k := Nat.pow_pos (by decide)
      have h1 : val y (be (k + 1) x) = val (y * 256 + (UInt8.ofNat (x / 256 ^ k)).toNat) (be k x) := rfl
      rw [h1, ih, UInt8.toNat_ofNat', show (256 : Nat) ^ (k + 1) = 256 ^ k * 256 from Nat.pow_succ .., Nat.mod_mul, show (2 : Nat) ^ 8 = 256 from rfl]
      rw [Nat.add_mul, Nat.mul_assoc, Nat.mul_comm 256 (256 ^ k), Nat.mul_comm (x / 256 ^ k % 256)]
      omega
  rw [key, Nat.mod_eq_of_lt h]; omega
theorem uint_be (p more : List UInt8) (k x : Nat) (hk : 1 ≤ k ∧ k ≤ 8) (hx : x < 2 ^ (8 * k)) : uintAt (p ++ be k x ++ more) (p.length : Int) (k : Int) = (0, x) := by
  have hb := be_length k x
  unfold uintAt
  rw [if_neg (by omega), if_neg (by omega), if_neg (by simp only [List.length_append, hb]; omega), Int.toNat_natCast, Int.toNat_natCast, List.append_assoc, List.drop_left, List.take_append_of_le_length (by omega), List.take_of_length_le (by omega), val_be _ _ (by rw [pow256]; exact hx)]
theorem val_add (l : List UInt8) : ∀ (y : Nat), val y l = y * 256 ^ l.length + val 0 l := by
  induction l with
  | nil => intro y; simp [val]
  | cons c l ih =>
    intro y
    have h1 : ∀ y, val y (c :: l) = val (y * 256 + c.toNat) l := fun _ => rfl
    rw [h1, h1, ih (y * 256 + c.toNat), ih (0 * 256 + c.toNat), Nat.zero_mul, Nat.zero_add, List.length_cons, Nat.pow_succ, Nat.add_mul, Nat.mul_assoc, Nat.mul_comm 256 (256 ^ l.length)]
    omega
theorem val_one (c : UInt8) (l : List UInt8) : val 0 (c :: l) = c.toNat * 256 ^ l.length + val 0 l := by
  have h1 : val 0 (c :: l) = val (0 * 256 + c.toNat) l := rfl
  rw [h1, val_add, Nat.zero_mul, Nat.zero_add]
theorem be_mod (n : Nat) : ∀ (y v : Nat), be n (y * 256 ^ n + v) = be n v := by
  induction n with
  | zero => intro y v; rfl
  | succ n ih =>
    intro y v
    have hp : 0 < 256 ^ n := Nat.pow_pos (by decide)
    have e : y * 256 ^ (n + 1) + v = (y * 256) * 256 ^ n + v := by rw [Nat.pow_succ, Nat.mul_assoc, Nat.mul_comm 256]
    have h1 : be (n + 1) (y * 256 ^ (n + 1) + v) = UInt8.ofNat ((y * 256 ^ (n + 1) + v) / 256 ^ n) :: be n (y * 256 ^ (n + 1) + v) := rfl
    have h2 : be (n + 1) v = UInt8.ofNat (v / 256 ^ n) :: be n v := rfl
    have h3 : UInt8.ofNat (y * 256 + v / 256 ^ n) = UInt8.ofNat (v / 256 ^ n) := by
      apply UInt8.toNat_inj.1
      rw [UInt8.toNat_ofNat', UInt8.toNat_ofNat', show (2 : Nat) ^ 8 = 256 from rfl]; omega
    rw [h1, h2, e, ih (y * 256) v, Nat.add_comm, Nat.add_mul_div_right _ _ hp, Nat.add_comm, h3]
theorem be_val (l : List UInt8) : be l.length (val 0 l) = l := by
  induction l with
  | nil => rfl
  | cons c l ih =>
    have hp : 0 < 256 ^ l.length := Nat.pow_pos (by decide)
    have hlt := val_lt l
    rw [val_one, List.length_cons]
    have h1 : be (l.length + 1) (c.toNat * 256 ^ l.length + val 0 l) = UInt8.ofNat ((c.toNat * 256 ^ l.length + val 0 l) / 256 ^ l.length) :: be l.length (c.toNat * 256 ^ l.length + val 0 l) := rfl
    rw [h1, be_mod, ih, Nat.add_comm, Nat.add_mul_div_right _ _ hp, Nat.div_eq_of_lt hlt, Nat.zero_add]
    congr 1
    exact UInt8.ofNat_toNat
theorem be_eq {l : List UInt8} {k x : Nat} (hl : l.length = k) (hx : x < 256 ^ k) : l = be k x ↔ val 0 l = x := by
  constructor
  · rintro rfl; exact val_be k x hx
  · rintro rfl; subst hl; exact (be_val l).symm
end Go.Proofs.Ytbfhdggfdhlkfaa.Big
