/- Plain law of bits that are flipped within 32 neighbouring ones, and what it does to a checksum and to sealed bytes. -/
import Derived.Test.YthpkgfpmfnijiaaDoorCrcLaw
namespace Go.Proofs.YthpkgfpmfnijiaaDoor.Crc
/-- i of the 32 bits have been looked at: the bytes c are the bytes b with the chosen ones flipped, which make up m. -/
structure Flip (b c : List UInt8) (at_ i m : Nat) : Prop where
  len : c.length = b.length
  lt : m < 2 ^ i
  le : le c = le b ^^^ m * 2 ^ at_
theorem Flip.start (b : List UInt8) (k : Nat) : Flip b b k 0 0 := ⟨rfl, by decide, by simp⟩
theorem Flip.keep {b c : List UInt8} {k i m : Nat} (h : Flip b c k i m) : Flip b c k (i + 1) m := ⟨h.len, Nat.lt_of_lt_of_le h.lt (Nat.pow_le_pow_right (by decide) (by omega)), h.le⟩
theorem mul_two_xor (a b k : Nat) : (a ^^^ b) * 2 ^ k = a * 2 ^ k ^^^ b * 2 ^ k := by
  apply Nat.eq_of_testBit_eq
  intro i
  simp only [Nat.testBit_xor, Nat.testBit_mul_two_pow]
  by_cases h : k ≤ i <;> simp [h]
theorem Flip.flip {b c : List UInt8} {k i m : Nat} (h : Flip b c k i m) (hk : k + i < 8 * b.length) :
    Flip b (c.set ((k + i) / 8) (c.getD ((k + i) / 8) 0 ^^^ UInt8.ofNat (2 ^ ((k + i) % 8)))) k (i + 1) (m ^^^ 2 ^ i) ∧ m ^^^ 2 ^ i ≠ 0 := by
  refine ⟨⟨by simp [h.len], Nat.xor_lt_two_pow (Nat.lt_of_lt_of_le h.lt (Nat.pow_le_pow_right (by decide) (by omega))) (Nat.pow_lt_pow_right (by decide) (by omega)), ?_⟩, fun e => ?_⟩
  · rw [le_set c _ (by rw [h.len]; omega) _ (by omega), h.le, mul_two_xor, Nat.xor_assoc]
    congr 2
    rw [← Nat.pow_add]
    congr 1
    omega
  · have := xor_zero_eq e
    have := h.lt
    omega
theorem Flip.sum {b c : List UInt8} {k m : Nat} (h : Flip b c k 32 m) (hk : k ≤ 8 * b.length) : Crc.sum b ≠ Crc.sum c ↔ m ≠ 0 := sum_changes h.len hk h.lt h.le

theorem le_append (a b : List UInt8) : Crc.le (a ++ b) = Crc.le a + 2 ^ (8 * a.length) * Crc.le b := by
  induction a with
  | nil => simp [Crc.le]
  | cons x a ih =>
    simp only [List.cons_append, Crc.le, ih, List.length_cons]
    rw [show 8 * (a.length + 1) = 8 + 8 * a.length by omega, Nat.pow_add, show (2 : Nat) ^ 8 = 256 from rfl, Nat.mul_add, ← Nat.mul_assoc, Nat.add_assoc]
theorem le_inj {a b : List UInt8} (hl : a.length = b.length) (h : Crc.le a = Crc.le b) : a = b := by
  induction a generalizing b with
  | nil => cases b with
    | nil => rfl
    | cons y b => simp at hl
  | cons x a ih =>
    cases b with
    | nil => simp at hl
    | cons y b =>
      simp only [Crc.le] at h
      have hx := byte_lt x
      have hy := byte_lt y
      have e1 : x = y := UInt8.toNat.inj (by omega)
      have e2 : Crc.le a = Crc.le b := by omega
      rw [e1, ih (by simpa using hl) e2]
theorem le_take (l : List UInt8) {n : Nat} (hn : n ≤ l.length) : Crc.le (l.take n) = Crc.le l % 2 ^ (8 * n) := by
  have h := le_append (l.take n) (l.drop n)
  rw [List.take_append_drop] at h
  have hl : (l.take n).length = n := by simp [hn]
  rw [hl] at h
  have := le_lt (l.take n)
  rw [hl] at this
  rw [h, Nat.add_mul_mod_self_left, Nat.mod_eq_of_lt this]
theorem le_drop (l : List UInt8) {n : Nat} (hn : n ≤ l.length) : Crc.le (l.drop n) = Crc.le l / 2 ^ (8 * n) := by
  have h := le_append (l.take n) (l.drop n)
  rw [List.take_append_drop] at h
  have hl : (l.take n).length = n := by simp [hn]
  rw [hl] at h
  have := le_lt (l.take n)
  rw [hl] at this
  rw [h, Nat.add_comm, Nat.mul_add_div (Nat.two_pow_pos _), Nat.div_eq_of_lt this, Nat.add_zero]
theorem be4_inj {a b : Nat} (ha : a < 4294967296) (hb : b < 4294967296) (h : be4 a = be4 b) : a = b := by
  simp only [be4, List.cons.injEq, and_true] at h
  obtain ⟨h1, h2, h3, h4⟩ := h
  have e : ∀ {x y : Nat}, UInt8.ofNat x = UInt8.ofNat y → x % 256 = y % 256 := fun h => by
    have := congrArg UInt8.toNat h
    simpa [UInt8.toNat_ofNat'] using this
  have := e h1
  have := e h2
  have := e h3
  have := e h4
  omega
/-- Sealed bytes whose flipped bits lie all in the bytes, or all in the checksum. -/
structure FlipIn (b s : List UInt8) (at_ i m : Nat) : Prop where
  flip : Flip (sealed b) s at_ i m
  data : at_ < 8 * b.length → m * 2 ^ at_ < 2 ^ (8 * b.length)
theorem FlipIn.start (b : List UInt8) (k : Nat) : FlipIn b (sealed b) k 0 0 := ⟨.start _ _, fun _ => by rw [Nat.zero_mul]; exact Nat.two_pow_pos _⟩
theorem FlipIn.keep {b c : List UInt8} {k i m : Nat} (h : FlipIn b c k i m) : FlipIn b c k (i + 1) m := ⟨h.flip.keep, h.data⟩
theorem FlipIn.go {b c : List UInt8} {k i m : Nat} (h : FlipIn b c k i m) (hk : k + i < 8 * (sealed b).length) (hd : k < 8 * b.length → k + i < 8 * b.length) :
    FlipIn b (c.set ((k + i) / 8) (c.getD ((k + i) / 8) 0 ^^^ UInt8.ofNat (2 ^ ((k + i) % 8)))) k (i + 1) (m ^^^ 2 ^ i) ∧ m ^^^ 2 ^ i ≠ 0 := by
  have h1 := h.flip.flip hk
  refine ⟨⟨h1.1, fun hb => ?_⟩, h1.2⟩
  rw [mul_two_xor, ← Nat.pow_add]
  exact Nat.xor_lt_two_pow (h.data hb) (Nat.pow_lt_pow_right (by decide) (by have := hd hb; omega))
theorem FlipIn.opened {b s : List UInt8} {k m : Nat} (h : FlipIn b s k 32 m) (hk : k ≤ 8 * (sealed b).length) : opened s = if m = 0 then (0, b) else (12, []) := by
  have hl := h.flip.len
  have hsl := sealed_length b
  unfold Crc.opened
  rw [if_neg (by omega)]
  have hbt : (sealed b).take b.length = b := by unfold sealed; simp
  have hbd : (sealed b).drop b.length = be4 (sum b) := by unfold sealed; simp
  rw [show s.length - 4 = b.length by omega]
  by_cases hm : m = 0
  · have e : s = sealed b := le_inj hl (by rw [h.flip.le, hm, Nat.zero_mul, Nat.xor_zero])
    rw [if_pos hm, e, hbt, if_pos rfl]
  · rw [if_neg hm, if_neg]
    intro e
    have ht := le_take s (n := b.length) (by omega)
    have ht2 := le_take (sealed b) (n := b.length) (by omega)
    have hd := le_drop s (n := b.length) (by omega)
    have hd2 := le_drop (sealed b) (n := b.length) (by omega)
    rw [hbt] at ht2
    rw [hbd] at hd2
    rw [h.flip.le] at ht hd
    by_cases hk8 : k < 8 * b.length
    · have hD := h.data hk8
      have hdrop : s.drop b.length = be4 (sum b) := by
        refine le_inj (by simp [be4_length]; omega) ?_
        rw [hd, hd2, Nat.xor_div_two_pow, Nat.div_eq_of_lt hD, Nat.xor_zero]
      have htake : Crc.le (s.take b.length) = Crc.le b ^^^ m * 2 ^ k := by
        rw [ht, Nat.xor_mod_two_pow, ← ht2, Nat.mod_eq_of_lt hD]
      have hne := (sum_changes (b := b) (c := s.take b.length) (by simp; omega) (by omega) h.flip.lt htake).2 hm
      have e2 := congrArg (List.drop b.length) e
      rw [hdrop] at e2
      unfold sealed at e2
      rw [List.drop_append_of_le_length (by simp; omega), List.drop_eq_nil_of_le (by simp; omega), List.nil_append] at e2
      exact hne (be4_inj (sum_lt _) (sum_lt _) e2).symm
    · have htake : s.take b.length = b := by
        refine le_inj (by simp; omega) ?_
        rw [ht, Nat.xor_mod_two_pow, ← ht2]
        have : m * 2 ^ k % 2 ^ (8 * b.length) = 0 := by
          rw [show k = 8 * b.length + (k - 8 * b.length) by omega, Nat.pow_add, Nat.mul_comm, Nat.mul_assoc]
          exact Nat.mul_mod_right _ _
        rw [this, Nat.xor_zero]
      rw [htake] at e
      have h1 := h.flip.le
      rw [← e] at h1
      have h2 : m * 2 ^ k = 0 := by
        have := congrArg (Crc.le (sealed b) ^^^ ·) h1
        simp only [← Nat.xor_assoc, Nat.xor_self, Nat.zero_xor] at this
        exact this.symm
      rcases Nat.mul_eq_zero.1 h2 with h3 | h3
      · exact hm h3
      · have := Nat.two_pow_pos k; omega
end Go.Proofs.YthpkgfpmfnijiaaDoor.Crc
