/- Plain laws of the order of byte strings. -/
import Derived.Test.YtbfhdggfdhlkfaaBigLaw
namespace Go.Proofs.Ytbfhdggfdhlkfaa.Big
set_option linter.unusedVariables false
set_option linter.unusedSimpArgs false
theorem cmpL_cons (x y : UInt8) (a b : List UInt8) : cmpL (x :: a) (y :: b) = if x.toNat < y.toNat then -1 else if y.toNat < x.toNat then 1 else cmpL a b := rfl
theorem cmpL_range (a b : List UInt8) : cmpL a b = -1 ∨ cmpL a b = 0 ∨ cmpL a b = 1 := by
  induction a generalizing b with
  | nil => cases b with
    | nil => exact .inr (.inl rfl)
    | cons y b => exact .inl rfl
  | cons x a ih =>
    cases b with
    | nil => exact .inr (.inr rfl)
    | cons y b =>
      rw [cmpL_cons]
      split
      · exact .inl rfl
      · split
        · exact .inr (.inr rfl)
        · exact ih b
theorem cmpL_swap (a b : List UInt8) : cmpL b a = - cmpL a b := by
  induction a generalizing b with
  | nil => cases b with
    | nil => rfl
    | cons y b => rfl
  | cons x a ih =>
    cases b with
    | nil => rfl
    | cons y b =>
      rw [cmpL_cons, cmpL_cons, ih b]
      by_cases h1 : x.toNat < y.toNat
      · rw [if_pos h1, if_neg (by omega), if_pos h1]; rfl
      · rw [if_neg h1]
        by_cases h2 : y.toNat < x.toNat
        · simp [h1, h2]
        · simp [h1, h2]
theorem cmpL_zero (a b : List UInt8) : cmpL a b = 0 ↔ a = b := by
  induction a generalizing b with
  | nil => cases b with
    | nil => simp [cmpL]
    | cons y b => simp [cmpL]
  | cons x a ih =>
    cases b with
    | nil => simp [cmpL]
    | cons y b =>
      rw [cmpL_cons]
      split
      · rename_i h
        constructor
        · intro h0; omega
        · intro e; injection e with e1 _; subst e1; omega
      · split
        · rename_i h
          constructor
          · intro h0; omega
          · intro e; injection e with e1 _; subst e1; omega
        · rw [ih b]
          rename_i h1 h2
          have e : x = y := UInt8.toNat.inj (by omega)
          subst e
          simp
theorem cmpL_trans (a b c : List UInt8) (h1 : cmpL a b ≤ 0) (h2 : cmpL b c ≤ 0) : cmpL a c ≤ 0 ∧ (cmpL a b < 0 → cmpL a c < 0) := by
  induction a generalizing b c with
  | nil =>
    cases c with
    | nil =>
      cases b with
      | nil => exact ⟨by decide, fun h => h⟩
      | cons y b => exact absurd h2 (show ¬ (1 : Int) ≤ 0 by decide)
    | cons z c => exact ⟨by show (-1 : Int) ≤ 0; decide, fun _ => by show (-1 : Int) < 0; decide⟩
  | cons x a ih =>
    cases b with
    | nil => exact absurd h1 (by show ¬ (1 : Int) ≤ 0; decide)
    | cons y b =>
      cases c with
      | nil => exact absurd h2 (by show ¬ (1 : Int) ≤ 0; decide)
      | cons z c =>
        rw [cmpL_cons] at h1 h2 ⊢
        rw [cmpL_cons]
        by_cases hxy : x.toNat < y.toNat
        · rw [if_pos hxy]
          by_cases hyz : z.toNat < y.toNat
          · rw [if_neg (by omega), if_pos hyz] at h2; omega
          · rw [if_pos (by omega)]; constructor <;> intros <;> omega
        · rw [if_neg hxy] at h1 ⊢
          by_cases hyx : y.toNat < x.toNat
          · rw [if_pos hyx] at h1; omega
          · rw [if_neg hyx] at h1 ⊢
            by_cases hyz : y.toNat < z.toNat
            · rw [if_pos (show x.toNat < z.toNat by omega)]; constructor <;> intros <;> omega
            · rw [if_neg hyz] at h2
              by_cases hzy : z.toNat < y.toNat
              · rw [if_pos hzy] at h2; omega
              · rw [if_neg hzy] at h2
                rw [if_neg (show ¬ x.toNat < z.toNat by omega), if_neg (show ¬ z.toNat < x.toNat by omega)]
                exact ih b c h1 h2
/-- Numbers in one width are ordered as they are. -/
theorem cmpL_be (k m n : Nat) (hm : m < 256 ^ k) (hn : n < 256 ^ k) : cmpL (be k m) (be k n) = if m < n then -1 else if n < m then 1 else 0 := by
  induction k generalizing m n with
  | zero => simp at hm hn; subst hm; subst hn; rfl
  | succ k ih =>
    have hp : 0 < 256 ^ k := Nat.pow_pos (by decide)
    rw [Nat.pow_succ] at hm hn
    have dm : m / 256 ^ k < 256 := (Nat.div_lt_iff_lt_mul hp).2 (by rw [Nat.mul_comm]; exact hm)
    have dn : n / 256 ^ k < 256 := (Nat.div_lt_iff_lt_mul hp).2 (by rw [Nat.mul_comm]; exact hn)
    have be_mod : ∀ (j x : Nat), be j x = be j (x % 256 ^ j) := by
      intro j
      induction j with
      | zero => intro x; rfl
      | succ j ihj =>
        intro x
        simp only [be]
        have hj : 0 < 256 ^ j := Nat.pow_pos (by decide)
        congr 1
        · apply UInt8.toNat.inj
          simp only [UInt8.toNat_ofNat']
          rw [show (256 : Nat) ^ (j + 1) = 256 ^ j * 256 from Nat.pow_succ .., Nat.mod_mul_right_div_self]
          simp
        · rw [ihj x, ihj (x % 256 ^ (j + 1)), Nat.pow_succ, Nat.mod_mul_right_mod]
    have e1 : (UInt8.ofNat (m / 256 ^ k)).toNat = m / 256 ^ k := UInt8.toNat_ofNat_of_lt' dm
    have e2 : (UInt8.ofNat (n / 256 ^ k)).toNat = n / 256 ^ k := UInt8.toNat_ofNat_of_lt' dn
    have mm := Nat.div_add_mod m (256 ^ k)
    have nn := Nat.div_add_mod n (256 ^ k)
    have ml := Nat.mod_lt m hp
    have nl := Nat.mod_lt n hp
    simp only [be]
    rw [cmpL_cons, e1, e2, be_mod k m, be_mod k n, ih _ _ ml nl]
    generalize 256 ^ k = p at *
    generalize m / p = a at *
    generalize n / p = b at *
    generalize m % p = c at *
    generalize n % p = d at *
    by_cases h1 : a < b
    · have : p * a + p ≤ p * b := by rw [← Nat.mul_succ]; exact Nat.mul_le_mul_left p h1
      rw [if_pos h1, if_pos (by omega)]
    · rw [if_neg h1]
      by_cases h2 : b < a
      · have : p * b + p ≤ p * a := by rw [← Nat.mul_succ]; exact Nat.mul_le_mul_left p h2
        rw [if_pos h2, if_neg (by omega), if_pos (by omega)]
      · rw [if_neg h2]
        have : a = b := by omega
        subst this
        by_cases h3 : c < d
        · rw [if_pos h3, if_pos (show m < n by omega)]
        · rw [if_neg h3, if_neg (show ¬ m < n by omega)]
          by_cases h4 : d < c
          · rw [if_pos h4, if_pos (show n < m by omega)]
          · rw [if_neg h4, if_neg (show ¬ n < m by omega)]
end Go.Proofs.Ytbfhdggfdhlkfaa.Big
