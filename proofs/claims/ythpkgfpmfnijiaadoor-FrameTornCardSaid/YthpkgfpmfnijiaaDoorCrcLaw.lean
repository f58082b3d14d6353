/- The plain arithmetic of the checksum CRC-32C: numbers and lists alone, no Go in it. -/
import Derived.KernelRfl
namespace Go.Proofs.YthpkgfpmfnijiaaDoor.Crc

/-- A step of a number. -/
def step (x : Nat) : Nat := if x % 2 = 1 then (x / 2) ^^^ 0x82F63B78 else x / 2
/-- So many steps. -/
def steps : Nat → Nat → Nat
  | 0, x => x
  | n + 1, x => steps n (step x)
/-- A byte is fed. -/
def feed (x : Nat) (b : UInt8) : Nat := steps 8 (x ^^^ b.toNat)
/-- Bytes are fed. -/
def feeds (x : Nat) (l : List UInt8) : Nat := l.foldl feed x
def ones : Nat := 4294967295
def update (s : Nat) (l : List UInt8) : Nat := feeds (s ^^^ ones) l ^^^ ones
def sum (l : List UInt8) : Nat := update 0 l
/-- A number in 4 bytes, the most significant first. -/
def be4 (n : Nat) : List UInt8 := [UInt8.ofNat (n / 16777216), UInt8.ofNat (n / 65536), UInt8.ofNat (n / 256), UInt8.ofNat n]
def sealed (l : List UInt8) : List UInt8 := l ++ be4 (sum l)

/-- What sealed bytes are opened to: an error number, and the bytes. -/
def opened (l : List UInt8) : Nat × List UInt8 :=
  if l.length < 4 then (13, []) else if sealed (l.take (l.length - 4)) = l then (0, l.take (l.length - 4)) else (12, [])
theorem be4_length (n : Nat) : (be4 n).length = 4 := rfl
theorem sealed_length (l : List UInt8) : (sealed l).length = l.length + 4 := by simp [sealed, be4_length]

theorem steps_add (m n x : Nat) : steps (m + n) x = steps n (steps m x) := by
  induction m generalizing x with
  | zero => simp [steps]
  | succ m ih => rw [show m + 1 + n = (m + n) + 1 by omega, steps, ih, steps]

theorem steps_succ (n x : Nat) : steps (n + 1) x = step (steps n x) := by rw [steps_add]; rfl
theorem xor_half (a b : Nat) : (a ^^^ b) / 2 = a / 2 ^^^ b / 2 := by
  have := @Nat.xor_div_two_pow a b 1
  simpa using this
theorem xor_odd (a b : Nat) : (a ^^^ b) % 2 = (a % 2 + b % 2) % 2 := by
  have := @Nat.xor_mod_two_pow a b 1
  rw [show (2 : Nat) ^ 1 = 2 from rfl] at this
  rw [this]
  rcases Nat.mod_two_eq_zero_or_one a with h | h <;> rcases Nat.mod_two_eq_zero_or_one b with k | k <;> rw [h, k] <;> rfl

theorem step_xor (a b : Nat) : step (a ^^^ b) = step a ^^^ step b := by
  unfold step
  rw [xor_half, xor_odd]
  rcases Nat.mod_two_eq_zero_or_one a with h | h <;> rcases Nat.mod_two_eq_zero_or_one b with k | k <;> rw [h, k]
  · simp
  · simp only [Nat.zero_add, Nat.one_mod, Nat.zero_ne_one, if_true, if_false, Nat.xor_assoc]
  · simp only [Nat.add_zero, Nat.one_mod, Nat.zero_ne_one, if_true, if_false]
    rw [Nat.xor_assoc, Nat.xor_assoc, Nat.xor_comm (b / 2)]
  · simp only [show (1 + 1) % 2 = 0 from rfl, Nat.zero_ne_one, if_true, if_false]
    rw [Nat.xor_comm (b / 2), Nat.xor_assoc, ← Nat.xor_assoc 0x82F63B78, Nat.xor_self, Nat.zero_xor]
theorem step_zero : step 0 = 0 := rfl
theorem steps_zero (n : Nat) : steps n 0 = 0 := by
  induction n with
  | zero => rfl
  | succ n ih => rw [steps, step_zero, ih]
theorem steps_xor (n a b : Nat) : steps n (a ^^^ b) = steps n a ^^^ steps n b := by
  induction n generalizing a b with
  | zero => rfl
  | succ n ih => rw [steps, step_xor, ih]; rfl
theorem step_even (x : Nat) : step (2 * x) = x := by
  unfold step
  rw [if_neg (by omega)]; omega
/-- Steps of a number whose lowest bits are zeros shift it. -/
theorem steps_shift (n x : Nat) : steps n (x * 2 ^ n) = x := by
  induction n generalizing x with
  | zero => simp [steps]
  | succ n ih => rw [steps, Nat.pow_succ, ← Nat.mul_assoc, Nat.mul_comm _ 2, step_even, ih]

theorem step_lt {x : Nat} (h : x < 4294967296) : step x < 4294967296 := by
  unfold step
  split
  · exact Nat.xor_lt_two_pow (n := 32) (show x / 2 < 2 ^ 32 by omega) (by decide)
  · omega
theorem steps_lt {x : Nat} (n : Nat) (h : x < 4294967296) : steps n x < 4294967296 := by
  induction n generalizing x with
  | zero => exact h
  | succ n ih => exact ih (step_lt h)
theorem xor_zero_eq {a b : Nat} (h : a ^^^ b = 0) : a = b := by
  have := congrArg (· ^^^ b) h
  simpa [Nat.xor_assoc, Nat.xor_self] using this
/-- Of the numbers of 32 bits only 0 steps to 0. -/
theorem step_ne {x : Nat} (h : x < 4294967296) (hx : x ≠ 0) : step x ≠ 0 := by
  unfold step
  split
  · intro e
    have e2 : x / 2 = 0x82F63B78 := xor_zero_eq e
    omega
  · omega
theorem steps_ne {x : Nat} (n : Nat) (h : x < 4294967296) (hx : x ≠ 0) : steps n x ≠ 0 := by
  induction n generalizing x with
  | zero => exact hx
  | succ n ih => exact ih (step_lt h) (step_ne h hx)

theorem byte_lt (b : UInt8) : b.toNat < 256 := b.toNat_lt
theorem xor_byte_lt {x : Nat} (h : x < 4294967296) (b : UInt8) : x ^^^ b.toNat < 4294967296 :=
  Nat.xor_lt_two_pow (n := 32) h (by have := byte_lt b; omega)
theorem feed_lt {x : Nat} (h : x < 4294967296) (b : UInt8) : feed x b < 4294967296 := steps_lt 8 (xor_byte_lt h b)
theorem feeds_lt {x : Nat} (h : x < 4294967296) (l : List UInt8) : feeds x l < 4294967296 := by
  induction l generalizing x with
  | nil => exact h
  | cons b l ih => exact ih (feed_lt h b)
theorem update_lt {s : Nat} (h : s < 4294967296) (l : List UInt8) : update s l < 4294967296 :=
  Nat.xor_lt_two_pow (n := 32) (feeds_lt (Nat.xor_lt_two_pow (n := 32) h (by decide)) l) (by decide)
theorem sum_lt (l : List UInt8) : sum l < 4294967296 := update_lt (by decide) l

theorem xor_ones_ones (x : Nat) : (x ^^^ ones) ^^^ ones = x := by rw [Nat.xor_assoc, Nat.xor_self, Nat.xor_zero]
theorem feeds_append (x : Nat) (a b : List UInt8) : feeds x (a ++ b) = feeds (feeds x a) b := List.foldl_append
theorem update_append (s : Nat) (a b : List UInt8) : update s (a ++ b) = update (update s a) b := by
  unfold update
  rw [xor_ones_ones, feeds_append]
theorem update_nil (s : Nat) : update s [] = s := xor_ones_ones s

/-- What the table of the program has for a byte. -/
def entry (i : Nat) : Nat := steps 8 i
/-- The step of the program: by the table. -/
theorem feed_table {x : Nat} (b : UInt8) : feed x b = entry ((x % 256) ^^^ b.toNat) ^^^ (x / 256) := by
  have hx : x = (x % 256) ^^^ (x / 256 * 2 ^ 8) := by
    have h : x / 256 * 2 ^ 8 ||| x % 256 = x / 256 * 2 ^ 8 + x % 256 := by
      have := Nat.two_pow_add_eq_or_of_lt (i := 8) (b := x % 256) (by omega) (x / 256)
      rw [Nat.mul_comm] at this
      exact this.symm
    have h2 : x % 256 ^^^ x / 256 * 2 ^ 8 = x / 256 * 2 ^ 8 ||| x % 256 := by
      apply Nat.eq_of_testBit_eq
      intro i
      rw [Nat.testBit_xor, Nat.testBit_or, Nat.testBit_mul_two_pow, show (256 : Nat) = 2 ^ 8 from rfl, Nat.testBit_mod_two_pow]
      by_cases hi : i < 8
      · simp [hi, show ¬ 8 ≤ i by omega]
      · simp [hi]
    rw [h2, h]; omega
  unfold feed entry
  conv => lhs; rw [hx]
  rw [Nat.xor_assoc, Nat.xor_comm (x / 256 * 2 ^ 8), ← Nat.xor_assoc, steps_xor, steps_shift]

/-- The xor of two lists, byte by byte. -/
def xorL : List UInt8 → List UInt8 → List UInt8
  | a :: l, b :: m => (a ^^^ b) :: xorL l m
  | _, _ => []
theorem toNat_xor (a b : UInt8) : (a ^^^ b).toNat = a.toNat ^^^ b.toNat := UInt8.toNat_xor a b
theorem xorL_length {a b : List UInt8} (h : a.length = b.length) : (xorL a b).length = a.length := by
  induction a generalizing b with
  | nil => rfl
  | cons x a ih =>
    cases b with
    | nil => simp at h
    | cons y b => simp only [xorL, List.length_cons]; rw [ih (by simpa using h)]
theorem feeds_xor {a b : List UInt8} (h : a.length = b.length) (x y : Nat) : feeds (x ^^^ y) (xorL a b) = feeds x a ^^^ feeds y b := by
  induction a generalizing b x y with
  | nil => cases b with
    | nil => rfl
    | cons y b => simp at h
  | cons c a ih =>
    cases b with
    | nil => simp at h
    | cons d b =>
      simp only [xorL, feeds, List.foldl_cons]
      have e : feed (x ^^^ y) (c ^^^ d) = feed x c ^^^ feed y d := by
        unfold feed
        rw [toNat_xor, ← steps_xor]
        congr 1
        rw [Nat.xor_assoc, Nat.xor_assoc, ← Nat.xor_assoc y, Nat.xor_comm y, Nat.xor_assoc]
      rw [e]
      exact ih (by simpa using h) _ _

/-- P2.7: the checksums of three strings of one length. -/
theorem sum_linear {a b c : List UInt8} (h : a.length = b.length) (k : a.length = c.length) :
    sum a ^^^ sum b ^^^ sum c = sum (xorL (xorL a b) c) := by
  unfold sum update
  have e : feeds (0 ^^^ ones) (xorL (xorL a b) c) = feeds (0 ^^^ ones) a ^^^ feeds (0 ^^^ ones) b ^^^ feeds (0 ^^^ ones) c := by
    rw [← feeds_xor h, ← feeds_xor (by rw [xorL_length h]; exact k)]
    rfl
  rw [e]
  generalize feeds (0 ^^^ ones) a = p
  generalize feeds (0 ^^^ ones) b = q
  generalize feeds (0 ^^^ ones) c = r
  apply Nat.eq_of_testBit_eq
  intro i
  simp only [Nat.testBit_xor]
  cases p.testBit i <;> cases q.testBit i <;> cases r.testBit i <;> cases ones.testBit i <;> rfl

/-! ### Neighbouring bits -/
/-- The number whose bits are those of the bytes, the lowest bit of a byte first. -/
def le : List UInt8 → Nat
  | [] => 0
  | b :: l => b.toNat + 256 * le l
theorem le_lt (l : List UInt8) : le l < 2 ^ (8 * l.length) := by
  induction l with
  | nil => simp [le]
  | cons b l ih =>
    simp only [le, List.length_cons]
    rw [show 8 * (l.length + 1) = 8 * l.length + 8 by omega, Nat.pow_add]
    have := byte_lt b
    generalize 2 ^ (8 * l.length) = p at *
    omega
theorem xor_low_high (x : Nat) {b : Nat} (hb : b < 256) (y : Nat) : (x ^^^ (b + 256 * y)) = (x ^^^ b) ^^^ (y * 2 ^ 8) := by
  have h : b + 256 * y = b ^^^ (y * 2 ^ 8) := by
    apply Nat.eq_of_testBit_eq
    intro i
    have e := Nat.two_pow_add_eq_or_of_lt (i := 8) (b := b) (by omega) y
    rw [show b + 256 * y = 2 ^ 8 * y + b by omega, e, Nat.testBit_or, Nat.testBit_xor, Nat.mul_comm (2 ^ 8), Nat.testBit_mul_two_pow]
    by_cases hi : i < 8
    · simp [show ¬ 8 ≤ i by omega]
    · have : b.testBit i = false := Nat.testBit_lt_two_pow (Nat.lt_of_lt_of_le hb (by
        have := Nat.pow_le_pow_right (n := 2) (by decide) (show 8 ≤ i by omega)
        omega))
      simp [this]
  rw [h, Nat.xor_assoc]
theorem feeds_le (x : Nat) (l : List UInt8) : feeds x l = steps (8 * l.length) (x ^^^ le l) := by
  induction l generalizing x with
  | nil => simp [feeds, le, steps]
  | cons b l ih =>
    show feeds (feed x b) l = _
    rw [ih, le, xor_low_high x (byte_lt b), List.length_cons, show 8 * (l.length + 1) = 8 + 8 * l.length by omega, steps_add, steps_xor 8, steps_shift]
    rfl
/-- The checksum changes by what the changed bits come to. -/
theorem sum_changes {b c : List UInt8} (h : c.length = b.length) {m k : Nat} (hk : k ≤ 8 * b.length) (hm : m < 4294967296) (e : le c = le b ^^^ m * 2 ^ k) :
    sum b ≠ sum c ↔ m ≠ 0 := by
  have key : sum c = sum b ^^^ steps (8 * b.length - k) m := by
    unfold sum update
    rw [feeds_le, feeds_le, h, e, ← Nat.xor_assoc, steps_xor]
    have : steps (8 * b.length) (m * 2 ^ k) = steps (8 * b.length - k) m := by
      conv => lhs; rw [show 8 * b.length = k + (8 * b.length - k) by omega]
      rw [steps_add, steps_shift]
    rw [this, Nat.xor_assoc, Nat.xor_assoc (steps _ _) ones, Nat.xor_comm ones]
  constructor
  · intro hn hz
    rw [hz, steps_zero, Nat.xor_zero] at key
    exact hn key.symm
  · intro hz hn
    have h0 := steps_ne (8 * b.length - k) hm hz
    apply h0
    rw [← hn] at key
    have := congrArg (sum b ^^^ ·) key
    simp only [← Nat.xor_assoc, Nat.xor_self, Nat.zero_xor] at this
    exact this.symm
/-- One bit of one byte. -/
theorem le_set (l : List UInt8) (i : Nat) (h : i < l.length) (j : Nat) (hj : j < 8) :
    le (l.set i (l.getD i 0 ^^^ UInt8.ofNat (2 ^ j))) = le l ^^^ 2 ^ (8 * i + j) := by
  induction l generalizing i with
  | nil => simp at h
  | cons b l ih =>
    have hb := byte_lt b
    have h2 : 2 ^ j < 256 := Nat.pow_lt_pow_right (by decide) hj
    cases i with
    | zero =>
      simp only [List.set_cons_zero, List.getD_cons_zero, le, Nat.mul_zero, Nat.zero_add]
      rw [toNat_xor, UInt8.toNat_ofNat_of_lt' h2, Nat.xor_comm _ (2 ^ j), Nat.xor_comm _ (2 ^ j), xor_low_high _ hb, Nat.xor_comm (2 ^ j)]
      have hx : b.toNat ^^^ 2 ^ j < 256 := Nat.xor_lt_two_pow (n := 8) hb h2
      have e := xor_low_high 0 hx (le l)
      rw [Nat.zero_xor, Nat.zero_xor] at e
      exact e
    | succ i =>
      simp only [List.set_cons_succ, List.getD_cons_succ, le]
      rw [ih i (by simpa using h)]
      have e1 := xor_low_high 0 hb (le l ^^^ 2 ^ (8 * i + j))
      have e2 := xor_low_high 0 hb (le l)
      rw [Nat.zero_xor, Nat.zero_xor] at e1 e2
      rw [e1, e2, show 8 * (i + 1) + j = (8 * i + j) + 8 by omega, Nat.pow_add 2 (8 * i + j) 8, Nat.xor_assoc]
      generalize 2 ^ (8 * i + j) = p
      congr 1
      apply Nat.eq_of_testBit_eq
      intro t
      simp only [Nat.testBit_xor, Nat.testBit_mul_two_pow]
      by_cases ht : 8 ≤ t <;> simp [ht]
end Go.Proofs.YthpkgfpmfnijiaaDoor.Crc
