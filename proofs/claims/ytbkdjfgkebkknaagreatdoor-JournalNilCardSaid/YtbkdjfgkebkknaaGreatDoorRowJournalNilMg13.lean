import Derived.KernelRfl
import Derived.Test.YtbkdjfgkebkknaaGreatDoorRowJournalNilMg12
import Derived.Test.YtbkdjfgkebkknaaGreatDoorRowJournalNilMg9
/- The plain arithmetic of integers as bytes, most significant first: numbers and lists alone, no Go in it. -/
namespace Go.Proofs.YtbkdjfgkebkknaaGreatDoor.Big
set_option linter.unusedVariables false
set_option linter.unusedSimpArgs false

/-- How many bits a number has. -/
def len (n : Nat) : Nat := if n = 0 then 0 else Nat.log2 n + 1
theorem len_le {n k : Nat} : len n ≤ k ↔ n < 2 ^ k := by
  unfold len
  split
  · rename_i h; subst h; simp [Nat.two_pow_pos]
  · rename_i h; rw [Nat.succ_le_iff, Nat.log2_lt h]
theorem len_shift {n k : Nat} (h : 2 ^ k ≤ n) : len n = len (n / 2 ^ k) + k := by
  have key : ∀ j, len n ≤ j ↔ len (n / 2 ^ k) + k ≤ j := fun j => by
    rw [len_le]
    by_cases hj : k ≤ j
    · rw [show len (n / 2 ^ k) + k ≤ j ↔ len (n / 2 ^ k) ≤ j - k by omega, len_le, Nat.div_lt_iff_lt_mul (Nat.two_pow_pos k), ← Nat.pow_add, show j - k + k = j by omega]
    · have := Nat.pow_le_pow_right (n := 2) (by decide) (show j ≤ k by omega)
      constructor
      · intro h1; omega
      · intro h1; omega
  have h1 := (key (len n)).1 (Nat.le_refl _)
  have h2 := (key (len (n / 2 ^ k) + k)).2 (Nat.le_refl _)
  omega

/-- A number in k bytes. -/
def be : Nat → Nat → List UInt8
  | 0, _ => []
  | k + 1, n => UInt8.ofNat (n / 256 ^ k) :: be k n
theorem be_length (k n : Nat) : (be k n).length = k := by
  induction k with
  | zero => rfl
  | succ k ih => simp [be, ih]
theorem be_get (k n i : Nat) (h : i < k) : (be k n).getD i 0 = UInt8.ofNat (n / 256 ^ (k - 1 - i)) := by
  induction k generalizing i with
  | zero => omega
  | succ k ih =>
    cases i with
    | zero => simp [be]
    | succ i =>
      simp only [be, List.getD_cons_succ]
      rw [ih i (by omega)]
      congr 3
      omega
/-- What is appended, and the error number. -/
def appended (l : List UInt8) (n : Nat) (width : Int) : Nat × List UInt8 :=
  if width < 1 ∨ 8 < width then (2, []) else if 2 ^ (8 * width.toNat) ≤ n then (14, []) else (0, l ++ be width.toNat n)
def val (x : Nat) (l : List UInt8) : Nat := l.foldl (fun n c => n * 256 + c.toNat) x
def uintAt (l : List UInt8) (at_ width : Int) : Nat × Nat :=
  if width < 1 ∨ 8 < width then (2, 0) else if at_ < 0 then (3, 0) else if (l.length : Int) - width < at_ then (13, 0) else (0, val 0 ((l.drop at_.toNat).take width.toNat))
theorem val_snoc (x : Nat) (l : List UInt8) (c : UInt8) : val x (l ++ [c]) = val x l * 256 + c.toNat := by simp [val]
theorem val_lt (l : List UInt8) : val 0 l < 256 ^ l.length := by
  have : ∀ (x k : Nat), x < 256 ^ k → val x l < 256 ^ (k + l.length) := by
    induction l with
    | nil => intro x k h; simpa [val] using h
    | cons c l ih =>
      intro x k h
      have hc := c.toNat_lt
      have h1 : x * 256 + c.toNat < 256 ^ (k + 1) := by rw [Nat.pow_succ]; omega
      have := ih _ _ h1
      simp only [val, List.foldl_cons, List.length_cons] at this ⊢
      rwa [show k + (l.length + 1) = k + 1 + l.length by omega]
  simpa using this 0 0 (by decide)
theorem or_low {n c k : Nat} (hc : c < 2 ^ k) : (n * 2 ^ k) ||| c = n * 2 ^ k + c := by
  have := Nat.two_pow_add_eq_or_of_lt hc n
  rw [Nat.mul_comm] at this
  exact this.symm

/-! ### Groups -/
def gsz (n : Nat) : Nat := max 1 ((len n + 6) / 7)
def dig (k n : Nat) : UInt8 := UInt8.ofNat (n / 128 ^ k % 128 + if k = 0 then 0 else 128)
def gr : Nat → Nat → List UInt8
  | 0, _ => []
  | k + 1, n => dig k n :: gr k n
def enc (n : Nat) : List UInt8 := gr (gsz n) n
theorem gr_length (k n : Nat) : (gr k n).length = k := by
  induction k with
  | zero => rfl
  | succ k ih => simp [gr, ih]
theorem gr_get (k n i : Nat) (h : i < k) : (gr k n).getD i 0 = dig (k - 1 - i) n := by
  induction k generalizing i with
  | zero => omega
  | succ k ih =>
    cases i with
    | zero => simp [gr]
    | succ i =>
      simp only [gr, List.getD_cons_succ]
      rw [ih i (by omega)]
      congr 1
      omega
theorem pow128 (k : Nat) : 128 ^ k = 2 ^ (7 * k) := by rw [show (128 : Nat) = 2 ^ 7 from rfl, ← Nat.pow_mul]
theorem pow256 (k : Nat) : 256 ^ k = 2 ^ (8 * k) := by rw [show (256 : Nat) = 2 ^ 8 from rfl, ← Nat.pow_mul]
/-- The loop of the reference ends at this size. -/
theorem gsz_of {n j : Nat} (hj : 1 ≤ j) (h : n / 128 ^ j = 0) (h2 : j = 1 ∨ n / 128 ^ (j - 1) ≠ 0) : gsz n = j := by
  have hp : ∀ k, 0 < 128 ^ k := fun k => Nat.pow_pos (by decide)
  have h1 : len n ≤ 7 * j := by
    rw [len_le, ← pow128]
    exact (Nat.div_eq_zero_iff_lt (hp j)).1 h
  have h3 : j = 1 ∨ 7 * (j - 1) < len n := by
    rcases h2 with h2 | h2
    · exact .inl h2
    · refine .inr (Nat.lt_of_not_le fun hle => ?_)
      rw [len_le, ← pow128] at hle
      exact h2 (Nat.div_eq_of_lt hle)
  unfold gsz
  omega
theorem gsz_pos (n : Nat) : 1 ≤ gsz n := by unfold gsz; omega
theorem gsz_le {n : Nat} (h : n < 18446744073709551616) : gsz n ≤ 10 := by
  have : len n ≤ 64 := len_le.2 h
  unfold gsz; omega

/-! ### Reading groups -/
def vstep (s : Nat × Bool) (c : UInt8) : Nat × Bool := ((s.1 * 128 + c.toNat % 128) % 18446744073709551616, s.2 || decide (144115188075855872 ≤ s.1))
def vst (l : List UInt8) : Nat × Bool := l.foldl vstep (0, false)
theorem vst_snoc (l : List UInt8) (c : UInt8) : vst (l ++ [c]) = vstep (vst l) c := by simp [vst]
theorem vst_lt (l : List UInt8) : (vst l).1 < 18446744073709551616 := by
  rcases List.eq_nil_or_concat l with rfl | ⟨m, c, rfl⟩
  · decide
  · rw [List.concat_eq_append, vst_snoc]; exact Nat.mod_lt _ (by decide)
/-- How many bytes in front are 128 or more. -/
def vlen : List UInt8 → Nat
  | [] => 0
  | c :: l => if c.toNat < 128 then 0 else vlen l + 1
theorem vlen_le (l : List UInt8) : vlen l ≤ l.length := by
  induction l with
  | nil => exact Nat.le_refl _
  | cons c l ih => simp only [vlen, List.length_cons]; split <;> omega
theorem vlen_at (l : List UInt8) : ∀ {i : Nat}, i ≤ vlen l → i < l.length → ((l.getD i 0).toNat < 128 → vlen l = i) ∧ (¬ (l.getD i 0).toNat < 128 → i + 1 ≤ vlen l) := by
  induction l with
  | nil => intro i _ h; simp at h
  | cons c l ih =>
    intro i hi hl
    simp only [vlen] at hi ⊢
    cases i with
    | zero => simp only [List.getD_cons_zero]; split <;> constructor <;> intro h <;> omega
    | succ i =>
      split at hi
      · omega
      · rename_i hc
        simp only [List.getD_cons_succ, if_neg hc]
        have := ih (i := i) (by omega) (by simpa using hl)
        constructor
        · intro h; have := this.1 h; omega
        · intro h; have := this.2 h; omega
/-- What is read: the number, the offset behind it, an error number. -/
def varAt (l : List UInt8) (at_ : Int) : Nat × Nat × Nat :=
  if at_ < 0 then (0, 0, 3) else
  if (l.drop at_.toNat).length ≤ vlen (l.drop at_.toNat) then (0, 0, 13) else
  if ((l.drop at_.toNat).getD 0 0).toNat = 128 then (0, 0, 8) else
  if (vst ((l.drop at_.toNat).take (vlen (l.drop at_.toNat) + 1))).2 then (0, 0, 14) else
  ((vst ((l.drop at_.toNat).take (vlen (l.drop at_.toNat) + 1))).1, at_.toNat + vlen (l.drop at_.toNat) + 1, 0)
theorem vst_over (l : List UInt8) (i j : Nat) (h : i ≤ j) (ho : (vst (l.take i)).2 = true) : (vst (l.take j)).2 = true := by
  have key : ∀ (m : List UInt8) (s : Nat × Bool), s.2 = true → (m.foldl vstep s).2 = true := by
    intro m
    induction m with
    | nil => intro s h; exact h
    | cons c m ih => intro s h; exact ih _ (by simp [vstep, h])
  have e : l.take j = l.take i ++ (l.take j).drop i := by
    have := (List.take_append_drop i (l.take j)).symm
    rwa [List.take_take, Nat.min_eq_left h] at this
  rw [e]
  unfold vst at ho ⊢
  rw [List.foldl_append]
  exact key _ _ ho

/-! ### The order of byte strings -/
def cmpL : List UInt8 → List UInt8 → Int
  | [], [] => 0
  | [], _ :: _ => -1
  | _ :: _, [] => 1
  | a :: l, b :: m => if a.toNat < b.toNat then -1 else if b.toNat < a.toNat then 1 else cmpL l m
theorem cmpL_drop (l m : List UInt8) : ∀ (i : Nat), i < l.length → i < m.length → cmpL (l.drop i) (m.drop i) =
    if (l.getD i 0).toNat < (m.getD i 0).toNat then -1 else if (m.getD i 0).toNat < (l.getD i 0).toNat then 1 else cmpL (l.drop (i + 1)) (m.drop (i + 1)) := by
  intro i h1 h2
  rw [List.drop_eq_getElem_cons h1, List.drop_eq_getElem_cons h2]
  simp only [cmpL, List.getD_eq_getElem?_getD, List.getElem?_eq_getElem h1, List.getElem?_eq_getElem h2, Option.getD_some]
theorem cmpL_nil_l {l m : List UInt8} (h1 : l.length = 0) (h2 : m.length ≠ 0) : cmpL l m = -1 := by
  match l, m with
  | [], [] => simp at h2
  | [], _ :: _ => rfl
  | _ :: _, _ => simp at h1
theorem cmpL_nil_r {l m : List UInt8} (h1 : l.length ≠ 0) (h2 : m.length = 0) : cmpL l m = 1 := by
  match l, m with
  | [], _ => simp at h1
  | _ :: _, [] => rfl
  | _ :: _, _ :: _ => simp at h2
theorem cmpL_nil {l m : List UInt8} (h1 : l.length = 0) (h2 : m.length = 0) : cmpL l m = 0 := by
  match l, m with
  | [], [] => rfl
  | _ :: _, _ => simp at h1
  | _, _ :: _ => simp at h2
end Go.Proofs.YtbkdjfgkebkknaaGreatDoor.Big
/- The plain arithmetic of the checksum CRC-32C: numbers and lists alone, no Go in it. -/
namespace Go.Proofs.YtbkdjfgkebkknaaGreatDoor.Crc
set_option linter.unusedVariables false
set_option linter.unusedSimpArgs false

/-- A step of a number. -/
def step (x : Nat) : Nat := if x % 2 = 1 then (x / 2) ^^^ 0x82F63B78 else x / 2
/-- So many steps. -/
def steps : Nat → Nat → Nat
  | 0, x => x
  | n + 1, x => steps n (step x)
/-- A byte is fed. -/
def feed (x : Nat) (b : UInt8) : Nat := steps 8 (x ^^^ b.toNat)
/-- Bytes are fed. -/
def feeds (x : Nat) (l : List UInt8) : Nat := l.foldl feed x
def ones : Nat := 4294967295
def update (s : Nat) (l : List UInt8) : Nat := feeds (s ^^^ ones) l ^^^ ones
def sum (l : List UInt8) : Nat := update 0 l
/-- A number in 4 bytes, the most significant first. -/
def be4 (n : Nat) : List UInt8 := [UInt8.ofNat (n / 16777216), UInt8.ofNat (n / 65536), UInt8.ofNat (n / 256), UInt8.ofNat n]
def sealed (l : List UInt8) : List UInt8 := l ++ be4 (sum l)

/-- What sealed bytes are opened to: an error number, and the bytes. -/
def opened (l : List UInt8) : Nat × List UInt8 :=
  if l.length < 4 then (13, []) else if sealed (l.take (l.length - 4)) = l then (0, l.take (l.length - 4)) else (12, [])
theorem be4_length (n : Nat) : (be4 n).length = 4 := rfl
theorem sealed_length (l : List UInt8) : (sealed l).length = l.length + 4 := by simp [sealed, be4_length]

theorem steps_add (m n x : Nat) : steps (m + n) x = steps n (steps m x) := by
  induction m generalizing x with
  | zero => simp [steps]
  | succ m ih => rw [show m + 1 + n = (m + n) + 1 by omega, steps, ih, steps]

theorem steps_succ (n x : Nat) : steps (n + 1) x = step (steps n x) := by rw [steps_add]; rfl
theorem xor_half (a b : Nat) : (a ^^^ b) / 2 = a / 2 ^^^ b / 2 := by
  have := @Nat.xor_div_two_pow a b 1
  simpa using this
theorem xor_odd (a b : Nat) : (a ^^^ b) % 2 = (a % 2 + b % 2) % 2 := by
  have := @Nat.xor_mod_two_pow a b 1
  rw [show (2 : Nat) ^ 1 = 2 from rfl] at this
  rw [this]
  rcases Nat.mod_two_eq_zero_or_one a with h | h <;> rcases Nat.mod_two_eq_zero_or_one b with k | k <;> rw [h, k] <;> rfl

theorem step_xor (a b : Nat) : step (a ^^^ b) = step a ^^^ step b := by
  unfold step
  rw [xor_half, xor_odd]
  rcases Nat.mod_two_eq_zero_or_one a with h | h <;> rcases Nat.mod_two_eq_zero_or_one b with k | k <;> rw [h, k]
  · simp
  · simp only [Nat.zero_add, Nat.one_mod, Nat.zero_ne_one, if_true, if_false, Nat.xor_assoc]
  · simp only [Nat.add_zero, Nat.one_mod, Nat.zero_ne_one, if_true, if_false]
    rw [Nat.xor_assoc, Nat.xor_assoc, Nat.xor_comm (b / 2)]
  · simp only [show (1 + 1) % 2 = 0 from rfl, Nat.zero_ne_one, if_true, if_false]
    rw [Nat.xor_comm (b / 2), Nat.xor_assoc, ← Nat.xor_assoc 0x82F63B78, Nat.xor_self, Nat.zero_xor]
theorem step_zero : step 0 = 0 := rfl
theorem steps_zero (n : Nat) : steps n 0 = 0 := by
  induction n with
  | zero => rfl
  | succ n ih => rw [steps, step_zero, ih]
theorem steps_xor (n a b : Nat) : steps n (a ^^^ b) = steps n a ^^^ steps n b := by
  induction n generalizing a b with
  | zero => rfl
  | succ n ih => rw [steps, step_xor, ih]; rfl
theorem step_even (x : Nat) : step (2 * x) = x := by
  unfold step
  rw [if_neg (by omega)]; omega
/-- Steps of a number whose lowest bits are zeros shift it. -/
theorem steps_shift (n x : Nat) : steps n (x * 2 ^ n) = x := by
  induction n generalizing x with
  | zero => simp [steps]
  | succ n ih => rw [steps, Nat.pow_succ, ← Nat.mul_assoc, Nat.mul_comm _ 2, step_even, ih]

theorem step_lt {x : Nat} (h : x < 4294967296) : step x < 4294967296 := by
  unfold step
  split
  · exact Nat.xor_lt_two_pow (n := 32) (show x / 2 < 2 ^ 32 by omega) (by decide)
  · omega
theorem steps_lt {x : Nat} (n : Nat) (h : x < 4294967296) : steps n x < 4294967296 := by
  induction n generalizing x with
  | zero => exact h
  | succ n ih => exact ih (step_lt h)
theorem xor_zero_eq {a b : Nat} (h : a ^^^ b = 0) : a = b := by
  have := congrArg (· ^^^ b) h
  simpa [Nat.xor_assoc, Nat.xor_self] using this
/-- Of the numbers of 32 bits only 0 steps to 0. -/
theorem step_ne {x : Nat} (h : x < 4294967296) (hx : x ≠ 0) : step x ≠ 0 := by
  unfold step
  split
  · intro e
    have e2 : x / 2 = 0x82F63B78 := xor_zero_eq e
    omega
  · omega
theorem steps_ne {x : Nat} (n : Nat) (h : x < 4294967296) (hx : x ≠ 0) : steps n x ≠ 0 := by
  induction n generalizing x with
  | zero => exact hx
  | succ n ih => exact ih (step_lt h) (step_ne h hx)

theorem byte_lt (b : UInt8) : b.toNat < 256 := b.toNat_lt
theorem xor_byte_lt {x : Nat} (h : x < 4294967296) (b : UInt8) : x ^^^ b.toNat < 4294967296 :=
  Nat.xor_lt_two_pow (n := 32) h (by have := byte_lt b; omega)
theorem feed_lt {x : Nat} (h : x < 4294967296) (b : UInt8) : feed x b < 4294967296 := steps_lt 8 (xor_byte_lt h b)
theorem feeds_lt {x : Nat} (h : x < 4294967296) (l : List UInt8) : feeds x l < 4294967296 := by
  induction l generalizing x with
  | nil => exact h
  | cons b l ih => exact ih (feed_lt h b)
theorem update_lt {s : Nat} (h : s < 4294967296) (l : List UInt8) : update s l < 4294967296 :=
  Nat.xor_lt_two_pow (n := 32) (feeds_lt (Nat.xor_lt_two_pow (n := 32) h (by decide)) l) (by decide)
theorem sum_lt (l : List UInt8) : sum l < 4294967296 := update_lt (by decide) l

theorem xor_ones_ones (x : Nat) : (x ^^^ ones) ^^^ ones = x := by rw [Nat.xor_assoc, Nat.xor_self, Nat.xor_zero]
theorem feeds_append (x : Nat) (a b : List UInt8) : feeds x (a ++ b) = feeds (feeds x a) b := List.foldl_append
theorem update_append (s : Nat) (a b : List UInt8) : update s (a ++ b) = update (update s a) b := by
  unfold update
  rw [xor_ones_ones, feeds_append]
theorem update_nil (s : Nat) : update s [] = s := xor_ones_ones s

/-- What the table of the program has for a byte. -/
def entry (i : Nat) : Nat := steps 8 i
/-- The step of the program: by the table. -/
theorem feed_table {x : Nat} (b : UInt8) : feed x b = entry ((x % 256) ^^^ b.toNat) ^^^ (x / 256) := by
  have hx : x = (x % 256) ^^^ (x / 256 * 2 ^ 8) := by
    have h : x / 256 * 2 ^ 8 ||| x % 256 = x / 256 * 2 ^ 8 + x % 256 := by
      have := Nat.two_pow_add_eq_or_of_lt (i := 8) (b := x % 256) (by omega) (x / 256)
      rw [Nat.mul_comm] at this
      exact this.symm
    have h2 : x % 256 ^^^ x / 256 * 2 ^ 8 = x / 256 * 2 ^ 8 ||| x % 256 := by
      apply Nat.eq_of_testBit_eq
      intro i
      rw [Nat.testBit_xor, Nat.testBit_or, Nat.testBit_mul_two_pow, show (256 : Nat) = 2 ^ 8 from rfl, Nat.testBit_mod_two_pow]
      by_cases hi : i < 8
      · simp [hi, show ¬ 8 ≤ i by omega]
      · simp [hi]
    rw [h2, h]; omega
  unfold feed entry
  conv => lhs; rw [hx]
  rw [Nat.xor_assoc, Nat.xor_comm (x / 256 * 2 ^ 8), ← Nat.xor_assoc, steps_xor, steps_shift]

/-- The xor of two lists, byte by byte. -/
def xorL : List UInt8 → List UInt8 → List UInt8
  | a :: l, b :: m => (a ^^^ b) :: xorL l m
  | _, _ => []
theorem toNat_xor (a b : UInt8) : (a ^^^ b).toNat = a.toNat ^^^ b.toNat := UInt8.toNat_xor a b
theorem xorL_length {a b : List UInt8} (h : a.length = b.length) : (xorL a b).length = a.length := by
  induction a generalizing b with
  | nil => rfl
  | cons x a ih =>
    cases b with
    | nil => simp at h
    | cons y b => simp only [xorL, List.length_cons]; rw [ih (by simpa using h)]
theorem feeds_xor {a b : List UInt8} (h : a.length = b.length) (x y : Nat) : feeds (x ^^^ y) (xorL a b) = feeds x a ^^^ feeds y b := by
  induction a generalizing b x y with
  | nil => cases b with
    | nil => rfl
    | cons y b => simp at h
  | cons c a ih =>
    cases b with
    | nil => simp at h
    | cons d b =>
      simp only [xorL, feeds, List.foldl_cons]
      have e : feed (x ^^^ y) (c ^^^ d) = feed x c ^^^ feed y d := by
        unfold feed
        rw [toNat_xor, ← steps_xor]
        congr 1
        rw [Nat.xor_assoc, Nat.xor_assoc, ← Nat.xor_assoc y, Nat.xor_comm y, Nat.xor_assoc]
      rw [e]
      exact ih (by simpa using h) _ _

/-- P2.7: the checksums of three strings of one length. -/
theorem sum_linear {a b c : List UInt8} (h : a.length = b.length) (k : a.length = c.length) :
    sum a ^^^ sum b ^^^ sum c = sum (xorL (xorL a b) c) := by
  unfold sum update
  have e : feeds (0 ^^^ ones) (xorL (xorL a b) c) = feeds (0 ^^^ ones) a ^^^ feeds (0 ^^^ ones) b ^^^ feeds (0 ^^^ ones) c := by
    rw [← feeds_xor h, ← feeds_xor (by rw [xorL_length h]; exact k)]
    rfl
  rw [e]
  generalize feeds (0 ^^^ ones) a = p
  generalize feeds (0 ^^^ ones) b = q
  generalize feeds (0 ^^^ ones) c = r
  apply Nat.eq_of_testBit_eq
  intro i
  simp only [Nat.testBit_xor]
  cases p.testBit i <;> cases q.testBit i <;> cases r.testBit i <;> cases ones.testBit i <;> rfl

/-! ### Neighbouring bits -/
/-- The number whose bits are those of the bytes, the lowest bit of a byte first. -/
def le : List UInt8 → Nat
  | [] => 0
  | b :: l => b.toNat + 256 * le l
theorem le_lt (l : List UInt8) : le l < 2 ^ (8 * l.length) := by
  induction l with
  | nil => simp [le]
  | cons b l ih =>
    simp only [le, List.length_cons]
    rw [show 8 * (l.length + 1) = 8 * l.length + 8 by omega, Nat.pow_add]
    have := byte_lt b
    generalize 2 ^ (8 * l.length) = p at *
    omega
theorem xor_low_high (x : Nat) {b : Nat} (hb : b < 256) (y : Nat) : (x ^^^ (b + 256 * y)) = (x ^^^ b) ^^^ (y * 2 ^ 8) := by
  have h : b + 256 * y = b ^^^ (y * 2 ^ 8) := by
    apply Nat.eq_of_testBit_eq
    intro i
    have e := Nat.two_pow_add_eq_or_of_lt (i := 8) (b := b) (by omega) y
    rw [show b + 256 * y = 2 ^ 8 * y + b by omega, e, Nat.testBit_or, Nat.testBit_xor, Nat.mul_comm (2 ^ 8), Nat.testBit_mul_two_pow]
    by_cases hi : i < 8
    · simp [show ¬ 8 ≤ i by omega]
    · have : b.testBit i = false := Nat.testBit_lt_two_pow (Nat.lt_of_lt_of_le hb (by
        have := Nat.pow_le_pow_right (n := 2) (by decide) (show 8 ≤ i by omega)
        omega))
      simp [this]
  rw [h, Nat.xor_assoc]
theorem feeds_le (x : Nat) (l : List UInt8) : feeds x l = steps (8 * l.length) (x ^^^ le l) := by
  induction l generalizing x with
  | nil => simp [feeds, le, steps]
  | cons b l ih =>
    show feeds (feed x b) l = _
    rw [ih, le, xor_low_high x (byte_lt b), List.length_cons, show 8 * (l.length + 1) = 8 + 8 * l.length by omega, steps_add, steps_xor 8, steps_shift]
    rfl
/-- The checksum changes by what the changed bits come to. -/
theorem sum_changes {b c : List UInt8} (h : c.length = b.length) {m k : Nat} (hk : k ≤ 8 * b.length) (hm : m < 4294967296) (e : le c = le b ^^^ m * 2 ^ k) :
    sum b ≠ sum c ↔ m ≠ 0 := by
  have key : sum c = sum b ^^^ steps (8 * b.length - k) m := by
    unfold sum update
    rw [feeds_le, feeds_le, h, e, ← Nat.xor_assoc, steps_xor]
    have : steps (8 * b.length) (m * 2 ^ k) = steps (8 * b.length - k) m := by
      conv => lhs; rw [show 8 * b.length = k + (8 * b.length - k) by omega]
      rw [steps_add, steps_shift]
    rw [this, Nat.xor_assoc, Nat.xor_assoc (steps _ _) ones, Nat.xor_comm ones]
  constructor
  · intro hn hz
    rw [hz, steps_zero, Nat.xor_zero] at key
    exact hn key.symm
  · intro hz hn
    have h0 := steps_ne (8 * b.length - k) hm hz
    apply h0
    rw [← hn] at key
    have := congrArg (sum b ^^^ ·) key
    simp only [← Nat.xor_assoc, Nat.xor_self, Nat.zero_xor] at this
    exact this.symm
/-- One bit of one byte. -/
theorem le_set (l : List UInt8) (i : Nat) (h : i < l.length) (j : Nat) (hj : j < 8) :
    le (l.set i (l.getD i 0 ^^^ UInt8.ofNat (2 ^ j))) = le l ^^^ 2 ^ (8 * i + j) := by
  induction l generalizing i with
  | nil => simp at h
  | cons b l ih =>
    have hb := byte_lt b
    have h2 : 2 ^ j < 256 := Nat.pow_lt_pow_right (by decide) hj
    cases i with
    | zero =>
      simp only [List.set_cons_zero, List.getD_cons_zero, le, Nat.mul_zero, Nat.zero_add]
      rw [toNat_xor, UInt8.toNat_ofNat_of_lt' h2, Nat.xor_comm _ (2 ^ j), Nat.xor_comm _ (2 ^ j), xor_low_high _ hb, Nat.xor_comm (2 ^ j)]
      have hx : b.toNat ^^^ 2 ^ j < 256 := Nat.xor_lt_two_pow (n := 8) hb h2
      have e := xor_low_high 0 hx (le l)
      rw [Nat.zero_xor, Nat.zero_xor] at e
      exact e
    | succ i =>
      simp only [List.set_cons_succ, List.getD_cons_succ, le]
      rw [ih i (by simpa using h)]
      have e1 := xor_low_high 0 hb (le l ^^^ 2 ^ (8 * i + j))
      have e2 := xor_low_high 0 hb (le l)
      rw [Nat.zero_xor, Nat.zero_xor] at e1 e2
      rw [e1, e2, show 8 * (i + 1) + j = (8 * i + j) + 8 by omega, Nat.pow_add 2 (8 * i + j) 8, Nat.xor_assoc]
      generalize 2 ^ (8 * i + j) = p
      congr 1
      apply Nat.eq_of_testBit_eq
      intro t
      simp only [Nat.testBit_xor, Nat.testBit_mul_two_pow]
      by_cases ht : 8 ≤ t <;> simp [ht]
end Go.Proofs.YtbkdjfgkebkknaaGreatDoor.Crc
/- The plain law of frames: stamps, sectors, encodings; numbers and lists alone, no Go in it. -/
namespace Go.Proofs.YtbkdjfgkebkknaaGreatDoor.Frm
set_option linter.unusedVariables false
set_option linter.unusedSimpArgs false
/-- A number is an epoch. -/
abbrev Ep (n : Int) : Prop := 1 ≤ n ∧ n ≤ 1099511627776
/-- A frame is valid: its kind, epoch, transaction, index, number, and how many bytes it has. -/
abbrev Ok (kd ep tx ix no : Int) (n : Nat) : Prop :=
  Ep ep ∧ 1 ≤ tx ∧ tx ≤ 4294967295 ∧ (kd = 1 ∧ 0 ≤ ix ∧ ix ≤ 4095 ∧ 0 ≤ no ∧ no ≤ 4095 ∧ n = 512 ∨ kd = 2 ∧ ix = 0 ∧ 1 ≤ no ∧ no ≤ 4096 ∧ n = 0)
def check (kd ep tx ix no : Int) (n : Nat) : Nat := if Ok kd ep tx ix no n then 0 else 2
def secs (kd : Int) : Nat × Nat := if kd = 1 then (5, 0) else if kd = 2 then (1, 0) else (0, 2)
/-- A sector with a stamp at both ends. -/
def stamp (n : Int) (d : List UInt8) : List UInt8 := Big.be 8 n.toNat ++ d ++ List.replicate (112 - d.length) 0 ++ Big.be 8 n.toNat
def stamped (n : Int) (d : List UInt8) : Nat × List UInt8 := if Ep n ∧ d.length ≤ 112 then (0, stamp n d) else (2, [])
def Torn (b : List UInt8) (n : Int) : Prop := b.length < 128 ∨ b.take 8 ≠ Big.be 8 n.toNat ∨ (b.drop 120).take 8 ≠ Big.be 8 n.toNat
instance (b : List UInt8) (n : Int) : Decidable (Torn b n) := by unfold Torn; infer_instance
def unst (b : List UInt8) (n : Int) : Nat × List UInt8 := if ¬ Ep n then (2, []) else if Torn b n then (13, []) else (0, (b.drop 8).take 112)
theorem stamp_length {n : Int} {d : List UInt8} (h : d.length ≤ 112) : (stamp n d).length = 128 := by
  simp only [stamp, List.length_append, Big.be_length, List.length_replicate]; omega
end Go.Proofs.YtbkdjfgkebkknaaGreatDoor.Frm
/- Drives that are not valid. -/
namespace Go.Proofs.YtbkdjfgkebkknaaGreatDoor
set_option linter.unusedVariables false
set_option linter.unusedSimpArgs false
open Go Go.RowKit
set_option maxRecDepth 100000
set_option maxHeartbeats 8000000
theorem DBad.ptr {w : World} {v : Value} (h : DBad w v) : ∃ q, v = .pointer q := by
  cases h with
  | none => exact ⟨_, rfl⟩
  | zero bd _ => exact ⟨_, rfl⟩
attribute [local irreducible] WL WC WN Yl WH WQ WT WE WU WG WV
theorem dwrite_bad (sec : Int) (a : Option Addr) (n c2 : Nat) (v : Value) (w : World) (h : DBad w v) : Calls Tryz.prog 38 #[v, .int .i64 sec, .slice a n c2] w (Gives (Val (.int .i64 1)) w) := by
  obtain ⟨q, rfl⟩ := h.ptr
  refine enter (args := [.pointer q, _, _]) Tryz.func38 Tryz.ntmps38 rfl rfl ?_
  (repeat (first | refine WC.seq ?_ | refine WC.region ?_))
  refine WL.box rfl rfl fun b3 => ?_
  refine WL.box rfl rfl fun b4 => ?_
  refine WL.box rfl rfl fun b5 => ?_
  rw [show (Value.pointer q).cells = #[.pointer q] from rfl]
  (repeat (first | refine WL.step (Yl.move rfl) rfl ?_ | refine WL.step (Yl.assign rfl) rfl ?_ | (refine WL.k_load ?_; refine WL.step (Yl.loadBlk (T := 26) Tryz.isAgg26 rfl (by repeat (first | exact .head _ | refine .tail _ ?_)) (by rfl)) rfl ?_) | refine WL.callV (g := 87) (v := .int .i64 1) Tryz.call87 rfl (fun w0 st => dcheck_bad _ w0 (h.keep st.kept)) rfl ?_ | refine WL.step (Yl.neq rfl rfl) rfl ?_ | refine WC.seq ?_ | refine WC.region ?_ | refine WL.nil ?_ | refine WN.then_normal ?_))
  skip
  refine WC.cond_true rfl rfl ?_
  (repeat (first | refine WL.step (Yl.move rfl) rfl ?_ | refine WL.step (Yl.assign rfl) rfl ?_ | refine WC.seq ?_ | refine WC.region ?_ | refine WL.nil ?_ | refine WN.then_normal ?_ | refine WC.ret ?_ | refine WN.then_ret ?_))
  exact WN.ret1 rfl rfl ⟨rfl, rfl⟩ .nil
theorem dsync_bad (v : Value) (w : World) (h : DBad w v) : Calls Tryz.prog 39 #[v] w (Gives (Val (.int .i64 1)) w) := by
  refine enter (args := [v]) Tryz.func39 Tryz.ntmps39 rfl rfl ?_
  (repeat (first | refine WL.step (Yl.move rfl) rfl ?_ | refine WL.step (Yl.assign rfl) rfl ?_ | refine WL.callV (g := 87) (v := .int .i64 1) Tryz.call87 rfl (fun w0 st => dcheck_bad _ w0 (h.keep st.kept)) rfl ?_ | (refine WL.k_bin .neq ?_; refine WL.step (Yl.neqT rfl rfl (by decide)) rfl ?_) | refine WC.seq ?_ | refine WC.region ?_ | refine WL.nil ?_ | refine WN.then_normal ?_))
  refine WC.cond_true rfl rfl ?_
  (repeat (first | refine WL.step (Yl.move rfl) rfl ?_ | refine WL.step (Yl.assign rfl) rfl ?_ | refine WC.seq ?_ | refine WC.region ?_ | refine WL.nil ?_ | refine WN.then_normal ?_ | refine WC.ret ?_ | refine WN.then_ret ?_))
  exact WN.ret1 rfl rfl ⟨rfl, rfl⟩ .nil
theorem dread_bad (sec : Int) (v : Value) (w : World) (h : DBad w v) : Calls Tryz.prog 37 #[v, .int .i64 sec] w (Gives (Val (.tuple #[.slice none 0 0, .int .i64 1])) w) := by
  refine enter (args := [v, _]) Tryz.func37 Tryz.ntmps37 rfl rfl ?_
  (repeat (first | refine WL.step (Yl.move rfl) rfl ?_ | refine WL.step (Yl.assign rfl) rfl ?_ | refine WL.callV (g := 87) (v := .int .i64 1) Tryz.call87 rfl (fun w0 st => dcheck_bad _ w0 (h.keep st.kept)) rfl ?_ | (refine WL.k_bin .neq ?_; refine WL.step (Yl.neqT rfl rfl (by decide)) rfl ?_) | refine WC.seq ?_ | refine WC.region ?_ | refine WL.nil ?_ | refine WN.then_normal ?_))
  refine WC.cond_true rfl rfl ?_
  (repeat (first | refine WL.step (Yl.move rfl) rfl ?_ | refine WL.step (Yl.assign rfl) rfl ?_ | refine WC.seq ?_ | refine WC.region ?_ | refine WL.nil ?_ | refine WN.then_normal ?_ | refine WC.ret ?_ | refine WN.then_ret ?_))
  exact WN.ret2 rfl rfl rfl ⟨rfl, rfl⟩ .nil
theorem darm_bad (n : Int) (a : Option Addr) (m c2 : Nat) (v : Value) (w : World) (h : DBad w v) : Calls Tryz.prog 48 #[v, .agg #[.int .i64 n, .slice a m c2]] w (Gives (Val (.int .i64 1)) w) := by
  refine enter (args := [v, .agg #[.int .i64 n, .slice a m c2]]) Tryz.func48 Tryz.ntmps48 rfl rfl ?_
  (repeat (first | refine WC.seq ?_ | refine WC.region ?_))
  refine WL.boxA rfl rfl fun b3 => ?_
  (repeat (first | refine WL.step (Yl.move rfl) rfl ?_ | refine WL.step (Yl.assign rfl) rfl ?_ | refine WL.callV (g := 67) (v := .bool false) Tryz.call67 rfl (fun w0 st => dmade_bad _ w0 (h.keep st.kept)) rfl ?_ | refine WL.step (Yl.not rfl) rfl ?_ | refine WC.seq ?_ | refine WC.region ?_ | refine WL.nil ?_ | refine WN.then_normal ?_))
  refine WC.cond_true rfl rfl ?_
  (repeat (first | refine WL.step (Yl.assign rfl) rfl ?_ | refine WC.seq ?_ | refine WC.region ?_ | refine WL.nil ?_ | refine WN.then_normal ?_ | refine WC.ret ?_ | refine WN.then_ret ?_))
  exact WN.ret1 rfl rfl ⟨rfl, rfl⟩ .nil
theorem drestart_bad (v : Value) (w : World) (h : DBad w v) : Calls Tryz.prog 29 #[v] w (Gives (Val (.int .i64 1)) w) := by
  refine enter (args := [v]) Tryz.func29 Tryz.ntmps29 rfl rfl ?_
  (repeat (first | refine WL.step (Yl.move rfl) rfl ?_ | refine WL.step (Yl.assign rfl) rfl ?_ | refine WL.callV (g := 67) (v := .bool false) Tryz.call67 rfl (fun w0 st => dmade_bad _ w0 (h.keep st.kept)) rfl ?_ | refine WL.step (Yl.not rfl) rfl ?_ | refine WC.seq ?_ | refine WC.region ?_ | refine WL.nil ?_ | refine WN.then_normal ?_))
  refine WC.cond_true rfl rfl ?_
  (repeat (first | refine WL.step (Yl.assign rfl) rfl ?_ | refine WC.seq ?_ | refine WC.region ?_ | refine WL.nil ?_ | refine WN.then_normal ?_ | refine WC.ret ?_ | refine WN.then_ret ?_))
  exact WN.ret1 rfl rfl ⟨rfl, rfl⟩ .nil
theorem dcopy_bad (v : Value) (w : World) (h : DBad w v) : Calls Tryz.prog 19 #[v] w (Gives (Val (.pointer none)) w) := by
  refine enter (args := [v]) Tryz.func19 Tryz.ntmps19 rfl rfl ?_
  (repeat (first | refine WL.step (Yl.move rfl) rfl ?_ | refine WL.step (Yl.assign rfl) rfl ?_ | refine WL.callV (g := 67) (v := .bool false) Tryz.call67 rfl (fun w0 st => dmade_bad _ w0 (h.keep st.kept)) rfl ?_ | refine WL.step (Yl.not rfl) rfl ?_ | refine WC.seq ?_ | refine WC.region ?_ | refine WL.nil ?_ | refine WN.then_normal ?_))
  refine WC.cond_true rfl rfl ?_
  (repeat (first | refine WL.step (Yl.assign rfl) rfl ?_ | refine WC.seq ?_ | refine WC.region ?_ | refine WL.nil ?_ | refine WN.then_normal ?_ | refine WC.ret ?_ | refine WN.then_ret ?_))
  exact WN.ret1 rfl rfl ⟨rfl, rfl⟩ .nil
end Go.Proofs.YtbkdjfgkebkknaaGreatDoor
/- The journal: what is known of it; New, and what is only read. -/
namespace Go.Proofs.YtbkdjfgkebkknaaGreatDoor
set_option linter.unusedVariables false
set_option linter.unusedSimpArgs false
open Go Go.RowKit
set_option maxRecDepth 100000
set_option maxHeartbeats 8000000
/-- A place of a page: its sector, its transaction, its index. -/
structure Pc where
  at_ : Nat
  tx : Nat
  ix : Nat
def encP (x : Pc) : Value := .agg #[.int .i64 (x.at_ : Int), .int .i64 (x.tx : Int), .int .i64 (x.ix : Int)]
structure JV where
  first : Nat
  n : Nat
  ep : Int
  used : Nat
  tx : Nat
  F : Nat → Option Pc
structure JP where
  bj : Nat
  bm : Nat
structure JS where
  v : JV
  M : List (Nat × Pc × Nat)
  c : Nat
def jO (bd : Nat) (p : JP) (v : JV) : Obj := .cells #[bptr bd, .int .i64 (v.first : Int), .int .i64 (v.n : Int), .int .i64 v.ep, .int .i64 (v.used : Int), .int .i64 (v.tx : Int), .map (some p.bm)] 79 (0, 0)
def jI (bd : Nat) (p : JP) (s : JS) : List HA := [.blk p.bj (jO bd p s.v), .blk p.bm (mobj encP s.M s.c)]
structure JS.Ok (s : JS) : Prop where
  m : MapIs 4096 s.v.F s.M s.c
  ep : Frm.Ep s.v.ep
  row : s.v.first + s.v.n ≤ 4096
  n1 : 1 ≤ s.v.n
  used : s.v.used ≤ s.v.n
  tx : s.v.tx ≤ s.v.used
structure JAt (w : World) (bd : Nat) (p : JP) (s : JS) : Prop where
  ok : s.Ok
  blk : w.heap[p.bj]? = some (jO bd p s.v)
  map : w.heap[p.bm]? = some (mobj encP s.M s.c)
theorem JAt.keep {w w' : World} {bd : Nat} {p : JP} {s : JS} (h : JAt w bd p s) (k : Kept w [] w') : JAt w' bd p s :=
  ⟨h.ok, (k.block p.bj (lt_of_heap h.blk) (by simp)).trans h.blk, (k.block p.bm (lt_of_heap h.map) (by simp)).trans h.map⟩
theorem JS.Ok.at_ {s : JS} {bd : Nat} {p : JP} (h : s.Ok) {w0 w : World} {S : List Nat} {A : List HA} (st : St w0 S A w) (hi : ∀ x ∈ jI bd p s, x ∈ A) : JAt w bd p s :=
  ⟨h, st.holds _ (hi _ (.head _)), st.holds _ (hi _ (.tail _ (.head _)))⟩
def zeroJ : Obj := .cells #[.pointer none, .int .i64 0, .int .i64 0, .int .i64 0, .int .i64 0, .int .i64 0, .map none] 79 (0, 0)
/-- No journal, or one that was not made by New. -/
inductive JBad (w : World) : Value → Prop
  | none : JBad w (.pointer none)
  | zero (b : Nat) : w.heap[b]? = some zeroJ → JBad w (bptr b)
theorem JBad.keep {w w' : World} {v : Value} (h : JBad w v) (k : Kept w [] w') : JBad w' v := by
  cases h with
  | none => exact .none
  | zero b hb => exact .zero b ((k.block b (lt_of_heap hb) (by simp)).trans hb)
theorem JBad.ptr {w : World} {v : Value} (h : JBad w v) : ∃ q, v = .pointer q := by
  cases h with
  | none => exact ⟨_, rfl⟩
  | zero b hb => exact ⟨_, rfl⟩
/-- What New says of numbers, on a drive of so many sectors. -/
def newE (len : Nat) (first n ep : Int) : Nat := if len = 0 then 1 else if ep < 1 ∨ 1099511627776 < ep then 2 else if first < 0 ∨ n < 1 ∨ (len : Int) < first ∨ len - first < n then 3 else 0
def JNewV (bd : Nat) (v : JV) : Value → List HA → Prop := fun u B => ∃ p s, JS.Ok s ∧ s.v = v ∧ u = .tuple #[bptr p.bj, .int .i64 0] ∧ B = jI bd p s
theorem buildJ (d : Option Addr) (a b e : Int) (m : Option Nat) (w : World) : (Instr.build 79 [(0, .pointer d), (1, .int .i64 a), (2, .int .i64 b), (3, .int .i64 e), (6, .map m)].toArray).run Tryz.prog w = .ok (.agg #[.pointer d, .int .i64 a, .int .i64 b, .int .i64 e, .int .i64 0, .int .i64 0, .map m]) w := by
  simp [Instr.build, Tryz.zeroValue79, run_underlying Tryz.underlying79, Tryz.sizeOf3, Tryz.sizeOf2, Tryz.sizeOf26, Tryz.sizeOf77, Value.cells, Instr.fill]
attribute [local irreducible] WL WC WN Yl WH WQ WT WE WU WG WV
section
variable {bd : Nat} {p : JP} {s : JS}
theorem jvalid_c (w : World) (h : JAt w bd p s) : Calls Tryz.prog 60 #[bptr p.bj] w (Gives (Val (.bool true)) w) := by
  refine enter (args := [.pointer (some ⟨p.bj, 0, none⟩)]) Tryz.func60 Tryz.ntmps60 rfl rfl ?_
  (repeat (first | refine WL.want rfl rfl rfl ?_ | refine WL.step (Yl.move rfl) rfl ?_ | refine WL.step (Yl.assign rfl) rfl ?_ | refine WL.step (Yl.loadH Tryz.isAgg26 rfl (Has.old h.blk) rfl) rfl ?_ | (refine WL.k_fld ?_; refine WL.step (Yl.fldN0 (i := 0) (o := 0) (by kernel_rfl) rfl) rfl ?_) | refine WL.step (Yl.pick_t rfl rfl rfl) rfl ?_ | (refine WL.k_bin .neq ?_; refine WL.step (Yl.neqPN (by kernel_rfl) rfl) rfl ?_) | refine WL.step (Yl.nilCheck rfl) rfl ?_ | refine WC.seq ?_ | refine WC.region ?_ | refine WL.nil ?_ | refine WN.then_normal ?_ | refine WC.ret ?_))
  exact WN.ret1 rfl rfl ⟨rfl, rfl⟩ .nil
theorem jvalid_bad (v : Value) (w : World) (h : JBad w v) : Calls Tryz.prog 60 #[v] w (Gives (Val (.bool false)) w) := by
  cases h with
  | none =>
    refine enter (args := [.pointer none]) Tryz.func60 Tryz.ntmps60 rfl rfl ?_
    (repeat (first | refine WL.pass rfl rfl rfl rfl ?_ | refine WL.step (Yl.move rfl) rfl ?_ | refine WL.step (Yl.assign rfl) rfl ?_ | refine WL.step (Yl.pick_f rfl rfl rfl) rfl ?_ | (refine WL.k_bin .neq ?_; refine WL.step (Yl.neqPN (by kernel_rfl) rfl) rfl ?_) | refine WC.seq ?_ | refine WC.region ?_ | refine WL.nil ?_ | refine WN.then_normal ?_ | refine WC.ret ?_))
    exact WN.ret1 rfl rfl ⟨rfl, rfl⟩ .nil
  | zero b hb =>
    refine enter (args := [.pointer (some ⟨b, 0, none⟩)]) Tryz.func60 Tryz.ntmps60 rfl rfl ?_
    (repeat (first | refine WL.want rfl rfl rfl ?_ | refine WL.step (Yl.move rfl) rfl ?_ | refine WL.step (Yl.assign rfl) rfl ?_ | (refine WL.k_load ?_; refine WL.step (Yl.loadH Tryz.isAgg26 rfl (Has.old hb) (by rfl)) rfl ?_) | (refine WL.k_fld ?_; refine WL.step (Yl.fldN0 (i := 0) (o := 0) (by kernel_rfl) rfl) rfl ?_) | refine WL.step (Yl.pick_t rfl rfl rfl) rfl ?_ | (refine WL.k_bin .neq ?_; refine WL.step (Yl.neqPN (by kernel_rfl) rfl) rfl ?_) | refine WL.step (Yl.nilCheck rfl) rfl ?_ | refine WC.seq ?_ | refine WC.region ?_ | refine WL.nil ?_ | refine WN.then_normal ?_ | refine WC.ret ?_))
    exact WN.ret1 rfl rfl ⟨rfl, rfl⟩ .nil
theorem jtx_c (w : World) (h : JAt w bd p s) : Calls Tryz.prog 35 #[bptr p.bj] w (Gives (Val (.int .i64 ((s.v.tx : Int)))) w) := by
  refine enter (args := [.pointer (some ⟨p.bj, 0, none⟩)]) Tryz.func35 Tryz.ntmps35 rfl rfl ?_
  (repeat (first | refine WL.step (Yl.move rfl) rfl ?_ | refine WL.step (Yl.assign rfl) rfl ?_ | refine WL.callV (g := 60) (v := .bool true) Tryz.call60 rfl (fun w0 st => jvalid_c w0 (h.keep st.kept)) rfl ?_ | refine WL.step (Yl.not rfl) rfl ?_ | refine WC.seq ?_ | refine WC.region ?_ | refine WL.nil ?_ | refine WN.then_normal ?_))
  refine WC.cond_false rfl rfl ?_
  (repeat (first | refine WL.step (Yl.move rfl) rfl ?_ | refine WL.step (Yl.assign rfl) rfl ?_ | refine WL.step (Yl.loadH Tryz.isAgg26 rfl (Has.old h.blk) rfl) rfl ?_ | (refine WL.k_fld ?_; refine WL.step (Yl.fldN0 (i := 5) (o := 5) (by kernel_rfl) rfl) rfl ?_) | refine WL.step (Yl.nilCheck rfl) rfl ?_ | refine WC.seq ?_ | refine WC.region ?_ | refine WL.nil ?_ | refine WN.then_normal ?_ | refine WC.skip ?_ | refine WC.ret ?_))
  exact WN.ret1 rfl rfl ⟨rfl, rfl⟩ .nil
theorem jtx_bad (v : Value) (w : World) (h : JBad w v) : Calls Tryz.prog 35 #[v] w (Gives (Val (.int .i64 0)) w) := by
  obtain ⟨pv, rfl⟩ := h.ptr
  refine enter (args := [.pointer pv]) Tryz.func35 Tryz.ntmps35 rfl rfl ?_
  (repeat (first | refine WL.step (Yl.move rfl) rfl ?_ | refine WL.step (Yl.assign rfl) rfl ?_ | refine WL.callV (g := 60) (v := .bool false) Tryz.call60 rfl (fun w0 st => jvalid_bad _ w0 (h.keep st.kept)) rfl ?_ | refine WL.step (Yl.not rfl) rfl ?_ | refine WC.seq ?_ | refine WC.region ?_ | refine WL.nil ?_ | refine WN.then_normal ?_))
  refine WC.cond_true rfl rfl ?_
  (repeat (first | refine WL.step (Yl.assign rfl) rfl ?_ | refine WC.seq ?_ | refine WC.region ?_ | refine WL.nil ?_ | refine WN.then_normal ?_ | refine WC.ret ?_ | refine WN.then_ret ?_))
  exact WN.ret1 rfl rfl ⟨rfl, rfl⟩ .nil
theorem jused_c (w : World) (h : JAt w bd p s) : Calls Tryz.prog 36 #[bptr p.bj] w (Gives (Val (.int .i64 ((s.v.used : Int)))) w) := by
  refine enter (args := [.pointer (some ⟨p.bj, 0, none⟩)]) Tryz.func36 Tryz.ntmps36 rfl rfl ?_
  (repeat (first | refine WL.step (Yl.move rfl) rfl ?_ | refine WL.step (Yl.assign rfl) rfl ?_ | refine WL.callV (g := 60) (v := .bool true) Tryz.call60 rfl (fun w0 st => jvalid_c w0 (h.keep st.kept)) rfl ?_ | refine WL.step (Yl.not rfl) rfl ?_ | refine WC.seq ?_ | refine WC.region ?_ | refine WL.nil ?_ | refine WN.then_normal ?_))
  refine WC.cond_false rfl rfl ?_
  (repeat (first | refine WL.step (Yl.move rfl) rfl ?_ | refine WL.step (Yl.assign rfl) rfl ?_ | refine WL.step (Yl.loadH Tryz.isAgg26 rfl (Has.old h.blk) rfl) rfl ?_ | (refine WL.k_fld ?_; refine WL.step (Yl.fldN0 (i := 4) (o := 4) (by kernel_rfl) rfl) rfl ?_) | refine WL.step (Yl.nilCheck rfl) rfl ?_ | refine WC.seq ?_ | refine WC.region ?_ | refine WL.nil ?_ | refine WN.then_normal ?_ | refine WC.skip ?_ | refine WC.ret ?_))
  exact WN.ret1 rfl rfl ⟨rfl, rfl⟩ .nil
theorem jused_bad (v : Value) (w : World) (h : JBad w v) : Calls Tryz.prog 36 #[v] w (Gives (Val (.int .i64 0)) w) := by
  obtain ⟨pv, rfl⟩ := h.ptr
  refine enter (args := [.pointer pv]) Tryz.func36 Tryz.ntmps36 rfl rfl ?_
  (repeat (first | refine WL.step (Yl.move rfl) rfl ?_ | refine WL.step (Yl.assign rfl) rfl ?_ | refine WL.callV (g := 60) (v := .bool false) Tryz.call60 rfl (fun w0 st => jvalid_bad _ w0 (h.keep st.kept)) rfl ?_ | refine WL.step (Yl.not rfl) rfl ?_ | refine WC.seq ?_ | refine WC.region ?_ | refine WL.nil ?_ | refine WN.then_normal ?_))
  refine WC.cond_true rfl rfl ?_
  (repeat (first | refine WL.step (Yl.assign rfl) rfl ?_ | refine WC.seq ?_ | refine WC.region ?_ | refine WL.nil ?_ | refine WN.then_normal ?_ | refine WC.ret ?_ | refine WN.then_ret ?_))
  exact WN.ret1 rfl rfl ⟨rfl, rfl⟩ .nil
theorem jep_c (w : World) (h : JAt w bd p s) : Calls Tryz.prog 22 #[bptr p.bj] w (Gives (Val (.int .i64 (s.v.ep))) w) := by
  refine enter (args := [.pointer (some ⟨p.bj, 0, none⟩)]) Tryz.func22 Tryz.ntmps22 rfl rfl ?_
  (repeat (first | refine WL.step (Yl.move rfl) rfl ?_ | refine WL.step (Yl.assign rfl) rfl ?_ | refine WL.callV (g := 60) (v := .bool true) Tryz.call60 rfl (fun w0 st => jvalid_c w0 (h.keep st.kept)) rfl ?_ | refine WL.step (Yl.not rfl) rfl ?_ | refine WC.seq ?_ | refine WC.region ?_ | refine WL.nil ?_ | refine WN.then_normal ?_))
  refine WC.cond_false rfl rfl ?_
  (repeat (first | refine WL.step (Yl.move rfl) rfl ?_ | refine WL.step (Yl.assign rfl) rfl ?_ | refine WL.step (Yl.loadH Tryz.isAgg26 rfl (Has.old h.blk) rfl) rfl ?_ | (refine WL.k_fld ?_; refine WL.step (Yl.fldN0 (i := 3) (o := 3) (by kernel_rfl) rfl) rfl ?_) | refine WL.step (Yl.nilCheck rfl) rfl ?_ | refine WC.seq ?_ | refine WC.region ?_ | refine WL.nil ?_ | refine WN.then_normal ?_ | refine WC.skip ?_ | refine WC.ret ?_))
  exact WN.ret1 rfl rfl ⟨rfl, rfl⟩ .nil
theorem jep_bad (v : Value) (w : World) (h : JBad w v) : Calls Tryz.prog 22 #[v] w (Gives (Val (.int .i64 0)) w) := by
  obtain ⟨pv, rfl⟩ := h.ptr
  refine enter (args := [.pointer pv]) Tryz.func22 Tryz.ntmps22 rfl rfl ?_
  (repeat (first | refine WL.step (Yl.move rfl) rfl ?_ | refine WL.step (Yl.assign rfl) rfl ?_ | refine WL.callV (g := 60) (v := .bool false) Tryz.call60 rfl (fun w0 st => jvalid_bad _ w0 (h.keep st.kept)) rfl ?_ | refine WL.step (Yl.not rfl) rfl ?_ | refine WC.seq ?_ | refine WC.region ?_ | refine WL.nil ?_ | refine WN.then_normal ?_))
  refine WC.cond_true rfl rfl ?_
  (repeat (first | refine WL.step (Yl.assign rfl) rfl ?_ | refine WC.seq ?_ | refine WC.region ?_ | refine WL.nil ?_ | refine WN.then_normal ?_ | refine WC.ret ?_ | refine WN.then_ret ?_))
  exact WN.ret1 rfl rfl ⟨rfl, rfl⟩ .nil
end
section
variable {dp : DP} {ds : DS}
theorem jnew_bad (v : Value) (first n ep : Int) (w : World) (h : DBad w v) : Calls Tryz.prog 12 #[v, .int .i64 first, .int .i64 n, .int .i64 ep] w (Gives (Val (.tuple #[.pointer none, .int .i64 1])) w) := by
  obtain ⟨pv, rfl⟩ : ∃ q, v = .pointer q := by cases h <;> exact ⟨_, rfl⟩
  refine enter (args := [.pointer pv, _, _, _]) Tryz.func12 Tryz.ntmps12 rfl rfl ?_
  (repeat (first | refine WL.step (Yl.move rfl) rfl ?_ | refine WL.step (Yl.assign rfl) rfl ?_ | refine WL.callV (g := 56) Tryz.call56 rfl (fun w0 st => dlen_bad _ w0 (h.keep st.kept)) rfl ?_ | refine WL.step (Yl.eqlT rfl rfl rfl) rfl ?_ | refine WC.seq ?_ | refine WC.region ?_ | refine WL.nil ?_ | refine WN.then_normal ?_ | refine WC.block ?_))
  refine WC.cond_true rfl rfl ?_
  (repeat (first | refine WL.step (Yl.assign rfl) rfl ?_ | refine WC.seq ?_ | refine WC.region ?_ | refine WL.nil ?_ | refine WN.then_normal ?_ | refine WC.ret ?_ | refine WN.then_ret ?_ | refine WN.block_ret ?_))
  exact WN.ret2 rfl rfl rfl ⟨rfl, rfl⟩ .nil
theorem jnew_e (first n ep : Int) (w : World) (hd : DrAt w dp ds) (hl : ds.d.length ≤ 4096) (he : newE ds.d.length first n ep ≠ 0) : Calls Tryz.prog 12 #[bptr dp.bd, .int .i64 first, .int .i64 n, .int .i64 ep] w (Gives (Val (.tuple #[.pointer none, .int .i64 (newE ds.d.length first n ep : Int)])) w) := by
  have hpos := hd.bank.wf.pos
  unfold newE at he ⊢
  rw [if_neg (by omega)] at he ⊢
  by_cases h2 : ep < 1 ∨ 1099511627776 < ep
  · rw [if_pos h2] at he ⊢
    refine enter (args := [.pointer (some ⟨dp.bd, 0, none⟩), _, _, _]) Tryz.func12 Tryz.ntmps12 rfl rfl ?_
    (repeat (first | refine WL.step (Yl.move rfl) rfl ?_ | refine WL.step (Yl.assign rfl) rfl ?_ | refine WL.callV (g := 56) Tryz.call56 rfl (fun w0 st => dlen_c w0 (hd.keep st.kept)) rfl ?_ | (refine WL.k_bin .eql ?_; refine WL.step (Yl.eqlF rfl rfl (by omega)) rfl ?_) | refine WC.seq ?_ | refine WC.region ?_ | refine WL.nil ?_ | refine WN.then_normal ?_ | refine WC.block ?_))
    by_cases h3 : ep < 1
    · refine WC.cond_false rfl rfl ?_
      (repeat (first | refine WL.pass rfl rfl rfl rfl ?_ | refine WL.step (Yl.move rfl) rfl ?_ | refine WL.step (Yl.assign rfl) rfl ?_ | refine WL.step (Yl.pick_t rfl rfl rfl) rfl ?_ | (refine WL.k_bin .lss ?_; refine WL.step (Yl.lssT rfl rfl (by omega)) rfl ?_) | refine WC.seq ?_ | refine WC.region ?_ | refine WL.nil ?_ | refine WN.then_normal ?_))
      refine WC.cond_true rfl rfl ?_
      (repeat (first | refine WL.step (Yl.assign rfl) rfl ?_ | refine WC.seq ?_ | refine WC.region ?_ | refine WL.nil ?_ | refine WN.then_normal ?_ | refine WC.ret ?_ | refine WN.then_ret ?_ | refine WN.block_ret ?_))
      exact WN.ret2 rfl rfl rfl ⟨rfl, rfl⟩ .nil
    · refine WC.cond_false rfl rfl ?_
      (repeat (first | refine WL.want rfl rfl rfl ?_ | refine WL.step (Yl.move rfl) rfl ?_ | refine WL.step (Yl.assign rfl) rfl ?_ | refine WL.step (Yl.pick_f rfl rfl rfl) rfl ?_ | (refine WL.k_bin .lss ?_; refine WL.step (Yl.lssF rfl rfl (by omega)) rfl ?_) | (refine WL.k_bin .gtr ?_; refine WL.step (Yl.gtrT rfl rfl (by omega)) rfl ?_) | refine WC.seq ?_ | refine WC.region ?_ | refine WL.nil ?_ | refine WN.then_normal ?_))
      refine WC.cond_true rfl rfl ?_
      (repeat (first | refine WL.step (Yl.assign rfl) rfl ?_ | refine WC.seq ?_ | refine WC.region ?_ | refine WL.nil ?_ | refine WN.then_normal ?_ | refine WC.ret ?_ | refine WN.then_ret ?_ | refine WN.block_ret ?_))
      exact WN.ret2 rfl rfl rfl ⟨rfl, rfl⟩ .nil
  rw [if_neg h2] at he ⊢
  have h3 : first < 0 ∨ n < 1 ∨ (ds.d.length : Int) < first ∨ ds.d.length - first < n := by
    by_cases h : first < 0 ∨ n < 1 ∨ (ds.d.length : Int) < first ∨ ds.d.length - first < n
    · exact h
    · rw [if_neg h] at he; exact absurd rfl he
  rw [if_pos h3]
  refine enter (args := [.pointer (some ⟨dp.bd, 0, none⟩), _, _, _]) Tryz.func12 Tryz.ntmps12 rfl rfl ?_
  (repeat (first | refine WL.step (Yl.move rfl) rfl ?_ | refine WL.step (Yl.assign rfl) rfl ?_ | refine WL.callV (g := 56) Tryz.call56 rfl (fun w0 st => dlen_c w0 (hd.keep st.kept)) rfl ?_ | (refine WL.k_bin .eql ?_; refine WL.step (Yl.eqlF rfl rfl (by omega)) rfl ?_) | refine WC.seq ?_ | refine WC.region ?_ | refine WL.nil ?_ | refine WN.then_normal ?_ | refine WC.block ?_))
  refine WC.cond_false rfl rfl ?_
  (repeat (first | refine WL.want rfl rfl rfl ?_ | refine WL.step (Yl.move rfl) rfl ?_ | refine WL.step (Yl.assign rfl) rfl ?_ | refine WL.step (Yl.pick_f rfl rfl rfl) rfl ?_ | (refine WL.k_bin .lss ?_; refine WL.step (Yl.lssF rfl rfl (by omega)) rfl ?_) | (refine WL.k_bin .gtr ?_; refine WL.step (Yl.gtrF rfl rfl (by omega)) rfl ?_) | refine WC.seq ?_ | refine WC.region ?_ | refine WL.nil ?_ | refine WN.then_normal ?_))
  refine WC.cond_false rfl rfl ?_
  by_cases k1 : first < 0
  · (repeat (first | refine WL.pass rfl rfl rfl rfl ?_ | refine WL.step (Yl.move rfl) rfl ?_ | refine WL.step (Yl.assign rfl) rfl ?_ | refine WL.step (Yl.pick_t rfl rfl rfl) rfl ?_ | (refine WL.k_bin .lss ?_; refine WL.step (Yl.lssT (m := first) (n := 0) rfl rfl (by omega)) rfl ?_) | refine WC.seq ?_ | refine WC.region ?_ | refine WL.nil ?_ | refine WN.then_normal ?_))
    refine WC.cond_true rfl rfl ?_
    (repeat (first | refine WL.step (Yl.assign rfl) rfl ?_ | refine WC.seq ?_ | refine WC.region ?_ | refine WL.nil ?_ | refine WN.then_normal ?_ | refine WC.ret ?_ | refine WN.then_ret ?_ | refine WN.block_ret ?_))
    exact WN.ret2 rfl rfl rfl ⟨rfl, rfl⟩ .nil
  by_cases k2 : n < 1
  · (repeat (first | (refine WL.kG ?_; first | refine WL.want rfl rfl rfl ?_ | refine WL.pass rfl rfl rfl rfl ?_) | refine WL.step (Yl.move rfl) rfl ?_ | refine WL.step (Yl.assign rfl) rfl ?_ | (refine WL.k_pick ?_; first | refine WL.step (Yl.pick_t rfl rfl rfl) rfl ?_ | refine WL.step (Yl.pick_f rfl rfl rfl) rfl ?_) | (refine WL.k_bin .lss ?_; first | refine WL.step (Yl.lssF (m := first) (n := 0) rfl rfl (by omega)) rfl ?_ | refine WL.step (Yl.lssT (m := n) (n := 1) rfl rfl (by omega)) rfl ?_) | refine WC.seq ?_ | refine WC.region ?_ | refine WL.nil ?_ | refine WN.then_normal ?_))
    refine WC.cond_true rfl rfl ?_
    (repeat (first | refine WL.step (Yl.assign rfl) rfl ?_ | refine WC.seq ?_ | refine WC.region ?_ | refine WL.nil ?_ | refine WN.then_normal ?_ | refine WC.ret ?_ | refine WN.then_ret ?_ | refine WN.block_ret ?_))
    exact WN.ret2 rfl rfl rfl ⟨rfl, rfl⟩ .nil
  by_cases k3 : (ds.d.length : Int) < first
  · (repeat (first | (refine WL.kG ?_; first | refine WL.want rfl rfl rfl ?_ | refine WL.pass rfl rfl rfl rfl ?_) | refine WL.step (Yl.move rfl) rfl ?_ | refine WL.step (Yl.assign rfl) rfl ?_ | (refine WL.k_pick ?_; first | refine WL.step (Yl.pick_t rfl rfl rfl) rfl ?_ | refine WL.step (Yl.pick_f rfl rfl rfl) rfl ?_) | (refine WL.k_bin .lss ?_; refine WL.step (Yl.lssF rfl rfl (by omega)) rfl ?_) | (refine WL.k_bin .gtr ?_; refine WL.step (Yl.gtrT rfl rfl (by omega)) rfl ?_) | refine WC.seq ?_ | refine WC.region ?_ | refine WL.nil ?_ | refine WN.then_normal ?_))
    refine WC.cond_true rfl rfl ?_
    (repeat (first | refine WL.step (Yl.assign rfl) rfl ?_ | refine WC.seq ?_ | refine WC.region ?_ | refine WL.nil ?_ | refine WN.then_normal ?_ | refine WC.ret ?_ | refine WN.then_ret ?_ | refine WN.block_ret ?_))
    exact WN.ret2 rfl rfl rfl ⟨rfl, rfl⟩ .nil
  · (repeat (first | refine WL.want rfl rfl rfl ?_ | refine WL.step (Yl.move rfl) rfl ?_ | refine WL.step (Yl.assign rfl) rfl ?_ | refine WL.step (Yl.pick_f rfl rfl rfl) rfl ?_ | (refine WL.k_bin .lss ?_; refine WL.step (Yl.lssF rfl rfl (by omega)) rfl ?_) | (refine WL.k_bin .gtr ?_; first | refine WL.step (Yl.gtrF (m := first) (n := (ds.d.length : Int)) rfl rfl (by omega)) rfl ?_ | refine WL.step (Yl.gtrT rfl rfl (by omega)) rfl ?_) | (refine WL.k_bin .sub ?_; refine WL.step (Yl.sub64 rfl rfl (by omega)) rfl ?_) | refine WC.seq ?_ | refine WC.region ?_ | refine WL.nil ?_ | refine WN.then_normal ?_))
    refine WC.cond_true rfl rfl ?_
    (repeat (first | refine WL.step (Yl.assign rfl) rfl ?_ | refine WC.seq ?_ | refine WC.region ?_ | refine WL.nil ?_ | refine WN.then_normal ?_ | refine WC.ret ?_ | refine WN.then_ret ?_ | refine WN.block_ret ?_))
    exact WN.ret2 rfl rfl rfl ⟨rfl, rfl⟩ .nil
theorem jnew_c (first n : Nat) (ep : Int) (w : World) (hd : DrAt w dp ds) (hl : ds.d.length ≤ 4096) (he : Frm.Ep ep) (hn : 1 ≤ n) (hr : first + n ≤ ds.d.length) : Calls Tryz.prog 12 #[bptr dp.bd, .int .i64 (first : Int), .int .i64 (n : Int), .int .i64 ep] w (Gives (JNewV dp.bd ⟨first, n, ep, 0, 0, fun _ => none⟩) w) := by
  have hep : 1 ≤ ep ∧ ep ≤ 1099511627776 := he
  refine enter (args := [.pointer (some ⟨dp.bd, 0, none⟩), _, _, _]) Tryz.func12 Tryz.ntmps12 rfl rfl ?_
  (repeat (first | refine WL.step (Yl.move rfl) rfl ?_ | refine WL.step (Yl.assign rfl) rfl ?_ | refine WL.callV (g := 56) Tryz.call56 rfl (fun w0 st => dlen_c w0 (hd.keep st.kept)) rfl ?_ | (refine WL.k_bin .eql ?_; refine WL.step (Yl.eqlF rfl rfl (by omega)) rfl ?_) | refine WC.seq ?_ | refine WC.region ?_ | refine WL.nil ?_ | refine WN.then_normal ?_ | refine WC.block ?_))
  refine WC.cond_false rfl rfl ?_
  (repeat (first | refine WL.want rfl rfl rfl ?_ | refine WL.step (Yl.move rfl) rfl ?_ | refine WL.step (Yl.assign rfl) rfl ?_ | refine WL.step (Yl.pick_f rfl rfl rfl) rfl ?_ | (refine WL.k_bin .lss ?_; refine WL.step (Yl.lssF rfl rfl (by omega)) rfl ?_) | (refine WL.k_bin .gtr ?_; refine WL.step (Yl.gtrF rfl rfl (by omega)) rfl ?_) | refine WC.seq ?_ | refine WC.region ?_ | refine WL.nil ?_ | refine WN.then_normal ?_))
  refine WC.cond_false rfl rfl ?_
  (repeat (first | refine WL.want rfl rfl rfl ?_ | refine WL.step (Yl.move rfl) rfl ?_ | refine WL.step (Yl.assign rfl) rfl ?_ | refine WL.step (Yl.pick_f rfl rfl rfl) rfl ?_ | (refine WL.k_bin .lss ?_; refine WL.step (Yl.lssF rfl rfl (by omega)) rfl ?_) | (refine WL.k_bin .gtr ?_; refine WL.step (Yl.gtrF rfl rfl (by omega)) rfl ?_) | (refine WL.k_bin .sub ?_; refine WL.step (Yl.sub64 rfl rfl (by omega)) rfl ?_) | refine WC.seq ?_ | refine WC.region ?_ | refine WL.nil ?_ | refine WN.then_normal ?_))
  refine WC.cond_false rfl rfl ?_
  (repeat (first | refine WL.step (Yl.move rfl) rfl ?_ | refine WC.seq ?_ | refine WC.region ?_ | refine WN.then_normal ?_ | refine WC.skip ?_ | refine WN.block_normal ?_))
  refine WL.makeMap (enc := encP) rfl fun bm => ?_
  (repeat (first | refine WL.step (Yl.build (ps := [(0, .tmp 42), (1, .tmp 43), (2, .tmp 44), (3, .tmp 45), (6, .tmp 46)]) (vs := [(0, bptr dp.bd), (1, .int .i64 (first : Int)), (2, .int .i64 (n : Int)), (3, .int .i64 ep), (6, .map (some bm))]) rfl (buildJ _ _ _ _ _)) rfl ?_))
  refine WL.boxA rfl rfl fun bj => ?_
  (repeat (first | refine WL.step (Yl.assign rfl) rfl ?_ | refine WL.nil ?_ | refine WN.then_normal ?_ | refine WC.ret ?_))
  exact WN.ret2 rfl rfl rfl ⟨⟨bj, bm⟩, ⟨⟨first, n, ep, 0, 0, fun _ => none⟩, [], 0⟩, ⟨MapIs.empty _, he, by simp only; omega, hn, Nat.zero_le _, Nat.le_refl _⟩, rfl, rfl, rfl⟩ (Part.refl _)
end
end Go.Proofs.YtbkdjfgkebkknaaGreatDoor
