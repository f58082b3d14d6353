import Derived.Test.YtbkdjfgkebkknaaGreatDoorRowJournalRowsMg9
import Derived.Test.YtbkdjfgkebkknaaGreatDoorRowJournalRowsMg7
import Derived.KernelRfl
import Derived.Test.YtbkdjfgkebkknaaGreatDoorRowJournalRowsMg8
import Derived.Test.YtbkdjfgkebkknaaGreatDoorRowJournalRowsMg6
namespace Go.Proofs.YtbkdjfgkebkknaaGreatDoor
set_option linter.unusedVariables false
set_option linter.unusedSimpArgs false
open Go Go.RowKit
set_option maxRecDepth 100000
set_option maxHeartbeats 8000000
section
variable {X : Cx} {ops : Array Oper} {Q : Exit → Act → World → Prop} {ρ : Env} {A B : List HA} {rest : List Oper} {d : Tmp} {op : Op} {ty : TypeId} {ps : String} {af : Array Edge} {v : Value}
theorem WL.mid {x : HA} {D Z : List HA} (h : WL X ops Q rest ρ (D ++ x :: Z)) : WL X ops Q rest ρ (x :: (D ++ Z)) := WL.part (Part.perm List.perm_middle.symm) h
theorem WC.mid {c : Code} {x : HA} {D Z : List HA} (h : WC X c Q ρ (D ++ x :: Z)) : WC X c Q ρ (x :: (D ++ Z)) := fun a w f s => h a w f (s.part (Part.perm List.perm_middle.symm))
end
theorem buildPl (n : Int) (a : Option Addr) (m c : Nat) (w : World) : (Instr.build 63 [(0, .int .i64 n), (1, .slice a m c)].toArray).run Tryz.prog w = .ok (.agg #[.int .i64 n, .slice a m c]) w := by
  simp [Instr.build, Tryz.zeroValue63, run_underlying Tryz.underlying63, Tryz.sizeOf3, Tryz.sizeOf61, Value.cells, Instr.fill]
theorem buildPl1 (a : Option Addr) (m c : Nat) (w : World) : (Instr.build 63 [(1, .slice a m c)].toArray).run Tryz.prog w = .ok (.agg #[.int .i64 0, .slice a m c]) w := by
  simp [Instr.build, Tryz.zeroValue63, run_underlying Tryz.underlying63, Tryz.sizeOf3, Tryz.sizeOf61, Value.cells, Instr.fill]
section
variable {p : DP} {S : List Nat} {v : DV} {s : DS}
theorem dsync_v (w : World) (ok : s.Ok p) (hv : s.v = v) (hops : v.ops < 4611686018427387904) (st : St w S (drI p s) w) :
    Calls Tryz.prog 39 #[bptr p.bd] w (GivesS S (DrV p v.sync.1 v.sync.2) w) := by
  subst hv; exact dsync_r s w ok hops st
theorem dread_v (sec : Int) (w : World) (ok : s.Ok p) (hv : s.v = v) (hrd : v.rd < 4611686018427387904) (st : St w S (drI p s) w) :
    Calls Tryz.prog 37 #[bptr p.bd, .int .i64 sec] w (GivesS S (DrdV p (v.read sec).1 (v.read sec).2) w) := by
  subst hv; exact dread_r sec s w ok hrd st
theorem darm_v (n : Int) (a : Option Addr) (m c2 : Nat) (K : List Int) (w : World) (ok : s.Ok p) (hv : s.v = v) (hl : K.length = m) (hm : m ≤ 9223372036854775807) (hr : CellsOut w S a (zcells K)) (st : St w S (drI p s) w) :
    Calls Tryz.prog 48 #[bptr p.bd, .agg #[.int .i64 n, .slice a m c2]] w (GivesS S (DrV p (v.arm n K).1 (v.arm n K).2) w) := by
  subst hv; exact darm_r n a m c2 K s w ok hl hm hr st
end
end Go.Proofs.YtbkdjfgkebkknaaGreatDoor
namespace Go.Proofs.YtbkdjfgkebkknaaGreatDoor.Big
set_option linter.unusedVariables false
set_option linter.unusedSimpArgs false

def len (n : Nat) : Nat := if n = 0 then 0 else Nat.log2 n + 1
theorem len_le {n k : Nat} : len n ≤ k ↔ n < 2 ^ k := by
  unfold len
  split
  · rename_i h; subst h; simp [Nat.two_pow_pos]
  · rename_i h; rw [Nat.succ_le_iff, Nat.log2_lt h]
theorem len_shift {n k : Nat} (h : 2 ^ k ≤ n) : len n = len (n / 2 ^ k) + k := by
  have key : ∀ j, len n ≤ j ↔ len (n / 2 ^ k) + k ≤ j := fun j => by
    rw [len_le]
    by_cases hj : k ≤ j
    · rw [show len (n / 2 ^ k) + k ≤ j ↔ len (n / 2 ^ k) ≤ j - k by omega, len_le, Nat.div_lt_iff_lt_mul (Nat.two_pow_pos k), ← Nat.pow_add, show j - k + k = j by omega]
    · have := Nat.pow_le_pow_right (n := 2) (by decide) (show j ≤ k by omega)
      constructor
      · intro h1; omega
      · intro h1; omega
  have h1 := (key (len n)).1 (Nat.le_refl _)
  have h2 := (key (len (n / 2 ^ k) + k)).2 (Nat.le_refl _)
  omega

def be : Nat → Nat → List UInt8
  | 0, _ => []
  | k + 1, n => UInt8.ofNat (n / 256 ^ k) :: be k n
theorem be_length (k n : Nat) : (be k n).length = k := by
  induction k with
  | zero => rfl
  | succ k ih => simp [be, ih]
theorem be_get (k n i : Nat) (h : i < k) : (be k n).getD i 0 = UInt8.ofNat (n / 256 ^ (k - 1 - i)) := by
  induction k generalizing i with
  | zero => omega
  | succ k ih =>
    cases i with
    | zero => simp [be]
    | succ i =>
      simp only [be, List.getD_cons_succ]
      rw [ih i (by omega)]
      congr 3
      omega
def appended (l : List UInt8) (n : Nat) (width : Int) : Nat × List UInt8 :=
  if width < 1 ∨ 8 < width then (2, []) else if 2 ^ (8 * width.toNat) ≤ n then (14, []) else (0, l ++ be width.toNat n)
def val (x : Nat) (l : List UInt8) : Nat := l.foldl (fun n c => n * 256 + c.toNat) x
def uintAt (l : List UInt8) (at_ width : Int) : Nat × Nat :=
  if width < 1 ∨ 8 < width then (2, 0) else if at_ < 0 then (3, 0) else if (l.length : Int) - width < at_ then (13, 0) else (0, val 0 ((l.drop at_.toNat).take width.toNat))
theorem val_snoc (x : Nat) (l : List UInt8) (c : UInt8) : val x (l ++ [c]) = val x l * 256 + c.toNat := by simp [val]
theorem val_lt (l : List UInt8) : val 0 l < 256 ^ l.length := by
  have : ∀ (x k : Nat), x < 256 ^ k → val x l < 256 ^ (k + l.length) := by
    induction l with
    | nil => intro x k h; simpa [val] using h
    | cons c l ih =>
      intro x k h
      have hc := c.toNat_lt
      have h1 : x * 256 + c.toNat < 256 ^ (k + 1) := by rw [Nat.pow_succ]; omega
      have := ih _ _ h1
      simp only [val, List.foldl_cons, List.length_cons] at this ⊢
      rwa [show k + (l.length + 1) = k + 1 + l.length by omega]
  simpa using this 0 0 (by decide)
theorem or_low {n c k : Nat} (hc : c < 2 ^ k) : (n * 2 ^ k) ||| c = n * 2 ^ k + c := by
  have := Nat.two_pow_add_eq_or_of_lt hc n
  rw [Nat.mul_comm] at this
  exact this.symm

def gsz (n : Nat) : Nat := max 1 ((len n + 6) / 7)
def dig (k n : Nat) : UInt8 := UInt8.ofNat (n / 128 ^ k % 128 + if k = 0 then 0 else 128)
def gr : Nat → Nat → List UInt8
  | 0, _ => []
  | k + 1, n => dig k n :: gr k n
def enc (n : Nat) : List UInt8 := gr (gsz n) n
theorem pow256 (k : Nat) : 256 ^ k = 2 ^ (8 * k) := by rw [show (256 : Nat) = 2 ^ 8 from rfl, ← Nat.pow_mul]
end Go.Proofs.YtbkdjfgkebkknaaGreatDoor.Big
namespace Go.Proofs.YtbkdjfgkebkknaaGreatDoor.Crc
set_option linter.unusedVariables false
set_option linter.unusedSimpArgs false

def step (x : Nat) : Nat := if x % 2 = 1 then (x / 2) ^^^ 0x82F63B78 else x / 2
def steps : Nat → Nat → Nat
  | 0, x => x
  | n + 1, x => steps n (step x)
def feed (x : Nat) (b : UInt8) : Nat := steps 8 (x ^^^ b.toNat)
def feeds (x : Nat) (l : List UInt8) : Nat := l.foldl feed x
def ones : Nat := 4294967295
def update (s : Nat) (l : List UInt8) : Nat := feeds (s ^^^ ones) l ^^^ ones
def sum (l : List UInt8) : Nat := update 0 l
def be4 (n : Nat) : List UInt8 := [UInt8.ofNat (n / 16777216), UInt8.ofNat (n / 65536), UInt8.ofNat (n / 256), UInt8.ofNat n]
def sealed (l : List UInt8) : List UInt8 := l ++ be4 (sum l)

def opened (l : List UInt8) : Nat × List UInt8 :=
  if l.length < 4 then (13, []) else if sealed (l.take (l.length - 4)) = l then (0, l.take (l.length - 4)) else (12, [])
theorem be4_length (n : Nat) : (be4 n).length = 4 := rfl
theorem sealed_length (l : List UInt8) : (sealed l).length = l.length + 4 := by simp [sealed, be4_length]

theorem steps_add (m n x : Nat) : steps (m + n) x = steps n (steps m x) := by
  induction m generalizing x with
  | zero => simp [steps]
  | succ m ih => rw [show m + 1 + n = (m + n) + 1 by omega, steps, ih, steps]

theorem steps_succ (n x : Nat) : steps (n + 1) x = step (steps n x) := by rw [steps_add]; rfl
theorem xor_half (a b : Nat) : (a ^^^ b) / 2 = a / 2 ^^^ b / 2 := by
  have := @Nat.xor_div_two_pow a b 1
  simpa using this
theorem xor_odd (a b : Nat) : (a ^^^ b) % 2 = (a % 2 + b % 2) % 2 := by
  have := @Nat.xor_mod_two_pow a b 1
  rw [show (2 : Nat) ^ 1 = 2 from rfl] at this
  rw [this]
  rcases Nat.mod_two_eq_zero_or_one a with h | h <;> rcases Nat.mod_two_eq_zero_or_one b with k | k <;> rw [h, k] <;> rfl

theorem step_xor (a b : Nat) : step (a ^^^ b) = step a ^^^ step b := by
  unfold step
  rw [xor_half, xor_odd]
  rcases Nat.mod_two_eq_zero_or_one a with h | h <;> rcases Nat.mod_two_eq_zero_or_one b with k | k <;> rw [h, k]
  · simp
  · simp only [Nat.zero_add, Nat.one_mod, Nat.zero_ne_one, if_true, if_false, Nat.xor_assoc]
  · simp only [Nat.add_zero, Nat.one_mod, Nat.zero_ne_one, if_true, if_false]
    rw [Nat.xor_assoc, Nat.xor_assoc, Nat.xor_comm (b / 2)]
  · simp only [show (1 + 1) % 2 = 0 from rfl, Nat.zero_ne_one, if_true, if_false]
    rw [Nat.xor_comm (b / 2), Nat.xor_assoc, ← Nat.xor_assoc 0x82F63B78, Nat.xor_self, Nat.zero_xor]
theorem step_zero : step 0 = 0 := rfl
theorem steps_zero (n : Nat) : steps n 0 = 0 := by
  induction n with
  | zero => rfl
  | succ n ih => rw [steps, step_zero, ih]
theorem steps_xor (n a b : Nat) : steps n (a ^^^ b) = steps n a ^^^ steps n b := by
  induction n generalizing a b with
  | zero => rfl
  | succ n ih => rw [steps, step_xor, ih]; rfl
theorem step_even (x : Nat) : step (2 * x) = x := by
  unfold step
  rw [if_neg (by omega)]; omega
theorem steps_shift (n x : Nat) : steps n (x * 2 ^ n) = x := by
  induction n generalizing x with
  | zero => simp [steps]
  | succ n ih => rw [steps, Nat.pow_succ, ← Nat.mul_assoc, Nat.mul_comm _ 2, step_even, ih]

theorem step_lt {x : Nat} (h : x < 4294967296) : step x < 4294967296 := by
  unfold step
  split
  · exact Nat.xor_lt_two_pow (n := 32) (show x / 2 < 2 ^ 32 by omega) (by decide)
  · omega
theorem steps_lt {x : Nat} (n : Nat) (h : x < 4294967296) : steps n x < 4294967296 := by
  induction n generalizing x with
  | zero => exact h
  | succ n ih => exact ih (step_lt h)
theorem xor_zero_eq {a b : Nat} (h : a ^^^ b = 0) : a = b := by
  have := congrArg (· ^^^ b) h
  simpa [Nat.xor_assoc, Nat.xor_self] using this
theorem step_ne {x : Nat} (h : x < 4294967296) (hx : x ≠ 0) : step x ≠ 0 := by
  unfold step
  split
  · intro e
    have e2 : x / 2 = 0x82F63B78 := xor_zero_eq e
    omega
  · omega
theorem steps_ne {x : Nat} (n : Nat) (h : x < 4294967296) (hx : x ≠ 0) : steps n x ≠ 0 := by
  induction n generalizing x with
  | zero => exact hx
  | succ n ih => exact ih (step_lt h) (step_ne h hx)

theorem byte_lt (b : UInt8) : b.toNat < 256 := b.toNat_lt
theorem xor_byte_lt {x : Nat} (h : x < 4294967296) (b : UInt8) : x ^^^ b.toNat < 4294967296 :=
  Nat.xor_lt_two_pow (n := 32) h (by have := byte_lt b; omega)
theorem feed_lt {x : Nat} (h : x < 4294967296) (b : UInt8) : feed x b < 4294967296 := steps_lt 8 (xor_byte_lt h b)
theorem feeds_lt {x : Nat} (h : x < 4294967296) (l : List UInt8) : feeds x l < 4294967296 := by
  induction l generalizing x with
  | nil => exact h
  | cons b l ih => exact ih (feed_lt h b)
theorem update_lt {s : Nat} (h : s < 4294967296) (l : List UInt8) : update s l < 4294967296 :=
  Nat.xor_lt_two_pow (n := 32) (feeds_lt (Nat.xor_lt_two_pow (n := 32) h (by decide)) l) (by decide)
theorem sum_lt (l : List UInt8) : sum l < 4294967296 := update_lt (by decide) l

theorem feeds_append (x : Nat) (a b : List UInt8) : feeds x (a ++ b) = feeds (feeds x a) b := List.foldl_append
def entry (i : Nat) : Nat := steps 8 i
theorem feed_table {x : Nat} (b : UInt8) : feed x b = entry ((x % 256) ^^^ b.toNat) ^^^ (x / 256) := by
  have hx : x = (x % 256) ^^^ (x / 256 * 2 ^ 8) := by
    have h : x / 256 * 2 ^ 8 ||| x % 256 = x / 256 * 2 ^ 8 + x % 256 := by
      have := Nat.two_pow_add_eq_or_of_lt (i := 8) (b := x % 256) (by omega) (x / 256)
      rw [Nat.mul_comm] at this
      exact this.symm
    have h2 : x % 256 ^^^ x / 256 * 2 ^ 8 = x / 256 * 2 ^ 8 ||| x % 256 := by
      apply Nat.eq_of_testBit_eq
      intro i
      rw [Nat.testBit_xor, Nat.testBit_or, Nat.testBit_mul_two_pow, show (256 : Nat) = 2 ^ 8 from rfl, Nat.testBit_mod_two_pow]
      by_cases hi : i < 8
      · simp [hi, show ¬ 8 ≤ i by omega]
      · simp [hi]
    rw [h2, h]; omega
  unfold feed entry
  conv => lhs; rw [hx]
  rw [Nat.xor_assoc, Nat.xor_comm (x / 256 * 2 ^ 8), ← Nat.xor_assoc, steps_xor, steps_shift]

theorem toNat_xor (a b : UInt8) : (a ^^^ b).toNat = a.toNat ^^^ b.toNat := UInt8.toNat_xor a b
def le : List UInt8 → Nat
  | [] => 0
  | b :: l => b.toNat + 256 * le l
theorem le_lt (l : List UInt8) : le l < 2 ^ (8 * l.length) := by
  induction l with
  | nil => simp [le]
  | cons b l ih =>
    simp only [le, List.length_cons]
    rw [show 8 * (l.length + 1) = 8 * l.length + 8 by omega, Nat.pow_add]
    have := byte_lt b
    generalize 2 ^ (8 * l.length) = p at *
    omega
theorem xor_low_high (x : Nat) {b : Nat} (hb : b < 256) (y : Nat) : (x ^^^ (b + 256 * y)) = (x ^^^ b) ^^^ (y * 2 ^ 8) := by
  have h : b + 256 * y = b ^^^ (y * 2 ^ 8) := by
    apply Nat.eq_of_testBit_eq
    intro i
    have e := Nat.two_pow_add_eq_or_of_lt (i := 8) (b := b) (by omega) y
    rw [show b + 256 * y = 2 ^ 8 * y + b by omega, e, Nat.testBit_or, Nat.testBit_xor, Nat.mul_comm (2 ^ 8), Nat.testBit_mul_two_pow]
    by_cases hi : i < 8
    · simp [show ¬ 8 ≤ i by omega]
    · have : b.testBit i = false := Nat.testBit_lt_two_pow (Nat.lt_of_lt_of_le hb (by
        have := Nat.pow_le_pow_right (n := 2) (by decide) (show 8 ≤ i by omega)
        omega))
      simp [this]
  rw [h, Nat.xor_assoc]
theorem feeds_le (x : Nat) (l : List UInt8) : feeds x l = steps (8 * l.length) (x ^^^ le l) := by
  induction l generalizing x with
  | nil => simp [feeds, le, steps]
  | cons b l ih =>
    show feeds (feed x b) l = _
    rw [ih, le, xor_low_high x (byte_lt b), List.length_cons, show 8 * (l.length + 1) = 8 + 8 * l.length by omega, steps_add, steps_xor 8, steps_shift]
    rfl
theorem sum_changes {b c : List UInt8} (h : c.length = b.length) {m k : Nat} (hk : k ≤ 8 * b.length) (hm : m < 4294967296) (e : le c = le b ^^^ m * 2 ^ k) :
    sum b ≠ sum c ↔ m ≠ 0 := by
  have key : sum c = sum b ^^^ steps (8 * b.length - k) m := by
    unfold sum update
    rw [feeds_le, feeds_le, h, e, ← Nat.xor_assoc, steps_xor]
    have : steps (8 * b.length) (m * 2 ^ k) = steps (8 * b.length - k) m := by
      conv => lhs; rw [show 8 * b.length = k + (8 * b.length - k) by omega]
      rw [steps_add, steps_shift]
    rw [this, Nat.xor_assoc, Nat.xor_assoc (steps _ _) ones, Nat.xor_comm ones]
  constructor
  · intro hn hz
    rw [hz, steps_zero, Nat.xor_zero] at key
    exact hn key.symm
  · intro hz hn
    have h0 := steps_ne (8 * b.length - k) hm hz
    apply h0
    rw [← hn] at key
    have := congrArg (sum b ^^^ ·) key
    simp only [← Nat.xor_assoc, Nat.xor_self, Nat.zero_xor] at this
    exact this.symm
theorem le_set (l : List UInt8) (i : Nat) (h : i < l.length) (j : Nat) (hj : j < 8) :
    le (l.set i (l.getD i 0 ^^^ UInt8.ofNat (2 ^ j))) = le l ^^^ 2 ^ (8 * i + j) := by
  induction l generalizing i with
  | nil => simp at h
  | cons b l ih =>
    have hb := byte_lt b
    have h2 : 2 ^ j < 256 := Nat.pow_lt_pow_right (by decide) hj
    cases i with
    | zero =>
      simp only [List.set_cons_zero, List.getD_cons_zero, le, Nat.mul_zero, Nat.zero_add]
      rw [toNat_xor, UInt8.toNat_ofNat_of_lt' h2, Nat.xor_comm _ (2 ^ j), Nat.xor_comm _ (2 ^ j), xor_low_high _ hb, Nat.xor_comm (2 ^ j)]
      have hx : b.toNat ^^^ 2 ^ j < 256 := Nat.xor_lt_two_pow (n := 8) hb h2
      have e := xor_low_high 0 hx (le l)
      rw [Nat.zero_xor, Nat.zero_xor] at e
      exact e
    | succ i =>
      simp only [List.set_cons_succ, List.getD_cons_succ, le]
      rw [ih i (by simpa using h)]
      have e1 := xor_low_high 0 hb (le l ^^^ 2 ^ (8 * i + j))
      have e2 := xor_low_high 0 hb (le l)
      rw [Nat.zero_xor, Nat.zero_xor] at e1 e2
      rw [e1, e2, show 8 * (i + 1) + j = (8 * i + j) + 8 by omega, Nat.pow_add 2 (8 * i + j) 8, Nat.xor_assoc]
      generalize 2 ^ (8 * i + j) = p
      congr 1
      apply Nat.eq_of_testBit_eq
      intro t
      simp only [Nat.testBit_xor, Nat.testBit_mul_two_pow]
      by_cases ht : 8 ≤ t <;> simp [ht]
end Go.Proofs.YtbkdjfgkebkknaaGreatDoor.Crc
namespace Go.Proofs.YtbkdjfgkebkknaaGreatDoor.Frm
set_option linter.unusedVariables false
set_option linter.unusedSimpArgs false
abbrev Ep (n : Int) : Prop := 1 ≤ n ∧ n ≤ 1099511627776
abbrev Ok (kd ep tx ix no : Int) (n : Nat) : Prop :=
  Ep ep ∧ 1 ≤ tx ∧ tx ≤ 4294967295 ∧ (kd = 1 ∧ 0 ≤ ix ∧ ix ≤ 4095 ∧ 0 ≤ no ∧ no ≤ 4095 ∧ n = 512 ∨ kd = 2 ∧ ix = 0 ∧ 1 ≤ no ∧ no ≤ 4096 ∧ n = 0)
def check (kd ep tx ix no : Int) (n : Nat) : Nat := if Ok kd ep tx ix no n then 0 else 2
def secs (kd : Int) : Nat × Nat := if kd = 1 then (5, 0) else if kd = 2 then (1, 0) else (0, 2)
def stamp (n : Int) (d : List UInt8) : List UInt8 := Big.be 8 n.toNat ++ d ++ List.replicate (112 - d.length) 0 ++ Big.be 8 n.toNat
def stamped (n : Int) (d : List UInt8) : Nat × List UInt8 := if Ep n ∧ d.length ≤ 112 then (0, stamp n d) else (2, [])
def Torn (b : List UInt8) (n : Int) : Prop := b.length < 128 ∨ b.take 8 ≠ Big.be 8 n.toNat ∨ (b.drop 120).take 8 ≠ Big.be 8 n.toNat
instance (b : List UInt8) (n : Int) : Decidable (Torn b n) := by unfold Torn; infer_instance
def unst (b : List UInt8) (n : Int) : Nat × List UInt8 := if ¬ Ep n then (2, []) else if Torn b n then (13, []) else (0, (b.drop 8).take 112)
theorem stamp_length {n : Int} {d : List UInt8} (h : d.length ≤ 112) : (stamp n d).length = 128 := by
  simp only [stamp, List.length_append, Big.be_length, List.length_replicate]; omega
end Go.Proofs.YtbkdjfgkebkknaaGreatDoor.Frm
namespace Go.Proofs.YtbkdjfgkebkknaaGreatDoor
set_option linter.unusedVariables false
set_option linter.unusedSimpArgs false
open Go Go.RowKit
set_option maxRecDepth 100000
set_option maxHeartbeats 8000000
theorem DBad.ptr {w : World} {v : Value} (h : DBad w v) : ∃ q, v = .pointer q := by
  cases h with
  | none => exact ⟨_, rfl⟩
  | zero bd _ => exact ⟨_, rfl⟩
attribute [local irreducible] WL WC WN Yl WH WQ WT WE WU WG WV
end Go.Proofs.YtbkdjfgkebkknaaGreatDoor
namespace Go.Proofs.YtbkdjfgkebkknaaGreatDoor
set_option linter.unusedVariables false
set_option linter.unusedSimpArgs false
open Go Go.RowKit
set_option maxRecDepth 100000
set_option maxHeartbeats 8000000
structure Pc where
  at_ : Nat
  tx : Nat
  ix : Nat
def encP (x : Pc) : Value := .agg #[.int .i64 (x.at_ : Int), .int .i64 (x.tx : Int), .int .i64 (x.ix : Int)]
structure JV where
  first : Nat
  n : Nat
  ep : Int
  used : Nat
  tx : Nat
  F : Nat → Option Pc
structure JP where
  bj : Nat
  bm : Nat
structure JS where
  v : JV
  M : List (Nat × Pc × Nat)
  c : Nat
def jO (bd : Nat) (p : JP) (v : JV) : Obj := .cells #[bptr bd, .int .i64 (v.first : Int), .int .i64 (v.n : Int), .int .i64 v.ep, .int .i64 (v.used : Int), .int .i64 (v.tx : Int), .map (some p.bm)] 79 (0, 0)
def jI (bd : Nat) (p : JP) (s : JS) : List HA := [.blk p.bj (jO bd p s.v), .blk p.bm (mobj encP s.M s.c)]
structure JS.Ok (s : JS) : Prop where
  m : MapIs 4096 s.v.F s.M s.c
  ep : Frm.Ep s.v.ep
  row : s.v.first + s.v.n ≤ 4096
  n1 : 1 ≤ s.v.n
  used : s.v.used ≤ s.v.n
  tx : s.v.tx ≤ s.v.used
structure JAt (w : World) (bd : Nat) (p : JP) (s : JS) : Prop where
  ok : s.Ok
  blk : w.heap[p.bj]? = some (jO bd p s.v)
  map : w.heap[p.bm]? = some (mobj encP s.M s.c)
theorem JAt.keep {w w' : World} {bd : Nat} {p : JP} {s : JS} (h : JAt w bd p s) (k : Kept w [] w') : JAt w' bd p s :=
  ⟨h.ok, (k.block p.bj (lt_of_heap h.blk) (by simp)).trans h.blk, (k.block p.bm (lt_of_heap h.map) (by simp)).trans h.map⟩
theorem JS.Ok.at_ {s : JS} {bd : Nat} {p : JP} (h : s.Ok) {w0 w : World} {S : List Nat} {A : List HA} (st : St w0 S A w) (hi : ∀ x ∈ jI bd p s, x ∈ A) : JAt w bd p s :=
  ⟨h, st.holds _ (hi _ (.head _)), st.holds _ (hi _ (.tail _ (.head _)))⟩
def zeroJ : Obj := .cells #[.pointer none, .int .i64 0, .int .i64 0, .int .i64 0, .int .i64 0, .int .i64 0, .map none] 79 (0, 0)
inductive JBad (w : World) : Value → Prop
  | none : JBad w (.pointer none)
  | zero (b : Nat) : w.heap[b]? = some zeroJ → JBad w (bptr b)
theorem JBad.keep {w w' : World} {v : Value} (h : JBad w v) (k : Kept w [] w') : JBad w' v := by
  cases h with
  | none => exact .none
  | zero b hb => exact .zero b ((k.block b (lt_of_heap hb) (by simp)).trans hb)
theorem JBad.ptr {w : World} {v : Value} (h : JBad w v) : ∃ q, v = .pointer q := by
  cases h with
  | none => exact ⟨_, rfl⟩
  | zero b hb => exact ⟨_, rfl⟩
def newE (len : Nat) (first n ep : Int) : Nat := if len = 0 then 1 else if ep < 1 ∨ 1099511627776 < ep then 2 else if first < 0 ∨ n < 1 ∨ (len : Int) < first ∨ len - first < n then 3 else 0
def JNewV (bd : Nat) (v : JV) : Value → List HA → Prop := fun u B => ∃ p s, JS.Ok s ∧ s.v = v ∧ u = .tuple #[bptr p.bj, .int .i64 0] ∧ B = jI bd p s
theorem buildJ (d : Option Addr) (a b e : Int) (m : Option Nat) (w : World) : (Instr.build 79 [(0, .pointer d), (1, .int .i64 a), (2, .int .i64 b), (3, .int .i64 e), (6, .map m)].toArray).run Tryz.prog w = .ok (.agg #[.pointer d, .int .i64 a, .int .i64 b, .int .i64 e, .int .i64 0, .int .i64 0, .map m]) w := by
  simp [Instr.build, Tryz.zeroValue79, run_underlying Tryz.underlying79, Tryz.sizeOf3, Tryz.sizeOf2, Tryz.sizeOf26, Tryz.sizeOf77, Value.cells, Instr.fill]
attribute [local irreducible] WL WC WN Yl WH WQ WT WE WU WG WV
section
variable {bd : Nat} {p : JP} {s : JS}
theorem jvalid_c (w : World) (h : JAt w bd p s) : Calls Tryz.prog 60 #[bptr p.bj] w (Gives (Val (.bool true)) w) := by
  refine enter (args := [.pointer (some ⟨p.bj, 0, none⟩)]) Tryz.func60 Tryz.ntmps60 rfl rfl ?_
  (repeat (first | refine WL.want rfl rfl rfl ?_ | refine WL.step (Yl.move rfl) rfl ?_ | refine WL.step (Yl.assign rfl) rfl ?_ | refine WL.step (Yl.loadH Tryz.isAgg26 rfl (Has.old h.blk) rfl) rfl ?_ | (refine WL.k_fld ?_; refine WL.step (Yl.fldN0 (i := 0) (o := 0) (by kernel_rfl) rfl) rfl ?_) | refine WL.step (Yl.pick_t rfl rfl rfl) rfl ?_ | (refine WL.k_bin .neq ?_; refine WL.step (Yl.neqPN (by kernel_rfl) rfl) rfl ?_) | refine WL.step (Yl.nilCheck rfl) rfl ?_ | refine WC.seq ?_ | refine WC.region ?_ | refine WL.nil ?_ | refine WN.then_normal ?_ | refine WC.ret ?_))
  exact WN.ret1 rfl rfl ⟨rfl, rfl⟩ .nil
theorem jvalid_bad (v : Value) (w : World) (h : JBad w v) : Calls Tryz.prog 60 #[v] w (Gives (Val (.bool false)) w) := by
  cases h with
  | none =>
    refine enter (args := [.pointer none]) Tryz.func60 Tryz.ntmps60 rfl rfl ?_
    (repeat (first | refine WL.pass rfl rfl rfl rfl ?_ | refine WL.step (Yl.move rfl) rfl ?_ | refine WL.step (Yl.assign rfl) rfl ?_ | refine WL.step (Yl.pick_f rfl rfl rfl) rfl ?_ | (refine WL.k_bin .neq ?_; refine WL.step (Yl.neqPN (by kernel_rfl) rfl) rfl ?_) | refine WC.seq ?_ | refine WC.region ?_ | refine WL.nil ?_ | refine WN.then_normal ?_ | refine WC.ret ?_))
    exact WN.ret1 rfl rfl ⟨rfl, rfl⟩ .nil
  | zero b hb =>
    refine enter (args := [.pointer (some ⟨b, 0, none⟩)]) Tryz.func60 Tryz.ntmps60 rfl rfl ?_
    (repeat (first | refine WL.want rfl rfl rfl ?_ | refine WL.step (Yl.move rfl) rfl ?_ | refine WL.step (Yl.assign rfl) rfl ?_ | (refine WL.k_load ?_; refine WL.step (Yl.loadH Tryz.isAgg26 rfl (Has.old hb) (by rfl)) rfl ?_) | (refine WL.k_fld ?_; refine WL.step (Yl.fldN0 (i := 0) (o := 0) (by kernel_rfl) rfl) rfl ?_) | refine WL.step (Yl.pick_t rfl rfl rfl) rfl ?_ | (refine WL.k_bin .neq ?_; refine WL.step (Yl.neqPN (by kernel_rfl) rfl) rfl ?_) | refine WL.step (Yl.nilCheck rfl) rfl ?_ | refine WC.seq ?_ | refine WC.region ?_ | refine WL.nil ?_ | refine WN.then_normal ?_ | refine WC.ret ?_))
    exact WN.ret1 rfl rfl ⟨rfl, rfl⟩ .nil
theorem jtx_c (w : World) (h : JAt w bd p s) : Calls Tryz.prog 35 #[bptr p.bj] w (Gives (Val (.int .i64 ((s.v.tx : Int)))) w) := by
  refine enter (args := [.pointer (some ⟨p.bj, 0, none⟩)]) Tryz.func35 Tryz.ntmps35 rfl rfl ?_
  (repeat (first | refine WL.step (Yl.move rfl) rfl ?_ | refine WL.step (Yl.assign rfl) rfl ?_ | refine WL.callV (g := 60) (v := .bool true) Tryz.call60 rfl (fun w0 st => jvalid_c w0 (h.keep st.kept)) rfl ?_ | refine WL.step (Yl.not rfl) rfl ?_ | refine WC.seq ?_ | refine WC.region ?_ | refine WL.nil ?_ | refine WN.then_normal ?_))
  refine WC.cond_false rfl rfl ?_
  (repeat (first | refine WL.step (Yl.move rfl) rfl ?_ | refine WL.step (Yl.assign rfl) rfl ?_ | refine WL.step (Yl.loadH Tryz.isAgg26 rfl (Has.old h.blk) rfl) rfl ?_ | (refine WL.k_fld ?_; refine WL.step (Yl.fldN0 (i := 5) (o := 5) (by kernel_rfl) rfl) rfl ?_) | refine WL.step (Yl.nilCheck rfl) rfl ?_ | refine WC.seq ?_ | refine WC.region ?_ | refine WL.nil ?_ | refine WN.then_normal ?_ | refine WC.skip ?_ | refine WC.ret ?_))
  exact WN.ret1 rfl rfl ⟨rfl, rfl⟩ .nil
theorem jused_c (w : World) (h : JAt w bd p s) : Calls Tryz.prog 36 #[bptr p.bj] w (Gives (Val (.int .i64 ((s.v.used : Int)))) w) := by
  refine enter (args := [.pointer (some ⟨p.bj, 0, none⟩)]) Tryz.func36 Tryz.ntmps36 rfl rfl ?_
  (repeat (first | refine WL.step (Yl.move rfl) rfl ?_ | refine WL.step (Yl.assign rfl) rfl ?_ | refine WL.callV (g := 60) (v := .bool true) Tryz.call60 rfl (fun w0 st => jvalid_c w0 (h.keep st.kept)) rfl ?_ | refine WL.step (Yl.not rfl) rfl ?_ | refine WC.seq ?_ | refine WC.region ?_ | refine WL.nil ?_ | refine WN.then_normal ?_))
  refine WC.cond_false rfl rfl ?_
  (repeat (first | refine WL.step (Yl.move rfl) rfl ?_ | refine WL.step (Yl.assign rfl) rfl ?_ | refine WL.step (Yl.loadH Tryz.isAgg26 rfl (Has.old h.blk) rfl) rfl ?_ | (refine WL.k_fld ?_; refine WL.step (Yl.fldN0 (i := 4) (o := 4) (by kernel_rfl) rfl) rfl ?_) | refine WL.step (Yl.nilCheck rfl) rfl ?_ | refine WC.seq ?_ | refine WC.region ?_ | refine WL.nil ?_ | refine WN.then_normal ?_ | refine WC.skip ?_ | refine WC.ret ?_))
  exact WN.ret1 rfl rfl ⟨rfl, rfl⟩ .nil
theorem jused_bad (v : Value) (w : World) (h : JBad w v) : Calls Tryz.prog 36 #[v] w (Gives (Val (.int .i64 0)) w) := by
  obtain ⟨pv, rfl⟩ := h.ptr
  refine enter (args := [.pointer pv]) Tryz.func36 Tryz.ntmps36 rfl rfl ?_
  (repeat (first | refine WL.step (Yl.move rfl) rfl ?_ | refine WL.step (Yl.assign rfl) rfl ?_ | refine WL.callV (g := 60) (v := .bool false) Tryz.call60 rfl (fun w0 st => jvalid_bad _ w0 (h.keep st.kept)) rfl ?_ | refine WL.step (Yl.not rfl) rfl ?_ | refine WC.seq ?_ | refine WC.region ?_ | refine WL.nil ?_ | refine WN.then_normal ?_))
  refine WC.cond_true rfl rfl ?_
  (repeat (first | refine WL.step (Yl.assign rfl) rfl ?_ | refine WC.seq ?_ | refine WC.region ?_ | refine WL.nil ?_ | refine WN.then_normal ?_ | refine WC.ret ?_ | refine WN.then_ret ?_))
  exact WN.ret1 rfl rfl ⟨rfl, rfl⟩ .nil
end
section
variable {dp : DP} {ds : DS}
theorem jnew_e (first n ep : Int) (w : World) (hd : DrAt w dp ds) (hl : ds.d.length ≤ 4096) (he : newE ds.d.length first n ep ≠ 0) : Calls Tryz.prog 12 #[bptr dp.bd, .int .i64 first, .int .i64 n, .int .i64 ep] w (Gives (Val (.tuple #[.pointer none, .int .i64 (newE ds.d.length first n ep : Int)])) w) := by
  have hpos := hd.bank.wf.pos
  unfold newE at he ⊢
  rw [if_neg (by omega)] at he ⊢
  by_cases h2 : ep < 1 ∨ 1099511627776 < ep
  · rw [if_pos h2] at he ⊢
    refine enter (args := [.pointer (some ⟨dp.bd, 0, none⟩), _, _, _]) Tryz.func12 Tryz.ntmps12 rfl rfl ?_
    (repeat (first | refine WL.step (Yl.move rfl) rfl ?_ | refine WL.step (Yl.assign rfl) rfl ?_ | refine WL.callV (g := 56) Tryz.call56 rfl (fun w0 st => dlen_c w0 (hd.keep st.kept)) rfl ?_ | (refine WL.k_bin .eql ?_; refine WL.step (Yl.eqlF rfl rfl (by omega)) rfl ?_) | refine WC.seq ?_ | refine WC.region ?_ | refine WL.nil ?_ | refine WN.then_normal ?_ | refine WC.block ?_))
    by_cases h3 : ep < 1
    · refine WC.cond_false rfl rfl ?_
      (repeat (first | refine WL.pass rfl rfl rfl rfl ?_ | refine WL.step (Yl.move rfl) rfl ?_ | refine WL.step (Yl.assign rfl) rfl ?_ | refine WL.step (Yl.pick_t rfl rfl rfl) rfl ?_ | (refine WL.k_bin .lss ?_; refine WL.step (Yl.lssT rfl rfl (by omega)) rfl ?_) | refine WC.seq ?_ | refine WC.region ?_ | refine WL.nil ?_ | refine WN.then_normal ?_))
      refine WC.cond_true rfl rfl ?_
      (repeat (first | refine WL.step (Yl.assign rfl) rfl ?_ | refine WC.seq ?_ | refine WC.region ?_ | refine WL.nil ?_ | refine WN.then_normal ?_ | refine WC.ret ?_ | refine WN.then_ret ?_ | refine WN.block_ret ?_))
      exact WN.ret2 rfl rfl rfl ⟨rfl, rfl⟩ .nil
    · refine WC.cond_false rfl rfl ?_
      (repeat (first | refine WL.want rfl rfl rfl ?_ | refine WL.step (Yl.move rfl) rfl ?_ | refine WL.step (Yl.assign rfl) rfl ?_ | refine WL.step (Yl.pick_f rfl rfl rfl) rfl ?_ | (refine WL.k_bin .lss ?_; refine WL.step (Yl.lssF rfl rfl (by omega)) rfl ?_) | (refine WL.k_bin .gtr ?_; refine WL.step (Yl.gtrT rfl rfl (by omega)) rfl ?_) | refine WC.seq ?_ | refine WC.region ?_ | refine WL.nil ?_ | refine WN.then_normal ?_))
      refine WC.cond_true rfl rfl ?_
      (repeat (first | refine WL.step (Yl.assign rfl) rfl ?_ | refine WC.seq ?_ | refine WC.region ?_ | refine WL.nil ?_ | refine WN.then_normal ?_ | refine WC.ret ?_ | refine WN.then_ret ?_ | refine WN.block_ret ?_))
      exact WN.ret2 rfl rfl rfl ⟨rfl, rfl⟩ .nil
  rw [if_neg h2] at he ⊢
  have h3 : first < 0 ∨ n < 1 ∨ (ds.d.length : Int) < first ∨ ds.d.length - first < n := by
    by_cases h : first < 0 ∨ n < 1 ∨ (ds.d.length : Int) < first ∨ ds.d.length - first < n
    · exact h
    · rw [if_neg h] at he; exact absurd rfl he
  rw [if_pos h3]
  refine enter (args := [.pointer (some ⟨dp.bd, 0, none⟩), _, _, _]) Tryz.func12 Tryz.ntmps12 rfl rfl ?_
  (repeat (first | refine WL.step (Yl.move rfl) rfl ?_ | refine WL.step (Yl.assign rfl) rfl ?_ | refine WL.callV (g := 56) Tryz.call56 rfl (fun w0 st => dlen_c w0 (hd.keep st.kept)) rfl ?_ | (refine WL.k_bin .eql ?_; refine WL.step (Yl.eqlF rfl rfl (by omega)) rfl ?_) | refine WC.seq ?_ | refine WC.region ?_ | refine WL.nil ?_ | refine WN.then_normal ?_ | refine WC.block ?_))
  refine WC.cond_false rfl rfl ?_
  (repeat (first | refine WL.want rfl rfl rfl ?_ | refine WL.step (Yl.move rfl) rfl ?_ | refine WL.step (Yl.assign rfl) rfl ?_ | refine WL.step (Yl.pick_f rfl rfl rfl) rfl ?_ | (refine WL.k_bin .lss ?_; refine WL.step (Yl.lssF rfl rfl (by omega)) rfl ?_) | (refine WL.k_bin .gtr ?_; refine WL.step (Yl.gtrF rfl rfl (by omega)) rfl ?_) | refine WC.seq ?_ | refine WC.region ?_ | refine WL.nil ?_ | refine WN.then_normal ?_))
  refine WC.cond_false rfl rfl ?_
  by_cases k1 : first < 0
  · (repeat (first | refine WL.pass rfl rfl rfl rfl ?_ | refine WL.step (Yl.move rfl) rfl ?_ | refine WL.step (Yl.assign rfl) rfl ?_ | refine WL.step (Yl.pick_t rfl rfl rfl) rfl ?_ | (refine WL.k_bin .lss ?_; refine WL.step (Yl.lssT (m := first) (n := 0) rfl rfl (by omega)) rfl ?_) | refine WC.seq ?_ | refine WC.region ?_ | refine WL.nil ?_ | refine WN.then_normal ?_))
    refine WC.cond_true rfl rfl ?_
    (repeat (first | refine WL.step (Yl.assign rfl) rfl ?_ | refine WC.seq ?_ | refine WC.region ?_ | refine WL.nil ?_ | refine WN.then_normal ?_ | refine WC.ret ?_ | refine WN.then_ret ?_ | refine WN.block_ret ?_))
    exact WN.ret2 rfl rfl rfl ⟨rfl, rfl⟩ .nil
  by_cases k2 : n < 1
  · (repeat (first | (refine WL.kG ?_; first | refine WL.want rfl rfl rfl ?_ | refine WL.pass rfl rfl rfl rfl ?_) | refine WL.step (Yl.move rfl) rfl ?_ | refine WL.step (Yl.assign rfl) rfl ?_ | (refine WL.k_pick ?_; first | refine WL.step (Yl.pick_t rfl rfl rfl) rfl ?_ | refine WL.step (Yl.pick_f rfl rfl rfl) rfl ?_) | (refine WL.k_bin .lss ?_; first | refine WL.step (Yl.lssF (m := first) (n := 0) rfl rfl (by omega)) rfl ?_ | refine WL.step (Yl.lssT (m := n) (n := 1) rfl rfl (by omega)) rfl ?_) | refine WC.seq ?_ | refine WC.region ?_ | refine WL.nil ?_ | refine WN.then_normal ?_))
    refine WC.cond_true rfl rfl ?_
    (repeat (first | refine WL.step (Yl.assign rfl) rfl ?_ | refine WC.seq ?_ | refine WC.region ?_ | refine WL.nil ?_ | refine WN.then_normal ?_ | refine WC.ret ?_ | refine WN.then_ret ?_ | refine WN.block_ret ?_))
    exact WN.ret2 rfl rfl rfl ⟨rfl, rfl⟩ .nil
  by_cases k3 : (ds.d.length : Int) < first
  · (repeat (first | (refine WL.kG ?_; first | refine WL.want rfl rfl rfl ?_ | refine WL.pass rfl rfl rfl rfl ?_) | refine WL.step (Yl.move rfl) rfl ?_ | refine WL.step (Yl.assign rfl) rfl ?_ | (refine WL.k_pick ?_; first | refine WL.step (Yl.pick_t rfl rfl rfl) rfl ?_ | refine WL.step (Yl.pick_f rfl rfl rfl) rfl ?_) | (refine WL.k_bin .lss ?_; refine WL.step (Yl.lssF rfl rfl (by omega)) rfl ?_) | (refine WL.k_bin .gtr ?_; refine WL.step (Yl.gtrT rfl rfl (by omega)) rfl ?_) | refine WC.seq ?_ | refine WC.region ?_ | refine WL.nil ?_ | refine WN.then_normal ?_))
    refine WC.cond_true rfl rfl ?_
    (repeat (first | refine WL.step (Yl.assign rfl) rfl ?_ | refine WC.seq ?_ | refine WC.region ?_ | refine WL.nil ?_ | refine WN.then_normal ?_ | refine WC.ret ?_ | refine WN.then_ret ?_ | refine WN.block_ret ?_))
    exact WN.ret2 rfl rfl rfl ⟨rfl, rfl⟩ .nil
  · (repeat (first | refine WL.want rfl rfl rfl ?_ | refine WL.step (Yl.move rfl) rfl ?_ | refine WL.step (Yl.assign rfl) rfl ?_ | refine WL.step (Yl.pick_f rfl rfl rfl) rfl ?_ | (refine WL.k_bin .lss ?_; refine WL.step (Yl.lssF rfl rfl (by omega)) rfl ?_) | (refine WL.k_bin .gtr ?_; first | refine WL.step (Yl.gtrF (m := first) (n := (ds.d.length : Int)) rfl rfl (by omega)) rfl ?_ | refine WL.step (Yl.gtrT rfl rfl (by omega)) rfl ?_) | (refine WL.k_bin .sub ?_; refine WL.step (Yl.sub64 rfl rfl (by omega)) rfl ?_) | refine WC.seq ?_ | refine WC.region ?_ | refine WL.nil ?_ | refine WN.then_normal ?_))
    refine WC.cond_true rfl rfl ?_
    (repeat (first | refine WL.step (Yl.assign rfl) rfl ?_ | refine WC.seq ?_ | refine WC.region ?_ | refine WL.nil ?_ | refine WN.then_normal ?_ | refine WC.ret ?_ | refine WN.then_ret ?_ | refine WN.block_ret ?_))
    exact WN.ret2 rfl rfl rfl ⟨rfl, rfl⟩ .nil
theorem jnew_c (first n : Nat) (ep : Int) (w : World) (hd : DrAt w dp ds) (hl : ds.d.length ≤ 4096) (he : Frm.Ep ep) (hn : 1 ≤ n) (hr : first + n ≤ ds.d.length) : Calls Tryz.prog 12 #[bptr dp.bd, .int .i64 (first : Int), .int .i64 (n : Int), .int .i64 ep] w (Gives (JNewV dp.bd ⟨first, n, ep, 0, 0, fun _ => none⟩) w) := by
  have hep : 1 ≤ ep ∧ ep ≤ 1099511627776 := he
  refine enter (args := [.pointer (some ⟨dp.bd, 0, none⟩), _, _, _]) Tryz.func12 Tryz.ntmps12 rfl rfl ?_
  (repeat (first | refine WL.step (Yl.move rfl) rfl ?_ | refine WL.step (Yl.assign rfl) rfl ?_ | refine WL.callV (g := 56) Tryz.call56 rfl (fun w0 st => dlen_c w0 (hd.keep st.kept)) rfl ?_ | (refine WL.k_bin .eql ?_; refine WL.step (Yl.eqlF rfl rfl (by omega)) rfl ?_) | refine WC.seq ?_ | refine WC.region ?_ | refine WL.nil ?_ | refine WN.then_normal ?_ | refine WC.block ?_))
  refine WC.cond_false rfl rfl ?_
  (repeat (first | refine WL.want rfl rfl rfl ?_ | refine WL.step (Yl.move rfl) rfl ?_ | refine WL.step (Yl.assign rfl) rfl ?_ | refine WL.step (Yl.pick_f rfl rfl rfl) rfl ?_ | (refine WL.k_bin .lss ?_; refine WL.step (Yl.lssF rfl rfl (by omega)) rfl ?_) | (refine WL.k_bin .gtr ?_; refine WL.step (Yl.gtrF rfl rfl (by omega)) rfl ?_) | refine WC.seq ?_ | refine WC.region ?_ | refine WL.nil ?_ | refine WN.then_normal ?_))
  refine WC.cond_false rfl rfl ?_
  (repeat (first | refine WL.want rfl rfl rfl ?_ | refine WL.step (Yl.move rfl) rfl ?_ | refine WL.step (Yl.assign rfl) rfl ?_ | refine WL.step (Yl.pick_f rfl rfl rfl) rfl ?_ | (refine WL.k_bin .lss ?_; refine WL.step (Yl.lssF rfl rfl (by omega)) rfl ?_) | (refine WL.k_bin .gtr ?_; refine WL.step (Yl.gtrF rfl rfl (by omega)) rfl ?_) | (refine WL.k_bin .sub ?_; refine WL.step (Yl.sub64 rfl rfl (by omega)) rfl ?_) | refine WC.seq ?_ | refine WC.region ?_ | refine WL.nil ?_ | refine WN.then_normal ?_))
  refine WC.cond_false rfl rfl ?_
  (repeat (first | refine WL.step (Yl.move rfl) rfl ?_ | refine WC.seq ?_ | refine WC.region ?_ | refine WN.then_normal ?_ | refine WC.skip ?_ | refine WN.block_normal ?_))
  refine WL.makeMap (enc := encP) rfl fun bm => ?_
  (repeat (first | refine WL.step (Yl.build (ps := [(0, .tmp 42), (1, .tmp 43), (2, .tmp 44), (3, .tmp 45), (6, .tmp 46)]) (vs := [(0, bptr dp.bd), (1, .int .i64 (first : Int)), (2, .int .i64 (n : Int)), (3, .int .i64 ep), (6, .map (some bm))]) rfl (buildJ _ _ _ _ _)) rfl ?_))
  refine WL.boxA rfl rfl fun bj => ?_
  (repeat (first | refine WL.step (Yl.assign rfl) rfl ?_ | refine WL.nil ?_ | refine WN.then_normal ?_ | refine WC.ret ?_))
  exact WN.ret2 rfl rfl rfl ⟨⟨bj, bm⟩, ⟨⟨first, n, ep, 0, 0, fun _ => none⟩, [], 0⟩, ⟨MapIs.empty _, he, by simp only; omega, hn, Nat.zero_le _, Nat.le_refl _⟩, rfl, rfl, rfl⟩ (Part.refl _)
end
end Go.Proofs.YtbkdjfgkebkknaaGreatDoor
namespace Go.Proofs.YtbkdjfgkebkknaaGreatDoor
set_option linter.unusedVariables false
set_option linter.unusedSimpArgs false
open Go Go.RowKit
set_option maxRecDepth 100000
set_option maxHeartbeats 4000000
attribute [local irreducible] WL WC WN Yl WH WQ WT
theorem len64_c (x : Nat) (w : World) (hx : x < 18446744073709551616) : Calls Tryz.prog 143 #[.int .u64 (x : Int)] w (Gives (Val (.int .i64 ((Big.len x : Nat) : Int))) w) := by
  refine enter (args := [_]) Tryz.func143 Tryz.ntmps143 rfl rfl ?_
  (repeat (first | refine WL.step (Yl.move rfl) rfl ?_ | refine WL.step (Yl.assign rfl) rfl ?_ | refine WL.step (Yl.geq rfl rfl) rfl ?_ | refine WC.seq ?_ | refine WC.region ?_ | refine WL.nil ?_ | refine WN.then_normal ?_))
  refine WC.ite rfl (fun h1 => ?_) (fun h1 => ?_)
  · have s1 := Big.len_shift (n := x) (k := 32) (by omega)
    have e1 : x >>> 32 = x / 2 ^ 32 := Nat.shiftRight_eq_div_pow x 32
    (repeat (first | refine WL.step (Yl.move rfl) rfl ?_ | refine WL.step (Yl.assign rfl) rfl ?_ | (refine WL.k_bin .shr ?_; refine WL.step (Yl.shrC rfl (by decide)) rfl ?_) | refine WL.step (Yl.geq rfl rfl) rfl ?_ | refine WC.seq ?_ | refine WC.region ?_ | refine WL.nil ?_ | refine WN.then_normal ?_))
    rw [e1]
    generalize hy1 : x / 2 ^ 32 = xa at *
    have hz1 : xa < 4294967296 := by rw [← hy1]; omega
    refine WC.ite rfl (fun h2 => ?_) (fun h2 => ?_)
    · have s2 := Big.len_shift (n := xa) (k := 16) (by omega)
      have e2 : xa >>> 16 = xa / 2 ^ 16 := Nat.shiftRight_eq_div_pow xa 16
      (repeat (first | refine WL.step (Yl.move rfl) rfl ?_ | refine WL.step (Yl.assign rfl) rfl ?_ | (refine WL.k_bin .shr ?_; refine WL.step (Yl.shrC rfl (by decide)) rfl ?_) | refine WL.step (Yl.geq rfl rfl) rfl ?_ | (refine WL.k_bin .add ?_; refine WL.step (Yl.add64 rfl rfl (by omega)) rfl ?_) | refine WC.seq ?_ | refine WC.region ?_ | refine WL.nil ?_ | refine WN.then_normal ?_))
      rw [e2]
      generalize hy2 : xa / 2 ^ 16 = xab at *
      have hz2 : xab < 65536 := by rw [← hy2]; omega
      refine WC.ite rfl (fun h3 => ?_) (fun h3 => ?_)
      · have s3 := Big.len_shift (n := xab) (k := 8) (by omega)
        have e3 : xab >>> 8 = xab / 2 ^ 8 := Nat.shiftRight_eq_div_pow xab 8
        (repeat (first | refine WL.step (Yl.move rfl) rfl ?_ | refine WL.step (Yl.assign rfl) rfl ?_ | (refine WL.k_bin .shr ?_; refine WL.step (Yl.shrC rfl (by decide)) rfl ?_) | (refine WL.k_bin .add ?_; refine WL.step (Yl.add64 rfl rfl (by omega)) rfl ?_) | refine WC.seq ?_ | refine WC.region ?_ | refine WL.nil ?_ | refine WN.then_normal ?_))
        rw [e3]
        generalize hy3 : xab / 2 ^ 8 = xabc at *
        have hz3 : xabc < 256 := by rw [← hy3]; omega
        have l8 : Big.len xabc ≤ 8 := Big.len_le.2 (by omega)
        (repeat (first | refine WL.step (Yl.assign rfl) rfl ?_ | (refine WL.k_conv ?_; first | refine WL.step (Yl.convLt (s := 49) (t := 5) Tryz.underlying49 Tryz.underlying5 rfl rfl (by show _ < 256; omega)) rfl ?_ | refine WL.step (Yl.conv64 (s := 5) (t := 3) Tryz.underlying5 Tryz.underlying3 rfl (by omega)) rfl ?_) | (refine WL.k_index ?_; refine WL.step (Yl.indexStrF (f := Big.len) (b := 256) Tryz.underlying9 rfl rfl (by decide +kernel) (by omega)) rfl ?_) | (refine WL.k_bin .add ?_; refine WL.step (Yl.add64 rfl rfl (by omega)) rfl ?_) | refine WL.nil ?_ | refine WN.then_normal ?_ | refine WC.ret ?_))
        exact WN.ret1 rfl rfl ⟨congrArg (Value.int .i64) (by omega), rfl⟩ .nil
      · (repeat (first | refine WL.step (Yl.move rfl) rfl ?_ | refine WC.seq ?_ | refine WC.region ?_ | refine WN.then_normal ?_ | refine WC.skip ?_))
        have l8 : Big.len xab ≤ 8 := Big.len_le.2 (by omega)
        (repeat (first | refine WL.step (Yl.assign rfl) rfl ?_ | (refine WL.k_conv ?_; first | refine WL.step (Yl.convLt (s := 49) (t := 5) Tryz.underlying49 Tryz.underlying5 rfl rfl (by show _ < 256; omega)) rfl ?_ | refine WL.step (Yl.conv64 (s := 5) (t := 3) Tryz.underlying5 Tryz.underlying3 rfl (by omega)) rfl ?_) | (refine WL.k_index ?_; refine WL.step (Yl.indexStrF (f := Big.len) (b := 256) Tryz.underlying9 rfl rfl (by decide +kernel) (by omega)) rfl ?_) | (refine WL.k_bin .add ?_; refine WL.step (Yl.add64 rfl rfl (by omega)) rfl ?_) | refine WL.nil ?_ | refine WN.then_normal ?_ | refine WC.ret ?_))
        exact WN.ret1 rfl rfl ⟨congrArg (Value.int .i64) (by omega), rfl⟩ .nil
    · (repeat (first | refine WL.step (Yl.move rfl) rfl ?_ | refine WL.step (Yl.geq rfl rfl) rfl ?_ | refine WC.seq ?_ | refine WC.region ?_ | refine WL.nil ?_ | refine WN.then_normal ?_ | refine WC.skip ?_))
      refine WC.ite rfl (fun h3 => ?_) (fun h3 => ?_)
      · have s3 := Big.len_shift (n := xa) (k := 8) (by omega)
        have e3 : xa >>> 8 = xa / 2 ^ 8 := Nat.shiftRight_eq_div_pow xa 8
        (repeat (first | refine WL.step (Yl.move rfl) rfl ?_ | refine WL.step (Yl.assign rfl) rfl ?_ | (refine WL.k_bin .shr ?_; refine WL.step (Yl.shrC rfl (by decide)) rfl ?_) | (refine WL.k_bin .add ?_; refine WL.step (Yl.add64 rfl rfl (by omega)) rfl ?_) | refine WC.seq ?_ | refine WC.region ?_ | refine WL.nil ?_ | refine WN.then_normal ?_))
        rw [e3]
        generalize hy3 : xa / 2 ^ 8 = xac at *
        have hz3 : xac < 256 := by rw [← hy3]; omega
        have l8 : Big.len xac ≤ 8 := Big.len_le.2 (by omega)
        (repeat (first | refine WL.step (Yl.assign rfl) rfl ?_ | (refine WL.k_conv ?_; first | refine WL.step (Yl.convLt (s := 49) (t := 5) Tryz.underlying49 Tryz.underlying5 rfl rfl (by show _ < 256; omega)) rfl ?_ | refine WL.step (Yl.conv64 (s := 5) (t := 3) Tryz.underlying5 Tryz.underlying3 rfl (by omega)) rfl ?_) | (refine WL.k_index ?_; refine WL.step (Yl.indexStrF (f := Big.len) (b := 256) Tryz.underlying9 rfl rfl (by decide +kernel) (by omega)) rfl ?_) | (refine WL.k_bin .add ?_; refine WL.step (Yl.add64 rfl rfl (by omega)) rfl ?_) | refine WL.nil ?_ | refine WN.then_normal ?_ | refine WC.ret ?_))
        exact WN.ret1 rfl rfl ⟨congrArg (Value.int .i64) (by omega), rfl⟩ .nil
      · (repeat (first | refine WL.step (Yl.move rfl) rfl ?_ | refine WC.seq ?_ | refine WC.region ?_ | refine WN.then_normal ?_ | refine WC.skip ?_))
        have l8 : Big.len xa ≤ 8 := Big.len_le.2 (by omega)
        (repeat (first | refine WL.step (Yl.assign rfl) rfl ?_ | (refine WL.k_conv ?_; first | refine WL.step (Yl.convLt (s := 49) (t := 5) Tryz.underlying49 Tryz.underlying5 rfl rfl (by show _ < 256; omega)) rfl ?_ | refine WL.step (Yl.conv64 (s := 5) (t := 3) Tryz.underlying5 Tryz.underlying3 rfl (by omega)) rfl ?_) | (refine WL.k_index ?_; refine WL.step (Yl.indexStrF (f := Big.len) (b := 256) Tryz.underlying9 rfl rfl (by decide +kernel) (by omega)) rfl ?_) | (refine WL.k_bin .add ?_; refine WL.step (Yl.add64 rfl rfl (by omega)) rfl ?_) | refine WL.nil ?_ | refine WN.then_normal ?_ | refine WC.ret ?_))
        exact WN.ret1 rfl rfl ⟨congrArg (Value.int .i64) (by omega), rfl⟩ .nil
  · (repeat (first | refine WL.step (Yl.move rfl) rfl ?_ | refine WL.step (Yl.geq rfl rfl) rfl ?_ | refine WC.seq ?_ | refine WC.region ?_ | refine WL.nil ?_ | refine WN.then_normal ?_ | refine WC.skip ?_))
    refine WC.ite rfl (fun h2 => ?_) (fun h2 => ?_)
    · have s2 := Big.len_shift (n := x) (k := 16) (by omega)
      have e2 : x >>> 16 = x / 2 ^ 16 := Nat.shiftRight_eq_div_pow x 16
      (repeat (first | refine WL.step (Yl.move rfl) rfl ?_ | refine WL.step (Yl.assign rfl) rfl ?_ | (refine WL.k_bin .shr ?_; refine WL.step (Yl.shrC rfl (by decide)) rfl ?_) | refine WL.step (Yl.geq rfl rfl) rfl ?_ | (refine WL.k_bin .add ?_; refine WL.step (Yl.add64 rfl rfl (by omega)) rfl ?_) | refine WC.seq ?_ | refine WC.region ?_ | refine WL.nil ?_ | refine WN.then_normal ?_))
      rw [e2]
      generalize hy2 : x / 2 ^ 16 = xb at *
      have hz2 : xb < 65536 := by rw [← hy2]; omega
      refine WC.ite rfl (fun h3 => ?_) (fun h3 => ?_)
      · have s3 := Big.len_shift (n := xb) (k := 8) (by omega)
        have e3 : xb >>> 8 = xb / 2 ^ 8 := Nat.shiftRight_eq_div_pow xb 8
        (repeat (first | refine WL.step (Yl.move rfl) rfl ?_ | refine WL.step (Yl.assign rfl) rfl ?_ | (refine WL.k_bin .shr ?_; refine WL.step (Yl.shrC rfl (by decide)) rfl ?_) | (refine WL.k_bin .add ?_; refine WL.step (Yl.add64 rfl rfl (by omega)) rfl ?_) | refine WC.seq ?_ | refine WC.region ?_ | refine WL.nil ?_ | refine WN.then_normal ?_))
        rw [e3]
        generalize hy3 : xb / 2 ^ 8 = xbc at *
        have hz3 : xbc < 256 := by rw [← hy3]; omega
        have l8 : Big.len xbc ≤ 8 := Big.len_le.2 (by omega)
        (repeat (first | refine WL.step (Yl.assign rfl) rfl ?_ | (refine WL.k_conv ?_; first | refine WL.step (Yl.convLt (s := 49) (t := 5) Tryz.underlying49 Tryz.underlying5 rfl rfl (by show _ < 256; omega)) rfl ?_ | refine WL.step (Yl.conv64 (s := 5) (t := 3) Tryz.underlying5 Tryz.underlying3 rfl (by omega)) rfl ?_) | (refine WL.k_index ?_; refine WL.step (Yl.indexStrF (f := Big.len) (b := 256) Tryz.underlying9 rfl rfl (by decide +kernel) (by omega)) rfl ?_) | (refine WL.k_bin .add ?_; refine WL.step (Yl.add64 rfl rfl (by omega)) rfl ?_) | refine WL.nil ?_ | refine WN.then_normal ?_ | refine WC.ret ?_))
        exact WN.ret1 rfl rfl ⟨congrArg (Value.int .i64) (by omega), rfl⟩ .nil
      · (repeat (first | refine WL.step (Yl.move rfl) rfl ?_ | refine WC.seq ?_ | refine WC.region ?_ | refine WN.then_normal ?_ | refine WC.skip ?_))
        have l8 : Big.len xb ≤ 8 := Big.len_le.2 (by omega)
        (repeat (first | refine WL.step (Yl.assign rfl) rfl ?_ | (refine WL.k_conv ?_; first | refine WL.step (Yl.convLt (s := 49) (t := 5) Tryz.underlying49 Tryz.underlying5 rfl rfl (by show _ < 256; omega)) rfl ?_ | refine WL.step (Yl.conv64 (s := 5) (t := 3) Tryz.underlying5 Tryz.underlying3 rfl (by omega)) rfl ?_) | (refine WL.k_index ?_; refine WL.step (Yl.indexStrF (f := Big.len) (b := 256) Tryz.underlying9 rfl rfl (by decide +kernel) (by omega)) rfl ?_) | (refine WL.k_bin .add ?_; refine WL.step (Yl.add64 rfl rfl (by omega)) rfl ?_) | refine WL.nil ?_ | refine WN.then_normal ?_ | refine WC.ret ?_))
        exact WN.ret1 rfl rfl ⟨congrArg (Value.int .i64) (by omega), rfl⟩ .nil
    · (repeat (first | refine WL.step (Yl.move rfl) rfl ?_ | refine WL.step (Yl.geq rfl rfl) rfl ?_ | refine WC.seq ?_ | refine WC.region ?_ | refine WL.nil ?_ | refine WN.then_normal ?_ | refine WC.skip ?_))
      refine WC.ite rfl (fun h3 => ?_) (fun h3 => ?_)
      · have s3 := Big.len_shift (n := x) (k := 8) (by omega)
        have e3 : x >>> 8 = x / 2 ^ 8 := Nat.shiftRight_eq_div_pow x 8
        (repeat (first | refine WL.step (Yl.move rfl) rfl ?_ | refine WL.step (Yl.assign rfl) rfl ?_ | (refine WL.k_bin .shr ?_; refine WL.step (Yl.shrC rfl (by decide)) rfl ?_) | (refine WL.k_bin .add ?_; refine WL.step (Yl.add64 rfl rfl (by omega)) rfl ?_) | refine WC.seq ?_ | refine WC.region ?_ | refine WL.nil ?_ | refine WN.then_normal ?_))
        rw [e3]
        generalize hy3 : x / 2 ^ 8 = xc at *
        have hz3 : xc < 256 := by rw [← hy3]; omega
        have l8 : Big.len xc ≤ 8 := Big.len_le.2 (by omega)
        (repeat (first | refine WL.step (Yl.assign rfl) rfl ?_ | (refine WL.k_conv ?_; first | refine WL.step (Yl.convLt (s := 49) (t := 5) Tryz.underlying49 Tryz.underlying5 rfl rfl (by show _ < 256; omega)) rfl ?_ | refine WL.step (Yl.conv64 (s := 5) (t := 3) Tryz.underlying5 Tryz.underlying3 rfl (by omega)) rfl ?_) | (refine WL.k_index ?_; refine WL.step (Yl.indexStrF (f := Big.len) (b := 256) Tryz.underlying9 rfl rfl (by decide +kernel) (by omega)) rfl ?_) | (refine WL.k_bin .add ?_; refine WL.step (Yl.add64 rfl rfl (by omega)) rfl ?_) | refine WL.nil ?_ | refine WN.then_normal ?_ | refine WC.ret ?_))
        exact WN.ret1 rfl rfl ⟨congrArg (Value.int .i64) (by omega), rfl⟩ .nil
      · (repeat (first | refine WL.step (Yl.move rfl) rfl ?_ | refine WC.seq ?_ | refine WC.region ?_ | refine WN.then_normal ?_ | refine WC.skip ?_))
        have l8 : Big.len x ≤ 8 := Big.len_le.2 (by omega)
        (repeat (first | refine WL.step (Yl.assign rfl) rfl ?_ | (refine WL.k_conv ?_; first | refine WL.step (Yl.convLt (s := 49) (t := 5) Tryz.underlying49 Tryz.underlying5 rfl rfl (by show _ < 256; omega)) rfl ?_ | refine WL.step (Yl.conv64 (s := 5) (t := 3) Tryz.underlying5 Tryz.underlying3 rfl (by omega)) rfl ?_) | (refine WL.k_index ?_; refine WL.step (Yl.indexStrF (f := Big.len) (b := 256) Tryz.underlying9 rfl rfl (by decide +kernel) (by omega)) rfl ?_) | (refine WL.k_bin .add ?_; refine WL.step (Yl.add64 rfl rfl (by omega)) rfl ?_) | refine WL.nil ?_ | refine WN.then_normal ?_ | refine WC.ret ?_))
        exact WN.ret1 rfl rfl ⟨congrArg (Value.int .i64) (by omega), rfl⟩ .nil
theorem bgvalid_c (x : Int) (w : World) : Calls Tryz.prog 184 #[.int .i64 x] w (Gives (Val (.bool (decide (¬ (x < 1 ∨ 8 < x))))) w) := by
  refine enter (args := [_]) Tryz.func184 Tryz.ntmps184 rfl rfl ?_
  by_cases h1 : x < 1
  · (repeat (first | refine WL.pass rfl rfl rfl rfl ?_ | refine WL.step (Yl.move rfl) rfl ?_ | refine WL.step (Yl.assign rfl) rfl ?_ | refine WL.step (Yl.pick_f rfl rfl rfl) rfl ?_ | (refine WL.k_bin .geq ?_; refine WL.step (Yl.geqF rfl rfl (by omega)) rfl ?_) | refine WC.seq ?_ | refine WC.region ?_ | refine WL.nil ?_ | refine WN.then_normal ?_ | refine WC.ret ?_))
    exact WN.ret1 rfl rfl ⟨by rw [decide_eq_false (by omega)], rfl⟩ .nil
  · by_cases h2 : 8 < x
    · (repeat (first | refine WL.want rfl rfl rfl ?_ | refine WL.step (Yl.move rfl) rfl ?_ | refine WL.step (Yl.assign rfl) rfl ?_ | refine WL.step (Yl.pick_t rfl rfl rfl) rfl ?_ | (refine WL.k_bin .geq ?_; refine WL.step (Yl.geqT rfl rfl (by omega)) rfl ?_) | (refine WL.k_bin .leq ?_; refine WL.step (Yl.leqF rfl rfl (by omega)) rfl ?_) | refine WC.seq ?_ | refine WC.region ?_ | refine WL.nil ?_ | refine WN.then_normal ?_ | refine WC.ret ?_))
      exact WN.ret1 rfl rfl ⟨by rw [decide_eq_false (by omega)], rfl⟩ .nil
    · (repeat (first | refine WL.want rfl rfl rfl ?_ | refine WL.step (Yl.move rfl) rfl ?_ | refine WL.step (Yl.assign rfl) rfl ?_ | refine WL.step (Yl.pick_t rfl rfl rfl) rfl ?_ | (refine WL.k_bin .geq ?_; refine WL.step (Yl.geqT rfl rfl (by omega)) rfl ?_) | (refine WL.k_bin .leq ?_; refine WL.step (Yl.leqT rfl rfl (by omega)) rfl ?_) | refine WC.seq ?_ | refine WC.region ?_ | refine WL.nil ?_ | refine WN.then_normal ?_ | refine WC.ret ?_))
      exact WN.ret1 rfl rfl ⟨by rw [decide_eq_true (by omega)], rfl⟩ .nil
def Appended (l : List UInt8) (x : Nat) (wd : Int) : Value → List HA → Prop :=
  NewRow (fun s => .tuple #[s, .int .i64 ((Big.appended l x wd).1 : Nat)]) 5 1 (Big.appended l x wd).2.length (bs (Big.appended l x wd).2)
theorem bvof (m : Nat) : Value.int .u8 ((m % 2 ^ IntKind.u8.bits : Nat) : Int) = bv (UInt8.ofNat m) := by
  simp only [bv, UInt8.toNat_ofNat']; rfl
theorem flat1 (c : UInt8) : flat [bv c] = bs [c] := rfl
theorem append_c (a : Option Addr) (n cap : Nat) (l : List UInt8) (x : Nat) (wd : Int) (w : World) (hl : l.length = n) (hn : n ≤ 140737488355000) (hx : x < 18446744073709551616) (hr : CellsAt w a (bs l)) :
    Calls Tryz.prog 146 #[.slice a n cap, .int .u64 (x : Int), .int .i64 wd] w (Gives (Appended l x wd) w) := by
  refine enter (args := [_, _, _]) Tryz.func146 Tryz.ntmps146 rfl rfl ?_
  by_cases hbad : wd < 1 ∨ 8 < wd
  · have e : Big.appended l x wd = (2, []) := if_pos hbad
    (repeat (first | refine WL.step (Yl.move rfl) rfl ?_ | refine WL.step (Yl.assign rfl) rfl ?_ | (refine WL.k_call 184 ?_; refine WL.callV (g := 184) (v := .bool false) Tryz.call184 rfl (fun w _ => by have := bgvalid_c wd w; rwa [decide_eq_false (fun h => h hbad)] at this) rfl ?_) | refine WL.step (Yl.not rfl) rfl ?_ | refine WC.seq ?_ | refine WC.region ?_ | refine WL.nil ?_ | refine WN.then_normal ?_ | refine WC.block ?_))
    refine WC.cond_true rfl rfl ?_
    (repeat (first | refine WL.step (Yl.assign rfl) rfl ?_ | refine WC.seq ?_ | refine WC.region ?_ | refine WL.nil ?_ | refine WN.then_normal ?_ | refine WC.ret ?_ | refine WN.then_ret ?_ | refine WN.block_ret ?_))
    exact WN.ret2 rfl rfl rfl ⟨none, 0, by rw [e]; exact Nat.le_refl _, by rw [e]; rfl, by rw [e]; rfl⟩ (.free .nil)
  · obtain ⟨W, rfl⟩ : ∃ W : Nat, wd = (W : Int) := ⟨wd.toNat, by omega⟩
    have hW : 1 ≤ W ∧ W ≤ 8 := by omega
    (repeat (first | refine WL.step (Yl.move rfl) rfl ?_ | refine WL.step (Yl.assign rfl) rfl ?_ | (refine WL.k_call 184 ?_; refine WL.callV (g := 184) (v := .bool true) Tryz.call184 rfl (fun w _ => by have := bgvalid_c (W : Int) w; rwa [decide_eq_true hbad] at this) rfl ?_) | refine WL.step (Yl.not rfl) rfl ?_ | refine WC.seq ?_ | refine WC.region ?_ | refine WL.nil ?_ | refine WN.then_normal ?_ | refine WC.block ?_))
    refine WC.cond_false rfl rfl ?_
    by_cases hov : 2 ^ (8 * W) ≤ x
    · have e : Big.appended l x (W : Int) = (14, []) := by unfold Big.appended; rw [if_neg hbad, Int.toNat_natCast, if_pos hov]
      have hlen : 8 * W < Big.len x := Nat.lt_of_not_le fun h => by have := Big.len_le.1 h; omega
      (repeat (first | refine WL.step (Yl.move rfl) rfl ?_ | refine WL.step (Yl.assign rfl) rfl ?_ | refine WL.callV (g := 143) Tryz.call143 rfl (fun w _ => len64_c x w hx) rfl ?_ | (refine WL.k_bin .gtr ?_; refine WL.step (Yl.gtrT rfl rfl (by omega)) rfl ?_) | (refine WL.k_bin .mul ?_; refine WL.step (Yl.mulC64 rfl (by omega)) rfl ?_) | refine WC.seq ?_ | refine WC.region ?_ | refine WL.nil ?_ | refine WN.then_normal ?_))
      refine WC.cond_true rfl rfl ?_
      (repeat (first | refine WL.step (Yl.assign rfl) rfl ?_ | refine WC.seq ?_ | refine WC.region ?_ | refine WL.nil ?_ | refine WN.then_normal ?_ | refine WC.ret ?_ | refine WN.then_ret ?_ | refine WN.block_ret ?_))
      exact WN.ret2 rfl rfl rfl ⟨none, 0, by rw [e]; exact Nat.le_refl _, by rw [e]; rfl, by rw [e]; rfl⟩ (.free .nil)
    · have e : Big.appended l x (W : Int) = (0, l ++ Big.be W x) := by unfold Big.appended; rw [if_neg hbad, Int.toNat_natCast, if_neg hov]
      have hlen : Big.len x ≤ 8 * W := Big.len_le.2 (by omega)
      (repeat (first | refine WL.step (Yl.move rfl) rfl ?_ | refine WL.step (Yl.assign rfl) rfl ?_ | refine WL.callV (g := 143) Tryz.call143 rfl (fun w _ => len64_c x w hx) rfl ?_ | (refine WL.k_bin .gtr ?_; refine WL.step (Yl.gtrF rfl rfl (by omega)) rfl ?_) | (refine WL.k_bin .mul ?_; refine WL.step (Yl.mulC64 rfl (by omega)) rfl ?_) | refine WC.seq ?_ | refine WC.region ?_ | refine WL.nil ?_ | refine WN.then_normal ?_))
      refine WC.cond_false rfl rfl ?_
      (repeat (first | refine WL.step (Yl.move rfl) rfl ?_ | refine WC.seq ?_ | refine WC.region ?_ | refine WN.then_normal ?_ | refine WC.skip ?_ | refine WN.block_normal ?_))
      refine WL.callR (g := 185) Tryz.call185 rfl (fun w s => clone_c _ _ _ l w hl (by omega) (Rd.old hr w s)) rfl fun p hp => ?_
      (repeat (first | refine WL.step (Yl.move rfl) rfl ?_ | refine WL.step (Yl.assign rfl) rfl ?_ | refine WC.seq ?_ | refine WC.region ?_ | refine WL.nil ?_ | refine WN.then_normal ?_ | refine WC.block ?_))
      have hbl := Big.be_length W x
      refine WC.loop (α := Nat × Option Addr × Nat) (fun g => [(1, .int .u64 (x : Int)), (2, .int .i64 (W : Int)), (8, .slice g.2.1 (n + g.1) g.2.2), (22, .int .i64 (W : Int)), (23, .int .i64 (g.1 : Int))])
        (fun g => [.row g.2.1 g.2.2 5 1 (bs (l ++ (Big.be W x).take g.1))]) (fun g => g.1 ≤ W ∧ n + g.1 ≤ g.2.2) (fun g => W - g.1) (0, p.1, p.2) (by simpa using zS) (by simpa using Part.cons .here .nil) ⟨by simp, by simpa using hp⟩ ?_
      intro ⟨i, p, q⟩ ⟨hi, hq⟩
      simp only at hi hq ⊢
      (repeat (first | refine WL.step (Yl.lss rfl rfl) rfl ?_ | refine WC.seq ?_ | refine WC.region ?_ | refine WL.nil ?_ | refine WN.then_normal ?_))
      refine WC.ite rfl (fun h1 => ?_) (fun h1 => ?_)
      · (repeat (first | refine WL.step (Yl.move rfl) rfl ?_ | refine WL.step (Yl.assign rfl) rfl ?_ | (refine WL.k_bin .shr ?_; refine WL.step (Yl.shrN rfl rfl (by show _ ≤ 64; omega)) rfl ?_) | refine WL.step (Yl.convN (s := 49) (t := 5) Tryz.underlying49 Tryz.underlying5 rfl rfl) rfl ?_ | (refine WL.k_bin .sub ?_; first | refine WL.step (Yl.sub64C rfl (by omega) (by omega)) rfl ?_ | refine WL.step (Yl.sub64N rfl rfl (by omega) (by omega)) rfl ?_) | (refine WL.k_bin .mul ?_; refine WL.step (Yl.mulC64 rfl (by omega)) rfl ?_) | refine WC.seq ?_ | refine WC.region ?_ | refine WL.nil ?_ | refine WN.then_normal ?_ | refine WC.block ?_ | refine WC.skip ?_))
        rw [bvof]
        refine WL.lit (t := 23) Tryz.underlying23 elemU8 rfl rfl rfl (by simp [bv, Value.cells]) rfl fun b => ?_
        refine WL.appendRow (t := 23) Tryz.underlying23 elemU8 rfl rfl (.there .here) (by rw [bs_length]; simp; omega) hq (Rd.row (.head _)) rfl (bs_one [_]) (by omega) (by simp only [maxLen]; omega) rfl fun p2 hp2 => ?_
        have hnew : bs (l ++ (Big.be W x).take i) ++ flat [bv (UInt8.ofNat (x / 2 ^ (8 * (W - 1 - i))))] = bs (l ++ (Big.be W x).take (i + 1)) := by
          rw [flat1, ← bs_append, List.append_assoc, take_snoc _ 0 (by omega), Big.be_get _ _ _ (by omega), Big.pow256]
        rw [hnew]
        (repeat (first | refine WL.step (Yl.move rfl) rfl ?_ | refine WL.step (Yl.assign rfl) rfl ?_ | (refine WL.k_bin .add ?_; refine WL.step (Yl.add64C rfl (by omega)) rfl ?_) | refine WC.region ?_ | refine WL.nil ?_ | refine WN.then_normal ?_ | refine WN.block_normal ?_))
        exact WN.next (i + 1, p2.1, p2.2) ⟨by simp only; omega, by simp only; omega⟩ (by simp only; omega) zS (.cons .here .nil)
      · obtain rfl : i = W := by omega
        (repeat (first | refine WL.step (Yl.move rfl) rfl ?_ | refine WL.step (Yl.assign rfl) rfl ?_ | refine WC.seq ?_ | refine WC.region ?_ | refine WL.nil ?_ | refine WN.then_normal ?_ | refine WC.exit ?_ | refine WC.ret ?_ | refine WN.then_exit ?_ | refine WN.block_here ?_))
        exact WN.ret2 rfl rfl rfl ⟨p, q, by rw [e]; simp; omega, by rw [e]; simp [hl, hbl], by rw [e, List.take_of_length_le (by omega)]⟩ (.cons .here .nil)
end Go.Proofs.YtbkdjfgkebkknaaGreatDoor
