/- The plain arithmetic of integers as bytes, most significant first: numbers and lists alone, no Go in it. -/
import Derived.KernelRfl
namespace Go.Proofs.Ytbfhdggfdhlkfaa.Big
set_option linter.unusedVariables false
set_option linter.unusedSimpArgs false

/-- How many bits a number has. -/
def len (n : Nat) : Nat := if n = 0 then 0 else Nat.log2 n + 1
theorem len_le {n k : Nat} : len n ≤ k ↔ n < 2 ^ k := by
  unfold len
  split
  · rename_i h; subst h; simp [Nat.two_pow_pos]
  · rename_i h; rw [Nat.succ_le_iff, Nat.log2_lt h]
theorem len_shift {n k : Nat} (h : 2 ^ k ≤ n) : len n = len (n / 2 ^ k) + k := by
  have key : ∀ j, len n ≤ j ↔ len (n / 2 ^ k) + k ≤ j := fun j => by
    rw [len_le]
    by_cases hj : k ≤ j
    · rw [show len (n / 2 ^ k) + k ≤ j ↔ len (n / 2 ^ k) ≤ j - k by omega, len_le, Nat.div_lt_iff_lt_mul (Nat.two_pow_pos k), ← Nat.pow_add, show j - k + k = j by omega]
    · have := Nat.pow_le_pow_right (n := 2) (by decide) (show j ≤ k by omega)
      constructor
      · intro h1; omega
      · intro h1; omega
  have h1 := (key (len n)).1 (Nat.le_refl _)
  have h2 := (key (len (n / 2 ^ k) + k)).2 (Nat.le_refl _)
  omega

/-- A number in k bytes. -/
def be : Nat → Nat → List UInt8
  | 0, _ => []
  | k + 1, n => UInt8.ofNat (n / 256 ^ k) :: be k n
theorem be_length (k n : Nat) : (be k n).length = k := by
  induction k with
  | zero => rfl
  | succ k ih => simp [be, ih]
theorem be_get (k n i : Nat) (h : i < k) : (be k n).getD i 0 = UInt8.ofNat (n / 256 ^ (k - 1 - i)) := by
  induction k generalizing i with
  | zero => omega
  | succ k ih =>
    cases i with
    | zero => simp [be]
    | succ i =>
      simp only [be, List.getD_cons_succ]
      rw [ih i (by omega)]
      congr 3
      omega
/-- What is appended, and the error number. -/
def appended (l : List UInt8) (n : Nat) (width : Int) : Nat × List UInt8 :=
  if width < 1 ∨ 8 < width then (2, []) else if 2 ^ (8 * width.toNat) ≤ n then (14, []) else (0, l ++ be width.toNat n)
def val (x : Nat) (l : List UInt8) : Nat := l.foldl (fun n c => n * 256 + c.toNat) x
def uintAt (l : List UInt8) (at_ width : Int) : Nat × Nat :=
  if width < 1 ∨ 8 < width then (2, 0) else if at_ < 0 then (3, 0) else if (l.length : Int) - width < at_ then (13, 0) else (0, val 0 ((l.drop at_.toNat).take width.toNat))
theorem val_snoc (x : Nat) (l : List UInt8) (c : UInt8) : val x (l ++ [c]) = val x l * 256 + c.toNat := by simp [val]
theorem val_lt (l : List UInt8) : val 0 l < 256 ^ l.length := by
  have : ∀ (x k : Nat), x < 256 ^ k → val x l < 256 ^ (k + l.length) := by
    induction l with
    | nil => intro x k h; simpa [val] using h
    | cons c l ih =>
      intro x k h
      have hc := c.toNat_lt
      have h1 : x * 256 + c.toNat < 256 ^ (k + 1) := by rw [Nat.pow_succ]; omega
      have := ih _ _ h1
      simp only [val, List.foldl_cons, List.length_cons] at this ⊢
      rwa [show k + (l.length + 1) = k + 1 + l.length by omega]
  simpa using this 0 0 (by decide)
theorem or_low {n c k : Nat} (hc : c < 2 ^ k) : (n * 2 ^ k) ||| c = n * 2 ^ k + c := by
  have := Nat.two_pow_add_eq_or_of_lt hc n
  rw [Nat.mul_comm] at this
  exact this.symm

/-! ### Groups -/
def gsz (n : Nat) : Nat := max 1 ((len n + 6) / 7)
def dig (k n : Nat) : UInt8 := UInt8.ofNat (n / 128 ^ k % 128 + if k = 0 then 0 else 128)
def gr : Nat → Nat → List UInt8
  | 0, _ => []
  | k + 1, n => dig k n :: gr k n
def enc (n : Nat) : List UInt8 := gr (gsz n) n
theorem gr_length (k n : Nat) : (gr k n).length = k := by
  induction k with
  | zero => rfl
  | succ k ih => simp [gr, ih]
theorem gr_get (k n i : Nat) (h : i < k) : (gr k n).getD i 0 = dig (k - 1 - i) n := by
  induction k generalizing i with
  | zero => omega
  | succ k ih =>
    cases i with
    | zero => simp [gr]
    | succ i =>
      simp only [gr, List.getD_cons_succ]
      rw [ih i (by omega)]
      congr 1
      omega
theorem pow128 (k : Nat) : 128 ^ k = 2 ^ (7 * k) := by rw [show (128 : Nat) = 2 ^ 7 from rfl, ← Nat.pow_mul]
theorem pow256 (k : Nat) : 256 ^ k = 2 ^ (8 * k) := by rw [show (256 : Nat) = 2 ^ 8 from rfl, ← Nat.pow_mul]
/-- The loop of the reference ends at this size. -/
theorem gsz_of {n j : Nat} (hj : 1 ≤ j) (h : n / 128 ^ j = 0) (h2 : j = 1 ∨ n / 128 ^ (j - 1) ≠ 0) : gsz n = j := by
  have hp : ∀ k, 0 < 128 ^ k := fun k => Nat.pow_pos (by decide)
  have h1 : len n ≤ 7 * j := by
    rw [len_le, ← pow128]
    exact (Nat.div_eq_zero_iff_lt (hp j)).1 h
  have h3 : j = 1 ∨ 7 * (j - 1) < len n := by
    rcases h2 with h2 | h2
    · exact .inl h2
    · refine .inr (Nat.lt_of_not_le fun hle => ?_)
      rw [len_le, ← pow128] at hle
      exact h2 (Nat.div_eq_of_lt hle)
  unfold gsz
  omega
theorem gsz_pos (n : Nat) : 1 ≤ gsz n := by unfold gsz; omega
theorem gsz_le {n : Nat} (h : n < 18446744073709551616) : gsz n ≤ 10 := by
  have : len n ≤ 64 := len_le.2 h
  unfold gsz; omega

/-! ### Reading groups -/
def vstep (s : Nat × Bool) (c : UInt8) : Nat × Bool := ((s.1 * 128 + c.toNat % 128) % 18446744073709551616, s.2 || decide (144115188075855872 ≤ s.1))
def vst (l : List UInt8) : Nat × Bool := l.foldl vstep (0, false)
theorem vst_snoc (l : List UInt8) (c : UInt8) : vst (l ++ [c]) = vstep (vst l) c := by simp [vst]
theorem vst_lt (l : List UInt8) : (vst l).1 < 18446744073709551616 := by
  rcases List.eq_nil_or_concat l with rfl | ⟨m, c, rfl⟩
  · decide
  · rw [List.concat_eq_append, vst_snoc]; exact Nat.mod_lt _ (by decide)
/-- How many bytes in front are 128 or more. -/
def vlen : List UInt8 → Nat
  | [] => 0
  | c :: l => if c.toNat < 128 then 0 else vlen l + 1
theorem vlen_le (l : List UInt8) : vlen l ≤ l.length := by
  induction l with
  | nil => exact Nat.le_refl _
  | cons c l ih => simp only [vlen, List.length_cons]; split <;> omega
theorem vlen_at (l : List UInt8) : ∀ {i : Nat}, i ≤ vlen l → i < l.length → ((l.getD i 0).toNat < 128 → vlen l = i) ∧ (¬ (l.getD i 0).toNat < 128 → i + 1 ≤ vlen l) := by
  induction l with
  | nil => intro i _ h; simp at h
  | cons c l ih =>
    intro i hi hl
    simp only [vlen] at hi ⊢
    cases i with
    | zero => simp only [List.getD_cons_zero]; split <;> constructor <;> intro h <;> omega
    | succ i =>
      split at hi
      · omega
      · rename_i hc
        simp only [List.getD_cons_succ, if_neg hc]
        have := ih (i := i) (by omega) (by simpa using hl)
        constructor
        · intro h; have := this.1 h; omega
        · intro h; have := this.2 h; omega
/-- What is read: the number, the offset behind it, an error number. -/
def varAt (l : List UInt8) (at_ : Int) : Nat × Nat × Nat :=
  if at_ < 0 then (0, 0, 3) else
  if (l.drop at_.toNat).length ≤ vlen (l.drop at_.toNat) then (0, 0, 13) else
  if ((l.drop at_.toNat).getD 0 0).toNat = 128 then (0, 0, 8) else
  if (vst ((l.drop at_.toNat).take (vlen (l.drop at_.toNat) + 1))).2 then (0, 0, 14) else
  ((vst ((l.drop at_.toNat).take (vlen (l.drop at_.toNat) + 1))).1, at_.toNat + vlen (l.drop at_.toNat) + 1, 0)
theorem vst_over (l : List UInt8) (i j : Nat) (h : i ≤ j) (ho : (vst (l.take i)).2 = true) : (vst (l.take j)).2 = true := by
  have key : ∀ (m : List UInt8) (s : Nat × Bool), s.2 = true → (m.foldl vstep s).2 = true := by
    intro m
    induction m with
    | nil => intro s h; exact h
    | cons c m ih => intro s h; exact ih _ (by simp [vstep, h])
  have e : l.take j = l.take i ++ (l.take j).drop i := by
    have := (List.take_append_drop i (l.take j)).symm
    rwa [List.take_take, Nat.min_eq_left h] at this
  rw [e]
  unfold vst at ho ⊢
  rw [List.foldl_append]
  exact key _ _ ho

/-! ### The order of byte strings -/
def cmpL : List UInt8 → List UInt8 → Int
  | [], [] => 0
  | [], _ :: _ => -1
  | _ :: _, [] => 1
  | a :: l, b :: m => if a.toNat < b.toNat then -1 else if b.toNat < a.toNat then 1 else cmpL l m
theorem cmpL_drop (l m : List UInt8) : ∀ (i : Nat), i < l.length → i < m.length → cmpL (l.drop i) (m.drop i) =
    if (l.getD i 0).toNat < (m.getD i 0).toNat then -1 else if (m.getD i 0).toNat < (l.getD i 0).toNat then 1 else cmpL (l.drop (i + 1)) (m.drop (i + 1)) := by
  intro i h1 h2
  rw [List.drop_eq_getElem_cons h1, List.drop_eq_getElem_cons h2]
  simp only [cmpL, List.getD_eq_getElem?_getD, List.getElem?_eq_getElem h1, List.getElem?_eq_getElem h2, Option.getD_some]
theorem cmpL_nil_l {l m : List UInt8} (h1 : l.length = 0) (h2 : m.length ≠ 0) : cmpL l m = -1 := by
  match l, m with
  | [], [] => simp at h2
  | [], _ :: _ => rfl
  | _ :: _, _ => simp at h1
theorem cmpL_nil_r {l m : List UInt8} (h1 : l.length ≠ 0) (h2 : m.length = 0) : cmpL l m = 1 := by
  match l, m with
  | [], _ => simp at h1
  | _ :: _, [] => rfl
  | _ :: _, _ :: _ => simp at h2
theorem cmpL_nil {l m : List UInt8} (h1 : l.length = 0) (h2 : m.length = 0) : cmpL l m = 0 := by
  match l, m with
  | [], [] => rfl
  | _ :: _, _ => simp at h1
  | _, _ :: _ => simp at h2
end Go.Proofs.Ytbfhdggfdhlkfaa.Big
