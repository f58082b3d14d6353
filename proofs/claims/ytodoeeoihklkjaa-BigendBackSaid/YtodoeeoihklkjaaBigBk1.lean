/- Numbers that were appended one after the other: plain laws, and what the walk needs beside. -/
import Derived.Test.YtodoeeoihklkjaaBigRef
import Derived.Test.YtodoeeoihklkjaaBigTot
import Derived.Test.YtodoeeoihklkjaaBigRt
import Derived.Test.YtodoeeoihklkjaaRow
namespace Go.Proofs.Ytodoeeoihklkjaa
open Go Go.RowKit
namespace Big
theorem val_be (k x : Nat) (h : x < 256 ^ k) : val 0 (be k x) = x := by
  have key : ∀ (k y x : Nat), val y (be k x) = y * 256 ^ k + x % 256 ^ k := by
    intro k
    induction k with
    | zero => intro y x; simp [val, be, Nat.mod_one]
    | succ k ih =>
      intro y x
      have hp : 0 < 256 ^ k := Nat.pow_pos (by decide)
      have h1 : val y (be (k + 1) x) = val (y * 256 + (UInt8.ofNat (x / 256 ^ k)).toNat) (be k x) := rfl
      rw [h1, ih, UInt8.toNat_ofNat', show (256 : Nat) ^ (k + 1) = 256 ^ k * 256 from Nat.pow_succ .., Nat.mod_mul, show (2 : Nat) ^ 8 = 256 from rfl]
      rw [Nat.add_mul, Nat.mul_assoc, Nat.mul_comm 256 (256 ^ k), Nat.mul_comm (x / 256 ^ k % 256)]
      omega
  rw [key, Nat.mod_eq_of_lt h]; omega
theorem uint_be (p more : List UInt8) (k x : Nat) (hk : 1 ≤ k ∧ k ≤ 8) (hx : x < 2 ^ (8 * k)) : uintAt (p ++ be k x ++ more) (p.length : Int) (k : Int) = (0, x) := by
  have hb := be_length k x
  unfold uintAt
  rw [if_neg (by omega), if_neg (by omega), if_neg (by simp only [List.length_append, hb]; omega), Int.toNat_natCast, Int.toNat_natCast, List.append_assoc, List.drop_left, List.take_append_of_le_length (by omega), List.take_of_length_le (by omega), val_be _ _ (by rw [pow256]; exact hx)]
/-- The width that the statement takes. -/
def wid (x : Nat) : Nat := min 8 (1 + len x / 8)
theorem wid_fits {x : Nat} (hx : x < 18446744073709551616) : 1 ≤ wid x ∧ wid x ≤ 8 ∧ x < 2 ^ (8 * wid x) := by
  have h64 : len x ≤ 64 := len_le.2 hx
  refine ⟨by unfold wid; omega, by unfold wid; omega, len_le.1 ?_⟩
  unfold wid; omega
def bit (c i : Nat) : Prop := ((c / 2 ^ (i % 8) &&& 1 : Nat) : Int) = 1
instance (c i : Nat) : Decidable (bit c i) := by unfold bit; infer_instance
def part (c i x : Nat) : List UInt8 := if bit c i then enc x else be (wid x) x
def acc (l : List UInt8) (xs : List Nat) (c : Nat) : Nat → List UInt8
  | 0 => l
  | i + 1 => acc l xs c i ++ part c i (xs.getD i 0)
theorem acc_split (l : List UInt8) (xs : List Nat) (c i m : Nat) (h : i < m) : ∃ rest, acc l xs c m = acc l xs c i ++ part c i (xs.getD i 0) ++ rest := by
  induction m with
  | zero => omega
  | succ m ih =>
    by_cases hi : i = m
    · subst hi; exact ⟨[], by simp [acc]⟩
    · obtain ⟨r, hr⟩ := ih (by omega)
      exact ⟨r ++ part c m (xs.getD m 0), by rw [acc, hr, List.append_assoc]⟩
theorem part_length (c i x : Nat) (hx : x < 18446744073709551616) : (part c i x).length ≤ 10 := by
  unfold part
  split
  · rw [enc_length]; exact gsz_le hx
  · rw [be_length]; have := wid_fits hx; omega
theorem acc_length (l : List UInt8) (xs : List Nat) (c : Nat) (hx : ∀ x ∈ xs, x < 18446744073709551616) (i : Nat) : (acc l xs c i).length ≤ l.length + 10 * i := by
  induction i with
  | zero => simp [acc]
  | succ i ih =>
    have hxi : xs.getD i 0 < 18446744073709551616 := by
      rw [List.getD_eq_getElem?_getD]
      cases h : xs[i]? with
      | none => simp
      | some v => exact hx v (List.mem_of_getElem? h)
    have := part_length c i _ hxi
    simp only [acc, List.length_append]
    omega
end Big
def us (xs : List Nat) : List Value := xs.map fun (x : Nat) => .int .u64 (x : Int)
def is_ (xs : List Nat) : List Value := xs.map fun (x : Nat) => .int .i64 (x : Int)
theorem us_get {xs : List Nat} {i : Nat} (h : i < xs.length) : (us xs)[i]? = some (.int .u64 ((xs.getD i 0 : Nat) : Int)) := by simp [us, List.getD, h]
theorem is_get {xs : List Nat} {i : Nat} (h : i < xs.length) : (is_ xs)[i]? = some (.int .i64 ((xs.getD i 0 : Nat) : Int)) := by simp [is_, List.getD, h]
theorem Rd.more {X : Cx} {A : List HA} {x : HA} {a : Option Addr} {vs : List Value} (h : Rd X A a vs) : Rd X (x :: A) a vs := fun w s => h w s.tail
theorem Yl.and64 {X : Cx} {ρ : Env} {A : List HA} {ty : TypeId} {x : Operand} {t u : TypeId} {m : Nat} (hx : ev ρ x = some (.int .i64 (m : Int))) (hm : m < 9223372036854775808) :
    Yl X (.binOp .and t x (.const (.int .i64 1)) u) ty ρ A (.int .i64 ((m &&& 1 : Nat) : Int)) := Yl.intro fun o ho _ a w f _ => by
  have h1 : m &&& 1 ≤ 1 := Nat.and_le_right
  have e : (BitVec.ofInt IntKind.i64.bits (m : Int) &&& BitVec.ofInt IntKind.i64.bits ((1 : Nat) : Int)).toNat = m &&& 1 := by
    rw [BitVec.toNat_and, ofInt_nat (by show m < 18446744073709551616; omega), ofInt_nat (by decide)]
  have hy : a.eval (.const (.int .i64 1)) = .int .i64 ((1 : Nat) : Int) := rfl
  simp only [execOp, ho, f.ev hx, hy, eqGuard, binOp, Op.intBits, e, wrap64_fits (z := ((m &&& 1 : Nat) : Int)) (by omega) (by omega)]
  simp
set_option maxHeartbeats 4000000
attribute [local irreducible] WL WC WN Yl WH WQ WT
theorem bclone_c (a : Option Addr) (n cap : Nat) (l : List UInt8) (w : World) (hl : l.length = n) (hn : n ≤ 140737488355328) (hr : CellsAt w a (bs l)) :
    Calls Try.prog 29 #[.slice a n cap] w (Gives (NewRow id 5 1 n (bs l)) w) := by
  refine enter (args := [_]) Try.func29 Try.ntmps29 rfl rfl ?_
  cases a with
  | none =>
    obtain rfl := nil_of_none hr
    obtain rfl : n = 0 := hl.symm
    (repeat (first | refine WL.step (Yl.eqNil Try.underlying22 rfl) rfl ?_ | refine WC.seq ?_ | refine WC.region ?_ | refine WL.nil ?_ | refine WN.then_normal ?_ | refine WC.block ?_ | refine WC.skip ?_ | refine WC.exit ?_ | refine WC.ret ?_ | refine WN.then_exit ?_ | refine WN.then_ret ?_ | refine WN.block_normal ?_ | refine WN.block_ret ?_ | refine WN.block_here ?_ | refine WN.block_past (by decide) ?_ | refine WC.scope ?_ | refine WC.label ?_ | refine WN.scope_normal ?_ | refine WN.scope_ret ?_ | refine WN.scope_exit ?_ | refine WL.step (Yl.move rfl) rfl ?_ | refine WL.step (Yl.assign rfl) rfl ?_ | refine WL.step (Yl.extract rfl rfl) rfl ?_ | refine WL.step (Yl.pick_t rfl rfl rfl) rfl ?_ | refine WL.step (Yl.pick_f rfl rfl rfl) rfl ?_ | refine WL.step (Yl.len Try.underlying22 rfl) rfl ?_ | refine WL.step (Yl.eqNil Try.underlying22 rfl) rfl ?_ | refine WL.step (Yl.strEql rfl rfl) rfl ?_ | refine WL.step (Yl.strNeq rfl rfl) rfl ?_ | refine WL.step (Yl.lss rfl rfl) rfl ?_ | refine WL.step (Yl.leq rfl rfl) rfl ?_ | refine WL.step (Yl.gtr rfl rfl) rfl ?_ | refine WL.step (Yl.geq rfl rfl) rfl ?_ | refine WL.step (Yl.eql rfl rfl) rfl ?_ | refine WL.step (Yl.neq rfl rfl) rfl ?_ | refine WL.step (Yl.not rfl) rfl ?_ | refine WL.step (Yl.add64C rfl (by omega)) rfl ?_ | refine WL.step (Yl.addC64 rfl (by omega)) rfl ?_ | refine WL.step (Yl.add64N rfl rfl (by omega)) rfl ?_ | refine WL.step (Yl.sub64C rfl (by omega) (by omega)) rfl ?_ | refine WL.step (Yl.subC64 rfl (by omega) (by decide)) rfl ?_ | refine WL.step (Yl.sub64N rfl rfl (by omega) (by omega)) rfl ?_ | refine WL.step (Yl.mul64C rfl (by omega)) rfl ?_ | refine WL.step (Yl.mulC64 rfl (by omega)) rfl ?_ | refine WL.step (Yl.quo64C rfl (by omega) (by decide)) rfl ?_ | refine WL.step (Yl.remC rfl (by decide)) rfl ?_ | refine WL.step (Yl.add64 rfl rfl (by omega)) rfl ?_ | refine WL.step (Yl.sub64 rfl rfl (by omega)) rfl ?_ | refine WL.step (Yl.mul64 rfl rfl (by omega)) rfl ?_ | refine WL.pass rfl rfl rfl rfl ?_ | refine WL.want rfl rfl rfl ?_))
    refine WC.cond_true rfl rfl ?_
    (repeat (first | refine WC.seq ?_ | refine WC.region ?_ | refine WL.nil ?_ | refine WN.then_normal ?_ | refine WC.block ?_ | refine WC.skip ?_ | refine WC.exit ?_ | refine WC.ret ?_ | refine WN.then_exit ?_ | refine WN.then_ret ?_ | refine WN.block_normal ?_ | refine WN.block_ret ?_ | refine WN.block_here ?_ | refine WN.block_past (by decide) ?_ | refine WC.scope ?_ | refine WC.label ?_ | refine WN.scope_normal ?_ | refine WN.scope_ret ?_ | refine WN.scope_exit ?_ | refine WL.step (Yl.move rfl) rfl ?_ | refine WL.step (Yl.assign rfl) rfl ?_ | refine WL.step (Yl.extract rfl rfl) rfl ?_ | refine WL.step (Yl.pick_t rfl rfl rfl) rfl ?_ | refine WL.step (Yl.pick_f rfl rfl rfl) rfl ?_ | refine WL.step (Yl.len Try.underlying22 rfl) rfl ?_ | refine WL.step (Yl.eqNil Try.underlying22 rfl) rfl ?_ | refine WL.step (Yl.strEql rfl rfl) rfl ?_ | refine WL.step (Yl.strNeq rfl rfl) rfl ?_ | refine WL.step (Yl.lss rfl rfl) rfl ?_ | refine WL.step (Yl.leq rfl rfl) rfl ?_ | refine WL.step (Yl.gtr rfl rfl) rfl ?_ | refine WL.step (Yl.geq rfl rfl) rfl ?_ | refine WL.step (Yl.eql rfl rfl) rfl ?_ | refine WL.step (Yl.neq rfl rfl) rfl ?_ | refine WL.step (Yl.not rfl) rfl ?_ | refine WL.step (Yl.add64C rfl (by omega)) rfl ?_ | refine WL.step (Yl.addC64 rfl (by omega)) rfl ?_ | refine WL.step (Yl.add64N rfl rfl (by omega)) rfl ?_ | refine WL.step (Yl.sub64C rfl (by omega) (by omega)) rfl ?_ | refine WL.step (Yl.subC64 rfl (by omega) (by decide)) rfl ?_ | refine WL.step (Yl.sub64N rfl rfl (by omega) (by omega)) rfl ?_ | refine WL.step (Yl.mul64C rfl (by omega)) rfl ?_ | refine WL.step (Yl.mulC64 rfl (by omega)) rfl ?_ | refine WL.step (Yl.quo64C rfl (by omega) (by decide)) rfl ?_ | refine WL.step (Yl.remC rfl (by decide)) rfl ?_ | refine WL.step (Yl.add64 rfl rfl (by omega)) rfl ?_ | refine WL.step (Yl.sub64 rfl rfl (by omega)) rfl ?_ | refine WL.step (Yl.mul64 rfl rfl (by omega)) rfl ?_ | refine WL.pass rfl rfl rfl rfl ?_ | refine WL.want rfl rfl rfl ?_))
    exact WN.ret1 rfl rfl ⟨none, 0, by omega, rfl, rfl⟩ (.free .nil)
  | some ad =>
    (repeat (first | refine WL.step (Yl.eqNil Try.underlying22 rfl) rfl ?_ | refine WC.seq ?_ | refine WC.region ?_ | refine WL.nil ?_ | refine WN.then_normal ?_ | refine WC.block ?_ | refine WC.skip ?_ | refine WC.exit ?_ | refine WC.ret ?_ | refine WN.then_exit ?_ | refine WN.then_ret ?_ | refine WN.block_normal ?_ | refine WN.block_ret ?_ | refine WN.block_here ?_ | refine WN.block_past (by decide) ?_ | refine WC.scope ?_ | refine WC.label ?_ | refine WN.scope_normal ?_ | refine WN.scope_ret ?_ | refine WN.scope_exit ?_ | refine WL.step (Yl.move rfl) rfl ?_ | refine WL.step (Yl.assign rfl) rfl ?_ | refine WL.step (Yl.extract rfl rfl) rfl ?_ | refine WL.step (Yl.pick_t rfl rfl rfl) rfl ?_ | refine WL.step (Yl.pick_f rfl rfl rfl) rfl ?_ | refine WL.step (Yl.len Try.underlying22 rfl) rfl ?_ | refine WL.step (Yl.eqNil Try.underlying22 rfl) rfl ?_ | refine WL.step (Yl.strEql rfl rfl) rfl ?_ | refine WL.step (Yl.strNeq rfl rfl) rfl ?_ | refine WL.step (Yl.lss rfl rfl) rfl ?_ | refine WL.step (Yl.leq rfl rfl) rfl ?_ | refine WL.step (Yl.gtr rfl rfl) rfl ?_ | refine WL.step (Yl.geq rfl rfl) rfl ?_ | refine WL.step (Yl.eql rfl rfl) rfl ?_ | refine WL.step (Yl.neq rfl rfl) rfl ?_ | refine WL.step (Yl.not rfl) rfl ?_ | refine WL.step (Yl.add64C rfl (by omega)) rfl ?_ | refine WL.step (Yl.addC64 rfl (by omega)) rfl ?_ | refine WL.step (Yl.add64N rfl rfl (by omega)) rfl ?_ | refine WL.step (Yl.sub64C rfl (by omega) (by omega)) rfl ?_ | refine WL.step (Yl.subC64 rfl (by omega) (by decide)) rfl ?_ | refine WL.step (Yl.sub64N rfl rfl (by omega) (by omega)) rfl ?_ | refine WL.step (Yl.mul64C rfl (by omega)) rfl ?_ | refine WL.step (Yl.mulC64 rfl (by omega)) rfl ?_ | refine WL.step (Yl.quo64C rfl (by omega) (by decide)) rfl ?_ | refine WL.step (Yl.remC rfl (by decide)) rfl ?_ | refine WL.step (Yl.add64 rfl rfl (by omega)) rfl ?_ | refine WL.step (Yl.sub64 rfl rfl (by omega)) rfl ?_ | refine WL.step (Yl.mul64 rfl rfl (by omega)) rfl ?_ | refine WL.pass rfl rfl rfl rfl ?_ | refine WL.want rfl rfl rfl ?_))
    refine WC.cond_false rfl rfl ?_
    (repeat (first | refine WC.seq ?_ | refine WC.region ?_ | refine WL.nil ?_ | refine WN.then_normal ?_ | refine WC.block ?_ | refine WC.skip ?_ | refine WC.exit ?_ | refine WC.ret ?_ | refine WN.then_exit ?_ | refine WN.then_ret ?_ | refine WN.block_normal ?_ | refine WN.block_ret ?_ | refine WN.block_here ?_ | refine WN.block_past (by decide) ?_ | refine WC.scope ?_ | refine WC.label ?_ | refine WN.scope_normal ?_ | refine WN.scope_ret ?_ | refine WN.scope_exit ?_ | refine WL.step (Yl.move rfl) rfl ?_ | refine WL.step (Yl.assign rfl) rfl ?_ | refine WL.step (Yl.extract rfl rfl) rfl ?_ | refine WL.step (Yl.pick_t rfl rfl rfl) rfl ?_ | refine WL.step (Yl.pick_f rfl rfl rfl) rfl ?_ | refine WL.step (Yl.len Try.underlying22 rfl) rfl ?_ | refine WL.step (Yl.eqNil Try.underlying22 rfl) rfl ?_ | refine WL.step (Yl.strEql rfl rfl) rfl ?_ | refine WL.step (Yl.strNeq rfl rfl) rfl ?_ | refine WL.step (Yl.lss rfl rfl) rfl ?_ | refine WL.step (Yl.leq rfl rfl) rfl ?_ | refine WL.step (Yl.gtr rfl rfl) rfl ?_ | refine WL.step (Yl.geq rfl rfl) rfl ?_ | refine WL.step (Yl.eql rfl rfl) rfl ?_ | refine WL.step (Yl.neq rfl rfl) rfl ?_ | refine WL.step (Yl.not rfl) rfl ?_ | refine WL.step (Yl.add64C rfl (by omega)) rfl ?_ | refine WL.step (Yl.addC64 rfl (by omega)) rfl ?_ | refine WL.step (Yl.add64N rfl rfl (by omega)) rfl ?_ | refine WL.step (Yl.sub64C rfl (by omega) (by omega)) rfl ?_ | refine WL.step (Yl.subC64 rfl (by omega) (by decide)) rfl ?_ | refine WL.step (Yl.sub64N rfl rfl (by omega) (by omega)) rfl ?_ | refine WL.step (Yl.mul64C rfl (by omega)) rfl ?_ | refine WL.step (Yl.mulC64 rfl (by omega)) rfl ?_ | refine WL.step (Yl.quo64C rfl (by omega) (by decide)) rfl ?_ | refine WL.step (Yl.remC rfl (by decide)) rfl ?_ | refine WL.step (Yl.add64 rfl rfl (by omega)) rfl ?_ | refine WL.step (Yl.sub64 rfl rfl (by omega)) rfl ?_ | refine WL.step (Yl.mul64 rfl rfl (by omega)) rfl ?_ | refine WL.pass rfl rfl rfl rfl ?_ | refine WL.want rfl rfl rfl ?_))
    refine WL.lit Try.underlying22 elemU8 rfl rfl rfl (by simp) rfl fun b => ?_
    (repeat (first | refine WC.seq ?_ | refine WC.region ?_ | refine WL.nil ?_ | refine WN.then_normal ?_ | refine WC.block ?_ | refine WC.skip ?_ | refine WC.exit ?_ | refine WC.ret ?_ | refine WN.then_exit ?_ | refine WN.then_ret ?_ | refine WN.block_normal ?_ | refine WN.block_ret ?_ | refine WN.block_here ?_ | refine WN.block_past (by decide) ?_ | refine WC.scope ?_ | refine WC.label ?_ | refine WN.scope_normal ?_ | refine WN.scope_ret ?_ | refine WN.scope_exit ?_ | refine WL.step (Yl.move rfl) rfl ?_ | refine WL.step (Yl.assign rfl) rfl ?_ | refine WL.step (Yl.extract rfl rfl) rfl ?_ | refine WL.step (Yl.pick_t rfl rfl rfl) rfl ?_ | refine WL.step (Yl.pick_f rfl rfl rfl) rfl ?_ | refine WL.step (Yl.len Try.underlying22 rfl) rfl ?_ | refine WL.step (Yl.eqNil Try.underlying22 rfl) rfl ?_ | refine WL.step (Yl.strEql rfl rfl) rfl ?_ | refine WL.step (Yl.strNeq rfl rfl) rfl ?_ | refine WL.step (Yl.lss rfl rfl) rfl ?_ | refine WL.step (Yl.leq rfl rfl) rfl ?_ | refine WL.step (Yl.gtr rfl rfl) rfl ?_ | refine WL.step (Yl.geq rfl rfl) rfl ?_ | refine WL.step (Yl.eql rfl rfl) rfl ?_ | refine WL.step (Yl.neq rfl rfl) rfl ?_ | refine WL.step (Yl.not rfl) rfl ?_ | refine WL.step (Yl.add64C rfl (by omega)) rfl ?_ | refine WL.step (Yl.addC64 rfl (by omega)) rfl ?_ | refine WL.step (Yl.add64N rfl rfl (by omega)) rfl ?_ | refine WL.step (Yl.sub64C rfl (by omega) (by omega)) rfl ?_ | refine WL.step (Yl.subC64 rfl (by omega) (by decide)) rfl ?_ | refine WL.step (Yl.sub64N rfl rfl (by omega) (by omega)) rfl ?_ | refine WL.step (Yl.mul64C rfl (by omega)) rfl ?_ | refine WL.step (Yl.mulC64 rfl (by omega)) rfl ?_ | refine WL.step (Yl.quo64C rfl (by omega) (by decide)) rfl ?_ | refine WL.step (Yl.remC rfl (by decide)) rfl ?_ | refine WL.step (Yl.add64 rfl rfl (by omega)) rfl ?_ | refine WL.step (Yl.sub64 rfl rfl (by omega)) rfl ?_ | refine WL.step (Yl.mul64 rfl rfl (by omega)) rfl ?_ | refine WL.pass rfl rfl rfl rfl ?_ | refine WL.want rfl rfl rfl ?_))
    refine WL.appendRow Try.underlying22 elemU8 rfl rfl .here rfl (by omega) (.old hr) (by rw [bs_length]; omega) (bs_one l) (by omega) (by simp only [maxLen]; omega) rfl fun p hp => ?_
    (repeat (first | refine WC.seq ?_ | refine WC.region ?_ | refine WL.nil ?_ | refine WN.then_normal ?_ | refine WC.block ?_ | refine WC.skip ?_ | refine WC.exit ?_ | refine WC.ret ?_ | refine WN.then_exit ?_ | refine WN.then_ret ?_ | refine WN.block_normal ?_ | refine WN.block_ret ?_ | refine WN.block_here ?_ | refine WN.block_past (by decide) ?_ | refine WC.scope ?_ | refine WC.label ?_ | refine WN.scope_normal ?_ | refine WN.scope_ret ?_ | refine WN.scope_exit ?_ | refine WL.step (Yl.move rfl) rfl ?_ | refine WL.step (Yl.assign rfl) rfl ?_ | refine WL.step (Yl.extract rfl rfl) rfl ?_ | refine WL.step (Yl.pick_t rfl rfl rfl) rfl ?_ | refine WL.step (Yl.pick_f rfl rfl rfl) rfl ?_ | refine WL.step (Yl.len Try.underlying22 rfl) rfl ?_ | refine WL.step (Yl.eqNil Try.underlying22 rfl) rfl ?_ | refine WL.step (Yl.strEql rfl rfl) rfl ?_ | refine WL.step (Yl.strNeq rfl rfl) rfl ?_ | refine WL.step (Yl.lss rfl rfl) rfl ?_ | refine WL.step (Yl.leq rfl rfl) rfl ?_ | refine WL.step (Yl.gtr rfl rfl) rfl ?_ | refine WL.step (Yl.geq rfl rfl) rfl ?_ | refine WL.step (Yl.eql rfl rfl) rfl ?_ | refine WL.step (Yl.neq rfl rfl) rfl ?_ | refine WL.step (Yl.not rfl) rfl ?_ | refine WL.step (Yl.add64C rfl (by omega)) rfl ?_ | refine WL.step (Yl.addC64 rfl (by omega)) rfl ?_ | refine WL.step (Yl.add64N rfl rfl (by omega)) rfl ?_ | refine WL.step (Yl.sub64C rfl (by omega) (by omega)) rfl ?_ | refine WL.step (Yl.subC64 rfl (by omega) (by decide)) rfl ?_ | refine WL.step (Yl.sub64N rfl rfl (by omega) (by omega)) rfl ?_ | refine WL.step (Yl.mul64C rfl (by omega)) rfl ?_ | refine WL.step (Yl.mulC64 rfl (by omega)) rfl ?_ | refine WL.step (Yl.quo64C rfl (by omega) (by decide)) rfl ?_ | refine WL.step (Yl.remC rfl (by decide)) rfl ?_ | refine WL.step (Yl.add64 rfl rfl (by omega)) rfl ?_ | refine WL.step (Yl.sub64 rfl rfl (by omega)) rfl ?_ | refine WL.step (Yl.mul64 rfl rfl (by omega)) rfl ?_ | refine WL.pass rfl rfl rfl rfl ?_ | refine WL.want rfl rfl rfl ?_))
    exact WN.ret1 rfl rfl ⟨p.1, p.2, by omega, by rw [Nat.zero_add]; rfl, rfl⟩ (.cons .here .nil)
theorem u64s_in {w : World} {a : Option Addr} {len cap : Nat} {zs : List Int}
    (h : (a = none ∧ len = 0 ∧ cap = 0 ∧ zs = []) ∨ ∃ x, a = some x ∧ len ≤ cap ∧ cap ≤ maxLen ∧ zs.length = cap ∧ (∀ i, i < zs.length → w.cell? (x.add i) = some (.int .u64 (zs.getD i 0))) ∧ ∀ n ∈ zs, (Lit.int .u64 n).wf = true) :
    ∃ xs : List Nat, xs.length = len ∧ len ≤ cap ∧ cap ≤ 9223372036854775807 ∧ (∀ x ∈ xs, x < 18446744073709551616) ∧ CellsAt w a (us xs) := by
  rcases h with ⟨rfl, rfl, rfl, rfl⟩ | ⟨x, rfl, hl, hm, hz, hc, hw⟩
  · exact ⟨[], rfl, Nat.le_refl _, by omega, by simp, .nil _ _⟩
  · have hnat : ∀ n ∈ zs, ∃ m : Nat, n = (m : Int) ∧ m < 18446744073709551616 := fun n hn => wf_u64 (hw n hn)
    refine ⟨(zs.take len).map Int.toNat, by simp; omega, hl, by simpa [maxLen] using hm, fun y hy => ?_, ?_⟩
    · obtain ⟨n, hn, rfl⟩ := List.mem_map.1 hy
      obtain ⟨m, rfl, hm⟩ := hnat n (List.mem_of_mem_take hn)
      simpa using hm
    · by_cases h0 : len = 0
      · subst h0; exact .inl (by simp [us])
      · have hx := hc 0 (by rw [hz]; omega)
        obtain ⟨b, off, spot⟩ := x
        have hspot : spot = none := by simpa [Addr.add] using World.cell?_spot hx
        subst hspot
        refine .inr ⟨b, off, rfl, fun i v hv => ?_⟩
        have hi : i < len := by
          have := (List.getElem?_eq_some_iff.1 hv).1
          simp [us] at this; omega
        have hiz : i < zs.length := by rw [hz]; omega
        have hci := hc i hiz
        have ea : (⟨b, off, none⟩ : Addr).add i = ⟨b, off + i, none⟩ := by unfold Addr.add; split <;> simp_all
        rw [ea] at hci
        rw [hci, ← hv]
        obtain ⟨m, hm1, hm2⟩ := hnat zs[i] (List.getElem_mem hiz)
        simp only [us, List.map_map, List.getElem?_map, List.getElem?_take, hi, if_true, List.getElem?_eq_getElem hiz, Option.map_some, Function.comp, List.getD_eq_getElem?_getD, Option.getD_some, hm1, Int.toNat_natCast]
end Go.Proofs.Ytodoeeoihklkjaa
