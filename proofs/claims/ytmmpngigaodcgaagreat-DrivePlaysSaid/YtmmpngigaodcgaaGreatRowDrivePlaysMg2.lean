import Derived.Test.YtmmpngigaodcgaaGreatRowDrivePlaysMg1
import Derived.Laws.OwnMore
import Derived.Laws.CopyRow
import Derived.Laws.IdiomCopy
/- The operations, one lemma each, over frames of known slots and owned memory. -/
namespace Go.Proofs.YtmmpngigaodcgaaGreat
set_option linter.unusedVariables false
set_option linter.unusedSimpArgs false
open Go Go.RowKit
section
variable {X : Cx} {ops : Array Oper} {Q : Exit → Act → World → Prop} {ρ : Env} {A B : List HA} {rest : List Oper} {d : Tmp} {op : Op} {ty : TypeId} {ps : String} {af : Array Edge} {v : Value}

theorem int_beq (m n : Int) : (m == n) = decide (m = n) := by rw [Bool.eq_iff_iff]; simp
theorem blt_lt {m n : Nat} (h : Nat.blt m n = true) : m < n := by simpa [Nat.blt_eq] using h
/-- Carried out in any such state the operation yields this value, and the world is as it was. -/
def Yl (X : Cx) (op : Op) (ty : TypeId) (ρ : Env) (A : List HA) (v : Value) : Prop :=
  ∀ (o : Oper), o.op = op → o.type = ty → ∀ a w, Fr X.n ρ a → St X.w0 X.S A w → (execOp a.eval o).run X.P w = .ok (.value v) w

theorem Yl.intro (h : ∀ (o : Oper), o.op = op → o.type = ty → ∀ a w, Fr X.n ρ a → St X.w0 X.S A w → (execOp a.eval o).run X.P w = .ok (.value v) w) : Yl X op ty ρ A v := h
theorem Yl.elim (h : Yl X op ty ρ A v) : ∀ (o : Oper), o.op = op → o.type = ty → ∀ a w, Fr X.n ρ a → St X.w0 X.S A w → (execOp a.eval o).run X.P w = .ok (.value v) w := h
theorem WL.step (hy : Yl X op ty ρ A v) (hd : Nat.blt d X.n = true) (h : WL X ops Q rest ((d, v) :: ρ) A) : WL X ops Q (⟨some d, op, ty, ps, af, none⟩ :: rest) ρ A :=
  fun a w f s => wpList_plain rfl fun K hK => by
    unfold Oper.wp
    rw [hy _ rfl rfl a w f s]
    exact hK _ _ (h _ _ (f.put (blt_lt hd) v) s)

theorem wanted_eq {a : Act} {n j t : Nat} {b want : Bool} {o : Oper} (hg : o.guard = some (j, want)) (hj : (ops[j]?).bind (·.dst) = some t) (f : Fr n ρ a) (hv : lk ρ t = some (.bool b)) :
    Region.wanted o (yielded ops a.tmps) = (b == want) := by
  have h1 := f.get t _ hv
  have h2 : a.tmps[t]? = some (.bool b) := by
    rw [Array.getD_eq_getD_getElem?] at h1
    cases h3 : a.tmps[t]? with
    | none => rw [h3] at h1; simp [undef] at h1
    | some u => rw [h3] at h1; simpa using h1
  have h3 : yielded ops a.tmps j = some b := by
    unfold yielded
    rw [hj]
    simp [h2]
  simp only [Region.wanted, hg, h3]
  cases b <;> cases want <;> rfl
theorem WL.guard {j t : Nat} {b want : Bool} {dd : Option Tmp} (hj : (ops[j]?).bind (·.dst) = some t) (hv : lk ρ t = some (.bool b))
    (h1 : b = want → WL X ops Q (⟨dd, op, ty, ps, af, none⟩ :: rest) ρ A)
    (h2 : b = !want → ∀ a w, Fr X.n ρ a → St X.w0 X.S A w → wpList X.P ops Q rest (a.put dd undef) w) : WL X ops Q (⟨dd, op, ty, ps, af, some (j, want)⟩ :: rest) ρ A :=
  fun a w f s => by
    have hw := wanted_eq (o := ⟨dd, op, ty, ps, af, some (j, want)⟩) rfl hj f hv
    by_cases hb : b = want
    · have := h1 hb a w f s
      unfold wpList at this ⊢
      rw [if_pos (by simp [Region.wanted])] at this
      rw [hw, if_pos (by simp [hb])]
      exact this
    · have hb' : b = !want := by cases b <;> cases want <;> simp_all
      unfold wpList
      rw [hw, if_neg (by simp [hb])]
      exact h2 hb' a w f s
theorem WL.want {j t : Nat} {b want : Bool} {dd : Option Tmp} (hj : (ops[j]?).bind (·.dst) = some t) (hv : lk ρ t = some (.bool b)) (hb : b = want)
    (h : WL X ops Q (⟨dd, op, ty, ps, af, none⟩ :: rest) ρ A) : WL X ops Q (⟨dd, op, ty, ps, af, some (j, want)⟩ :: rest) ρ A :=
  WL.guard hj hv (fun _ => h) (fun h2 => by rw [hb] at h2; cases want <;> cases h2)
theorem WL.pass {j t : Nat} {b want : Bool} (hj : (ops[j]?).bind (·.dst) = some t) (hv : lk ρ t = some (.bool b)) (hb : b = !want) (hd : Nat.blt d X.n = true)
    (h : WL X ops Q rest ((d, undef) :: ρ) A) : WL X ops Q (⟨some d, op, ty, ps, af, some (j, want)⟩ :: rest) ρ A :=
  WL.guard hj hv (fun h2 => by rw [hb] at h2; cases want <;> cases h2) (fun _ _ w f s => h _ w (f.put (blt_lt hd) undef) s)
theorem WL.pass0 {j t : Nat} {b want : Bool} (hj : (ops[j]?).bind (·.dst) = some t) (hv : lk ρ t = some (.bool b)) (hb : b = !want)
    (h : WL X ops Q rest ρ A) : WL X ops Q (⟨none, op, ty, ps, af, some (j, want)⟩ :: rest) ρ A :=
  WL.guard hj hv (fun h2 => by rw [hb] at h2; cases want <;> cases h2) (fun _ _ w f s => h _ w f s)
/-- The guard's outcome is not known: both ways. -/
theorem WL.both {j t : Nat} {b want : Bool} (hj : (ops[j]?).bind (·.dst) = some t) (hv : lk ρ t = some (.bool b)) (hd : Nat.blt d X.n = true)
    (h1 : b = want → WL X ops Q (⟨some d, op, ty, ps, af, none⟩ :: rest) ρ A)
    (h2 : b = !want → WL X ops Q rest ((d, undef) :: ρ) A) : WL X ops Q (⟨some d, op, ty, ps, af, some (j, want)⟩ :: rest) ρ A :=
  WL.guard hj hv h1 (fun hb _ w f s => h2 hb _ w (f.put (blt_lt hd) undef) s)

/-! ### Operations on values alone -/
theorem Yl.move {x : Operand} (hx : ev ρ x = some v) : Yl X (.move x) ty ρ A v := fun o ho _ a w f _ => by
  simp [execOp, ho, f.ev hx]
theorem Yl.assign {x : Operand} (hx : ev ρ x = some v) : Yl X (.assign x) ty ρ A v := fun o ho _ a w f _ => by
  simp [execOp, ho, f.ev hx]
theorem Yl.pick_t {c x y : Operand} {b : Bool} (hc : ev ρ c = some (.bool b)) (hb : b = true) (hx : ev ρ x = some v) : Yl X (.pick c x y) ty ρ A v := fun o ho _ a w f _ => by
  simp [execOp, ho, f.ev hc, f.ev hx, asBool, hb]
theorem Yl.pick_f {c x y : Operand} {b : Bool} (hc : ev ρ c = some (.bool b)) (hb : b = false) (hy : ev ρ y = some v) : Yl X (.pick c x y) ty ρ A v := fun o ho _ a w f _ => by
  simp [execOp, ho, f.ev hc, f.ev hy, asBool, hb]
theorem Yl.extract {x : Operand} {i : Nat} {vs : Array Value} (hx : ev ρ x = some (.tuple vs)) (hi : vs[i]? = some v) : Yl X (.extract x i) ty ρ A v := fun o ho _ a w f _ => by
  simp [execOp, ho, f.ev hx, Instr.extract, hi]
theorem Yl.not {x : Operand} {t : TypeId} {b : Bool} (hx : ev ρ x = some (.bool b)) : Yl X (.unOp .not t x) ty ρ A (.bool (!b)) := fun o ho _ a w f _ => by
  simp [execOp, ho, f.ev hx, Op.unary]

section
variable {x y : Operand} {t u : TypeId} {k : IntKind} {m n : Int}
theorem Yl.lss (hx : ev ρ x = some (.int k m)) (hy : ev ρ y = some (.int k n)) : Yl X (.binOp .lss t x y u) ty ρ A (.bool (decide (m < n))) := fun o ho _ a w f _ => by
  simp [execOp, ho, f.ev hx, f.ev hy, eqGuard, binOp, Op.intCmp]
theorem Yl.leq (hx : ev ρ x = some (.int k m)) (hy : ev ρ y = some (.int k n)) : Yl X (.binOp .leq t x y u) ty ρ A (.bool (decide (m ≤ n))) := fun o ho _ a w f _ => by
  simp [execOp, ho, f.ev hx, f.ev hy, eqGuard, binOp, Op.intCmp]
theorem Yl.gtr (hx : ev ρ x = some (.int k m)) (hy : ev ρ y = some (.int k n)) : Yl X (.binOp .gtr t x y u) ty ρ A (.bool (decide (n < m))) := fun o ho _ a w f _ => by
  simp [execOp, ho, f.ev hx, f.ev hy, eqGuard, binOp, Op.intCmp]
theorem Yl.geq (hx : ev ρ x = some (.int k m)) (hy : ev ρ y = some (.int k n)) : Yl X (.binOp .geq t x y u) ty ρ A (.bool (decide (n ≤ m))) := fun o ho _ a w f _ => by
  simp [execOp, ho, f.ev hx, f.ev hy, eqGuard, binOp, Op.intCmp]
theorem Yl.eql (hx : ev ρ x = some (.int k m)) (hy : ev ρ y = some (.int k n)) : Yl X (.binOp .eql t x y u) ty ρ A (.bool (decide (m = n))) := fun o ho _ a w f _ => by
  simp [execOp, ho, f.ev hx, f.ev hy, eqGuard, binOp, Op.intCmp, int_beq]
theorem Yl.neq (hx : ev ρ x = some (.int k m)) (hy : ev ρ y = some (.int k n)) : Yl X (.binOp .neq t x y u) ty ρ A (.bool (decide (m ≠ n))) := fun o ho _ a w f _ => by
  simp [execOp, ho, f.ev hx, f.ev hy, eqGuard, binOp, Op.intCmp, bne, int_beq]
theorem Yl.eqlT (hx : ev ρ x = some (.int k m)) (hy : ev ρ y = some (.int k n)) (h : m = n) : Yl X (.binOp .eql t x y u) ty ρ A (.bool true) := by
  have := Yl.eql (X := X) (ty := ty) (A := A) (t := t) (u := u) hx hy
  rwa [decide_eq_true h] at this
theorem Yl.eqlF (hx : ev ρ x = some (.int k m)) (hy : ev ρ y = some (.int k n)) (h : m ≠ n) : Yl X (.binOp .eql t x y u) ty ρ A (.bool false) := by
  have := Yl.eql (X := X) (ty := ty) (A := A) (t := t) (u := u) hx hy
  rwa [decide_eq_false h] at this
theorem Yl.neqT (hx : ev ρ x = some (.int k m)) (hy : ev ρ y = some (.int k n)) (h : m ≠ n) : Yl X (.binOp .neq t x y u) ty ρ A (.bool true) := by
  have := Yl.neq (X := X) (ty := ty) (A := A) (t := t) (u := u) hx hy
  rwa [decide_eq_true h] at this
theorem Yl.neqF (hx : ev ρ x = some (.int k m)) (hy : ev ρ y = some (.int k n)) (h : m = n) : Yl X (.binOp .neq t x y u) ty ρ A (.bool false) := by
  have := Yl.neq (X := X) (ty := ty) (A := A) (t := t) (u := u) hx hy
  rwa [decide_eq_false (fun h2 => h2 h)] at this
theorem wrap64_fits {z : Int} (h0 : -9223372036854775808 ≤ z) (h1 : z ≤ 9223372036854775807) : IntKind.i64.wrap z = z := by
  rw [IntKind.wrap_i64]; omega
theorem Yl.add64 (hx : ev ρ x = some (.int .i64 m)) (hy : ev ρ y = some (.int .i64 n)) (h : -9223372036854775808 ≤ m + n ∧ m + n ≤ 9223372036854775807) :
    Yl X (.binOp .add t x y u) ty ρ A (.int .i64 (m + n)) := fun o ho _ a w f _ => by
  simp [execOp, ho, f.ev hx, f.ev hy, eqGuard, binOp, Op.intArith, wrap64_fits h.1 h.2]
theorem Yl.sub64 (hx : ev ρ x = some (.int .i64 m)) (hy : ev ρ y = some (.int .i64 n)) (h : -9223372036854775808 ≤ m - n ∧ m - n ≤ 9223372036854775807) :
    Yl X (.binOp .sub t x y u) ty ρ A (.int .i64 (m - n)) := fun o ho _ a w f _ => by
  simp [execOp, ho, f.ev hx, f.ev hy, eqGuard, binOp, Op.intArith, wrap64_fits h.1 h.2]
theorem Yl.mul64 (hx : ev ρ x = some (.int .i64 m)) (hy : ev ρ y = some (.int .i64 n)) (h : -9223372036854775808 ≤ m * n ∧ m * n ≤ 9223372036854775807) :
    Yl X (.binOp .mul t x y u) ty ρ A (.int .i64 (m * n)) := fun o ho _ a w f _ => by
  simp [execOp, ho, f.ev hx, f.ev hy, eqGuard, binOp, Op.intArith, wrap64_fits h.1 h.2]
/-- Of any kind, wrapped. -/
theorem Yl.add (hx : ev ρ x = some (.int k m)) (hy : ev ρ y = some (.int k n)) : Yl X (.binOp .add t x y u) ty ρ A (.int k (k.wrap (m + n))) := fun o ho _ a w f _ => by
  simp [execOp, ho, f.ev hx, f.ev hy, eqGuard, binOp, Op.intArith]
theorem Yl.sub (hx : ev ρ x = some (.int k m)) (hy : ev ρ y = some (.int k n)) : Yl X (.binOp .sub t x y u) ty ρ A (.int k (k.wrap (m - n))) := fun o ho _ a w f _ => by
  simp [execOp, ho, f.ev hx, f.ev hy, eqGuard, binOp, Op.intArith]
theorem Yl.mul (hx : ev ρ x = some (.int k m)) (hy : ev ρ y = some (.int k n)) : Yl X (.binOp .mul t x y u) ty ρ A (.int k (k.wrap (m * n))) := fun o ho _ a w f _ => by
  simp [execOp, ho, f.ev hx, f.ev hy, eqGuard, binOp, Op.intArith]
/-- Division of what is not negative. -/
theorem Yl.quo64 (hx : ev ρ x = some (.int .i64 m)) (hy : ev ρ y = some (.int .i64 n)) (h0 : 0 ≤ m) (h1 : m ≤ 9223372036854775807) (h2 : 0 < n) :
    Yl X (.binOp .quo t x y u) ty ρ A (.int .i64 (m / n)) := fun o ho _ a w f _ => by
  have e : m.tdiv n = m / n := Int.tdiv_eq_ediv_of_nonneg h0
  have e1 : 0 ≤ m / n := Int.ediv_nonneg h0 (by omega)
  have e2 : m / n ≤ m := Int.ediv_le_self n h0
  simp [execOp, ho, f.ev hx, f.ev hy, eqGuard, binOp, Op.intDiv, show n ≠ 0 by omega, e, wrap64_fits (z := m / n) (by omega) (by omega)]
theorem Yl.rem (hx : ev ρ x = some (.int k m)) (hy : ev ρ y = some (.int k n)) (h0 : 0 ≤ m) (h2 : 0 < n) :
    Yl X (.binOp .rem t x y u) ty ρ A (.int k (m % n)) := fun o ho _ a w f _ => by
  have e : m.tmod n = m % n := Int.tmod_eq_emod_of_nonneg h0
  simp [execOp, ho, f.ev hx, f.ev hy, eqGuard, binOp, Op.intDiv, show n ≠ 0 by omega, e]
end

/-! ### Numbers without a sign: as Nats -/
section
variable {x y : Operand} {t u : TypeId} {k : IntKind} {m n : Nat}
theorem wrapN {k : IntKind} (hk : k.signed = false) (m : Nat) : k.wrap (m : Int) = ((m % 2 ^ k.bits : Nat) : Int) := by
  simp only [IntKind.wrap, hk, Bool.false_and, Bool.false_eq_true, if_false]
  rw [Int.natCast_emod]; congr 1
theorem wrapN_lt {k : IntKind} (hk : k.signed = false) {m : Nat} (h : m < 2 ^ k.bits) : k.wrap (m : Int) = (m : Int) := by rw [wrapN hk, Nat.mod_eq_of_lt h]
theorem ofInt_nat {b m : Nat} (hm : m < 2 ^ b) : (BitVec.ofInt b (m : Int)).toNat = m := by
  rw [BitVec.toNat_ofInt, show (((m : Int) % (2 ^ b : Nat)).toNat) = m % 2 ^ b by rw [← Int.natCast_emod]; rfl]
  exact Nat.mod_eq_of_lt hm
theorem Yl.andN (hk : k.signed = false) (hx : ev ρ x = some (.int k (m : Int))) (hy : ev ρ y = some (.int k (n : Int))) (hm : m < 2 ^ k.bits) (hn : n < 2 ^ k.bits) :
    Yl X (.binOp .and t x y u) ty ρ A (.int k ((m &&& n : Nat) : Int)) := fun o ho _ a w f _ => by
  have : m &&& n < 2 ^ k.bits := Nat.lt_of_le_of_lt Nat.and_le_left hm
  have e : (BitVec.ofInt k.bits (m : Int) &&& BitVec.ofInt k.bits (n : Int)).toNat = m &&& n := by rw [BitVec.toNat_and, ofInt_nat hm, ofInt_nat hn]
  simp only [execOp, ho, f.ev hx, f.ev hy, eqGuard, binOp, Op.intBits, e, wrapN_lt hk this]
  simp
theorem Yl.orN (hk : k.signed = false) (hx : ev ρ x = some (.int k (m : Int))) (hy : ev ρ y = some (.int k (n : Int))) (hm : m < 2 ^ k.bits) (hn : n < 2 ^ k.bits) :
    Yl X (.binOp .or t x y u) ty ρ A (.int k ((m ||| n : Nat) : Int)) := fun o ho _ a w f _ => by
  have : m ||| n < 2 ^ k.bits := Nat.or_lt_two_pow hm hn
  have e : (BitVec.ofInt k.bits (m : Int) ||| BitVec.ofInt k.bits (n : Int)).toNat = m ||| n := by rw [BitVec.toNat_or, ofInt_nat hm, ofInt_nat hn]
  simp only [execOp, ho, f.ev hx, f.ev hy, eqGuard, binOp, Op.intBits, e, wrapN_lt hk this]
  simp
theorem Yl.xorN (hk : k.signed = false) (hx : ev ρ x = some (.int k (m : Int))) (hy : ev ρ y = some (.int k (n : Int))) (hm : m < 2 ^ k.bits) (hn : n < 2 ^ k.bits) :
    Yl X (.binOp .xor t x y u) ty ρ A (.int k ((m ^^^ n : Nat) : Int)) := fun o ho _ a w f _ => by
  have : m ^^^ n < 2 ^ k.bits := Nat.xor_lt_two_pow hm hn
  have e : (BitVec.ofInt k.bits (m : Int) ^^^ BitVec.ofInt k.bits (n : Int)).toNat = m ^^^ n := by rw [BitVec.toNat_xor, ofInt_nat hm, ofInt_nat hn]
  simp only [execOp, ho, f.ev hx, f.ev hy, eqGuard, binOp, Op.intBits, e, wrapN_lt hk this]
  simp
theorem Yl.andNotN (hk : k.signed = false) (hx : ev ρ x = some (.int k (m : Int))) (hy : ev ρ y = some (.int k (n : Int))) (hm : m < 2 ^ k.bits) (hn : n < 2 ^ k.bits) :
    Yl X (.binOp .andNot t x y u) ty ρ A (.int k ((m &&& (2 ^ k.bits - 1 - n) : Nat) : Int)) := fun o ho _ a w f _ => by
  have : m &&& (2 ^ k.bits - 1 - n) < 2 ^ k.bits := Nat.lt_of_le_of_lt Nat.and_le_left hm
  have e : (BitVec.ofInt k.bits (m : Int) &&& ~~~(BitVec.ofInt k.bits (n : Int))).toNat = m &&& (2 ^ k.bits - 1 - n) := by rw [BitVec.toNat_and, BitVec.toNat_not, ofInt_nat hm, ofInt_nat hn]
  simp only [execOp, ho, f.ev hx, f.ev hy, eqGuard, binOp, Op.intBits, e, wrapN_lt hk this]
  simp
theorem Yl.shrN {k' : IntKind} (hx : ev ρ x = some (.int k (m : Int))) (hy : ev ρ y = some (.int k' (n : Int))) (hn : n ≤ k.bits) :
    Yl X (.binOp .shr t x y u) ty ρ A (.int k ((m / 2 ^ n : Nat) : Int)) := fun o ho _ a w f _ => by
  have e : (m : Int).fdiv (2 ^ n) = ((m / 2 ^ n : Nat) : Int) := by
    rw [Int.fdiv_eq_ediv_of_nonneg _ (by exact Int.le_of_lt (Int.pow_pos (by decide)))]
    norm_cast
  simp only [execOp, ho, f.ev hx, f.ev hy, eqGuard, binOp, Op.shift]
  simp [show ¬ ((n : Int) < 0) by omega, Nat.min_eq_left hn, e]
theorem Yl.shlN {k' : IntKind} (hk : k.signed = false) (hx : ev ρ x = some (.int k (m : Int))) (hy : ev ρ y = some (.int k' (n : Int))) (hn : n ≤ k.bits) :
    Yl X (.binOp .shl t x y u) ty ρ A (.int k ((m * 2 ^ n % 2 ^ k.bits : Nat) : Int)) := fun o ho _ a w f _ => by
  have e : k.wrap ((m : Int) * 2 ^ n) = ((m * 2 ^ n % 2 ^ k.bits : Nat) : Int) := by
    rw [← wrapN hk]; norm_cast
  simp only [execOp, ho, f.ev hx, f.ev hy, eqGuard, binOp, Op.shift]
  simp [show ¬ ((n : Int) < 0) by omega, Nat.min_eq_left hn, e]
theorem Yl.addN (hk : k.signed = false) (hx : ev ρ x = some (.int k (m : Int))) (hy : ev ρ y = some (.int k (n : Int))) :
    Yl X (.binOp .add t x y u) ty ρ A (.int k (((m + n) % 2 ^ k.bits : Nat) : Int)) := fun o ho _ a w f _ => by
  have e : k.wrap ((m : Int) + n) = (((m + n) % 2 ^ k.bits : Nat) : Int) := by rw [← wrapN hk]; norm_cast
  simp [execOp, ho, f.ev hx, f.ev hy, eqGuard, binOp, Op.intArith, e]
theorem Yl.mulN (hk : k.signed = false) (hx : ev ρ x = some (.int k (m : Int))) (hy : ev ρ y = some (.int k (n : Int))) :
    Yl X (.binOp .mul t x y u) ty ρ A (.int k (((m * n) % 2 ^ k.bits : Nat) : Int)) := fun o ho _ a w f _ => by
  have e : k.wrap ((m : Int) * n) = (((m * n) % 2 ^ k.bits : Nat) : Int) := by rw [← wrapN hk]; norm_cast
  simp [execOp, ho, f.ev hx, f.ev hy, eqGuard, binOp, Op.intArith, e]
theorem Yl.quoN (hk : k.signed = false) (hx : ev ρ x = some (.int k (m : Int))) (hy : ev ρ y = some (.int k (n : Int))) (hm : m < 2 ^ k.bits) (hn : 0 < n) :
    Yl X (.binOp .quo t x y u) ty ρ A (.int k ((m / n : Nat) : Int)) := fun o ho _ a w f _ => by
  have e : k.wrap ((m : Int).tdiv n) = ((m / n : Nat) : Int) := by
    rw [Int.tdiv_eq_ediv_of_nonneg (by omega), ← Int.natCast_ediv, wrapN hk, Nat.mod_eq_of_lt (Nat.lt_of_le_of_lt (Nat.div_le_self _ _) hm)]
  simp only [execOp, ho, f.ev hx, f.ev hy, eqGuard, binOp, Op.intDiv, if_neg (show ¬ (n : Int) = 0 by omega), e]
  simp
theorem Yl.remN (hx : ev ρ x = some (.int k (m : Int))) (hy : ev ρ y = some (.int k (n : Int))) (hn : 0 < n) :
    Yl X (.binOp .rem t x y u) ty ρ A (.int k ((m % n : Nat) : Int)) := fun o ho _ a w f _ => by
  have e : (m : Int).tmod n = ((m % n : Nat) : Int) := by rw [Int.tmod_eq_emod_of_nonneg (by omega), Int.natCast_emod]
  simp [execOp, ho, f.ev hx, f.ev hy, eqGuard, binOp, Op.intDiv, show ¬ n = 0 by omega, e]
theorem Yl.convN {s t : TypeId} {k' : IntKind} {du : TypeDesc} (hs : X.P.underlying s = some du) (ht : X.P.underlying t = some (.int k)) (hk : k.signed = false)
    (hx : ev ρ x = some (.int k' (m : Int))) : Yl X (.convert s t x) ty ρ A (.int k ((m % 2 ^ k.bits : Nat) : Int)) := fun o ho _ a w f _ => by
  simp [execOp, ho, f.ev hx, convert, run_underlying hs, run_underlying ht, Conv.intToInt, wrapN hk]
theorem Yl.conv64 {s t : TypeId} {k' : IntKind} {du : TypeDesc} (hs : X.P.underlying s = some du) (ht : X.P.underlying t = some (.int .i64))
    (hx : ev ρ x = some (.int k' (m : Int))) (hm : m < 9223372036854775808) : Yl X (.convert s t x) ty ρ A (.int .i64 (m : Int)) := fun o ho _ a w f _ => by
  simp [execOp, ho, f.ev hx, convert, run_underlying hs, run_underlying ht, Conv.intToInt, wrap64_fits (z := (m : Int)) (by omega) (by omega)]

/-! ### With a literal on the right -/
section
variable {c : Nat}
theorem lit_cast (c : Nat) : (OfNat.ofNat c : Int) = ((OfNat.ofNat c : Nat) : Int) := rfl
theorem Yl.andC (hk : k.signed = false) (hx : ev ρ x = some (.int k (m : Int))) (hm : m < 2 ^ k.bits) (hn : (OfNat.ofNat c : Nat) < 2 ^ k.bits) :
    Yl X (.binOp .and t x (.const (.int k (OfNat.ofNat c))) u) ty ρ A (.int k ((m &&& (OfNat.ofNat c) : Nat) : Int)) := Yl.andN hk hx rfl hm hn
theorem Yl.orC (hk : k.signed = false) (hx : ev ρ x = some (.int k (m : Int))) (hm : m < 2 ^ k.bits) (hn : (OfNat.ofNat c : Nat) < 2 ^ k.bits) :
    Yl X (.binOp .or t x (.const (.int k (OfNat.ofNat c))) u) ty ρ A (.int k ((m ||| (OfNat.ofNat c) : Nat) : Int)) := Yl.orN hk hx rfl hm hn
theorem Yl.xorC (hk : k.signed = false) (hx : ev ρ x = some (.int k (m : Int))) (hm : m < 2 ^ k.bits) (hn : (OfNat.ofNat c : Nat) < 2 ^ k.bits) :
    Yl X (.binOp .xor t x (.const (.int k (OfNat.ofNat c))) u) ty ρ A (.int k ((m ^^^ (OfNat.ofNat c) : Nat) : Int)) := Yl.xorN hk hx rfl hm hn
theorem Yl.andNotC (hk : k.signed = false) (hx : ev ρ x = some (.int k (m : Int))) (hm : m < 2 ^ k.bits) (hn : (OfNat.ofNat c : Nat) < 2 ^ k.bits) :
    Yl X (.binOp .andNot t x (.const (.int k (OfNat.ofNat c))) u) ty ρ A (.int k ((m &&& (2 ^ k.bits - 1 - OfNat.ofNat c) : Nat) : Int)) := Yl.andNotN hk hx rfl hm hn
theorem Yl.shrC {k' : IntKind} (hx : ev ρ x = some (.int k (m : Int))) (hn : (OfNat.ofNat c : Nat) ≤ k.bits) :
    Yl X (.binOp .shr t x (.const (.int k' (OfNat.ofNat c))) u) ty ρ A (.int k ((m >>> (OfNat.ofNat c : Nat) : Nat) : Int)) := by
  rw [Nat.shiftRight_eq_div_pow]; exact Yl.shrN hx rfl hn
theorem Yl.shlC {k' : IntKind} (hk : k.signed = false) (hx : ev ρ x = some (.int k (m : Int))) (hn : (OfNat.ofNat c : Nat) ≤ k.bits) :
    Yl X (.binOp .shl t x (.const (.int k' (OfNat.ofNat c))) u) ty ρ A (.int k ((m <<< (OfNat.ofNat c : Nat) % 2 ^ k.bits : Nat) : Int)) := by
  rw [Nat.shiftLeft_eq]; exact Yl.shlN hk hx rfl hn
theorem Yl.addC (hk : k.signed = false) (hx : ev ρ x = some (.int k (m : Int))) :
    Yl X (.binOp .add t x (.const (.int k (OfNat.ofNat c))) u) ty ρ A (.int k (((m + (OfNat.ofNat c)) % 2 ^ k.bits : Nat) : Int)) := Yl.addN hk hx rfl
theorem Yl.quoC (hk : k.signed = false) (hx : ev ρ x = some (.int k (m : Int))) (hm : m < 2 ^ k.bits) (hn : 0 < (OfNat.ofNat c : Nat)) :
    Yl X (.binOp .quo t x (.const (.int k (OfNat.ofNat c))) u) ty ρ A (.int k ((m / (OfNat.ofNat c) : Nat) : Int)) := Yl.quoN hk hx rfl hm hn
theorem Yl.remC (hx : ev ρ x = some (.int k (m : Int))) (hn : 0 < (OfNat.ofNat c : Nat)) :
    Yl X (.binOp .rem t x (.const (.int k (OfNat.ofNat c))) u) ty ρ A (.int k ((m % (OfNat.ofNat c) : Nat) : Int)) := Yl.remN hx rfl hn
end

/-! ### Naturals in an int -/
section
variable {c : Nat}
theorem Yl.add64N (hx : ev ρ x = some (.int .i64 (m : Int))) (hy : ev ρ y = some (.int .i64 (n : Int))) (h : m + n ≤ 9223372036854775807) : Yl X (.binOp .add t x y u) ty ρ A (.int .i64 ((m + n : Nat) : Int)) := by
  have := Yl.add64 (X := X) (ty := ty) (A := A) (t := t) (u := u) hx hy (by omega)
  rwa [← Int.natCast_add] at this
theorem Yl.add64C (hx : ev ρ x = some (.int .i64 (m : Int))) (h : m + (OfNat.ofNat c : Nat) ≤ 9223372036854775807) : Yl X (.binOp .add t x (.const (.int .i64 (OfNat.ofNat c))) u) ty ρ A (.int .i64 ((m + OfNat.ofNat c : Nat) : Int)) := Yl.add64N hx rfl h
theorem Yl.addC64 (hy : ev ρ y = some (.int .i64 (m : Int))) (h : (OfNat.ofNat c : Nat) + m ≤ 9223372036854775807) : Yl X (.binOp .add t (.const (.int .i64 (OfNat.ofNat c))) y u) ty ρ A (.int .i64 ((OfNat.ofNat c + m : Nat) : Int)) := Yl.add64N rfl hy h
theorem Yl.sub64N (hx : ev ρ x = some (.int .i64 (m : Int))) (hy : ev ρ y = some (.int .i64 (n : Int))) (h : n ≤ m) (h2 : m ≤ 9223372036854775807) : Yl X (.binOp .sub t x y u) ty ρ A (.int .i64 ((m - n : Nat) : Int)) := by
  have := Yl.sub64 (X := X) (ty := ty) (A := A) (t := t) (u := u) hx hy (by omega)
  rwa [← Int.natCast_sub h] at this
theorem Yl.sub64C (hx : ev ρ x = some (.int .i64 (m : Int))) (h : (OfNat.ofNat c : Nat) ≤ m) (h2 : m ≤ 9223372036854775807) : Yl X (.binOp .sub t x (.const (.int .i64 (OfNat.ofNat c))) u) ty ρ A (.int .i64 ((m - OfNat.ofNat c : Nat) : Int)) := Yl.sub64N hx rfl h h2
theorem Yl.subC64 (hy : ev ρ y = some (.int .i64 (m : Int))) (h : m ≤ (OfNat.ofNat c : Nat)) (h2 : (OfNat.ofNat c : Nat) ≤ 9223372036854775807) : Yl X (.binOp .sub t (.const (.int .i64 (OfNat.ofNat c))) y u) ty ρ A (.int .i64 ((OfNat.ofNat c - m : Nat) : Int)) := Yl.sub64N rfl hy h h2
theorem Yl.mul64N (hx : ev ρ x = some (.int .i64 (m : Int))) (hy : ev ρ y = some (.int .i64 (n : Int))) (h : m * n ≤ 9223372036854775807) : Yl X (.binOp .mul t x y u) ty ρ A (.int .i64 ((m * n : Nat) : Int)) := by
  have h0 : (0 : Int) ≤ (m : Int) * n := Int.mul_nonneg (by omega) (by omega)
  have h1 : (m : Int) * n ≤ 9223372036854775807 := by rw [← Int.natCast_mul]; omega
  have := Yl.mul64 (X := X) (ty := ty) (A := A) (t := t) (u := u) hx hy ⟨by omega, h1⟩
  rwa [← Int.natCast_mul] at this
theorem Yl.mul64C (hx : ev ρ x = some (.int .i64 (m : Int))) (h : m * (OfNat.ofNat c : Nat) ≤ 9223372036854775807) : Yl X (.binOp .mul t x (.const (.int .i64 (OfNat.ofNat c))) u) ty ρ A (.int .i64 ((m * OfNat.ofNat c : Nat) : Int)) := Yl.mul64N hx rfl h
theorem Yl.mulC64 (hy : ev ρ y = some (.int .i64 (m : Int))) (h : (OfNat.ofNat c : Nat) * m ≤ 9223372036854775807) : Yl X (.binOp .mul t (.const (.int .i64 (OfNat.ofNat c))) y u) ty ρ A (.int .i64 ((OfNat.ofNat c * m : Nat) : Int)) := Yl.mul64N rfl hy h
theorem Yl.quo64N (hx : ev ρ x = some (.int .i64 (m : Int))) (hy : ev ρ y = some (.int .i64 (n : Int))) (h : m ≤ 9223372036854775807) (hn : 0 < n) : Yl X (.binOp .quo t x y u) ty ρ A (.int .i64 ((m / n : Nat) : Int)) := by
  have := Yl.quo64 (X := X) (ty := ty) (A := A) (t := t) (u := u) hx hy (by omega) (by omega) (by omega)
  rwa [← Int.natCast_ediv] at this
theorem Yl.quo64C (hx : ev ρ x = some (.int .i64 (m : Int))) (h : m ≤ 9223372036854775807) (hn : 0 < (OfNat.ofNat c : Nat)) : Yl X (.binOp .quo t x (.const (.int .i64 (OfNat.ofNat c))) u) ty ρ A (.int .i64 ((m / OfNat.ofNat c : Nat) : Int)) := Yl.quo64N hx rfl h hn
end
end
end
end Go.Proofs.YtmmpngigaodcgaaGreat
/- Operations on memory, calls, entries and results, over frames of known slots and owned memory. -/
namespace Go.Proofs.YtmmpngigaodcgaaGreat
set_option linter.unusedVariables false
set_option linter.unusedSimpArgs false
open Go Go.RowKit
section
variable {X : Cx} {ops : Array Oper} {Q : Exit → Act → World → Prop} {ρ : Env} {A B : List HA} {rest : List Oper} {d : Tmp} {op : Op} {ty : TypeId} {ps : String} {af : Array Edge} {v : Value}

/-- An operation that changes memory. -/
theorem WL.stepE {ι : Type} (V : ι → Value) (A' : ι → List HA)
    (hy : ∀ (o : Oper), o.op = op → o.type = ty → ∀ a w, Fr X.n ρ a → St X.w0 X.S A w → ∃ i w', (execOp a.eval o).run X.P w = .ok (.value (V i)) w' ∧ St X.w0 X.S (A' i) w')
    (hd : Nat.blt d X.n = true) (h : ∀ i, WL X ops Q rest ((d, V i) :: ρ) (A' i)) : WL X ops Q (⟨some d, op, ty, ps, af, none⟩ :: rest) ρ A :=
  fun a w f s => wpList_plain rfl fun K hK => by
    obtain ⟨i, w', hr, hs⟩ := hy ⟨some d, op, ty, ps, af, none⟩ rfl rfl a w f s
    unfold Oper.wp
    rw [hr]
    exact hK _ _ (h i _ _ (f.put (blt_lt hd) _) hs)
theorem WL.step1 {A' : List HA}
    (hy : ∀ (o : Oper), o.op = op → o.type = ty → ∀ a w, Fr X.n ρ a → St X.w0 X.S A w → ∃ w', (execOp a.eval o).run X.P w = .ok (.value v) w' ∧ St X.w0 X.S A' w')
    (hd : Nat.blt d X.n = true) (h : WL X ops Q rest ((d, v) :: ρ) A') : WL X ops Q (⟨some d, op, ty, ps, af, none⟩ :: rest) ρ A :=
  WL.stepE (fun _ : Unit => v) (fun _ => A') (fun o h1 h2 a w f s => by obtain ⟨w', hr, hs⟩ := hy o h1 h2 a w f s; exact ⟨(), w', hr, hs⟩) hd (fun _ => h)
/-- An operation without a result. -/
theorem WL.step0 {A' : List HA}
    (hy : ∀ (o : Oper), o.op = op → o.type = ty → ∀ a w, Fr X.n ρ a → St X.w0 X.S A w → ∃ r w', (execOp a.eval o).run X.P w = .ok r w' ∧ (r = .skip ∨ ∃ u, r = .value u) ∧ St X.w0 X.S A' w')
    (h : WL X ops Q rest ρ A') : WL X ops Q (⟨none, op, ty, ps, af, none⟩ :: rest) ρ A :=
  fun a w f s => wpList_plain rfl fun K hK => by
    obtain ⟨r, w', hr, hv, hs⟩ := hy ⟨none, op, ty, ps, af, none⟩ rfl rfl a w f s
    unfold Oper.wp
    rw [hr]
    rcases hv with rfl | ⟨u, rfl⟩
    · exact hK _ _ (h _ _ f hs)
    · exact hK _ _ (h _ _ f hs)

/-! ### Lengths, elements, cuts -/
theorem Yl.len {x : Operand} {t e : TypeId} {a : Option Addr} {n cap : Nat} (hu : X.P.underlying t = some (.slice e)) (hx : ev ρ x = some (.slice a n cap)) :
    Yl X (.call { callee := .builtin .len, args := #[x], argTypes := #[t] }) ty ρ A (.int .i64 (n : Int)) := fun o ho _ ac w f _ => by
  simp [execOp, ho, resolve, invoke, builtin, f.ev hx, Builtin.len_, run_underlying hu, goInt]
theorem Yl.lenS {x : Operand} {t : TypeId} {s : ByteArray} (hu : X.P.underlying t = some .string) (hx : ev ρ x = some (.string s)) :
    Yl X (.call { callee := .builtin .len, args := #[x], argTypes := #[t] }) ty ρ A (.int .i64 (s.size : Int)) := fun o ho _ ac w f _ => by
  simp [execOp, ho, resolve, invoke, builtin, f.ev hx, Builtin.len_, run_underlying hu, goInt]
theorem Rd.some_ {a : Option Addr} {vs : List Value} (h : Rd X A a vs) (hv : vs ≠ []) {w : World} (s : St X.w0 X.S A w) : ∃ ad, a = some ad := by
  rcases h w s with h2 | ⟨b, off, rfl, _⟩
  · exact absurd h2 hv
  · exact ⟨_, rfl⟩
theorem ne_nil_of {vs : List Value} {i : Nat} {u : Value} (h : vs[i]? = some u) : vs ≠ [] := by rintro rfl; simp at h
/-- The address of an element. -/
theorem Yl.indexAddr {x y : Operand} {t e : TypeId} {a : Option Addr} {n cap k j : Nat} {ik : IntKind} {vs : List Value} (hu : X.P.underlying t = some (.slice e)) (hs : ∀ w, (sizeOf e).run X.P w = .ok k w)
    (hx : ev ρ x = some (.slice a n cap)) (hy : ev ρ y = some (.int ik (j : Int))) (hr : Rd X A a vs) (hv : vs ≠ []) (hj : j < n) :
    Yl X (.indexAddr t x y) ty ρ A (.pointer (el a (j * k))) := fun o ho _ ac w f s => by
  obtain ⟨ad, rfl⟩ := hr.some_ hv s
  simp [execOp, ho, f.ev hx, f.ev hy, Instr.indexAt, asIntOf, run_underlying hu, hj, hs, el]
theorem Yl.indexAddr1 {x y : Operand} {t e : TypeId} {a : Option Addr} {n cap j : Nat} {ik : IntKind} {vs : List Value} (hu : X.P.underlying t = some (.slice e)) (hs : ∀ w, (sizeOf e).run X.P w = .ok 1 w)
    (hx : ev ρ x = some (.slice a n cap)) (hy : ev ρ y = some (.int ik (j : Int))) (hr : Rd X A a vs) (hv : vs ≠ []) (hj : j < n) :
    Yl X (.indexAddr t x y) ty ρ A (.pointer (el a j)) := by
  have := Yl.indexAddr (ty := ty) hu hs hx hy hr hv hj
  rwa [Nat.mul_one] at this
/-- The address of an array's element. -/
theorem Yl.indexArr {x y : Operand} {t e : TypeId} {n k j b off : Nat} {ik : IntKind} (hu : X.P.underlying t = some (.array n e)) (hs : ∀ w, (sizeOf e).run X.P w = .ok k w)
    (hx : ev ρ x = some (.pointer (some ⟨b, off, none⟩))) (hy : ev ρ y = some (.int ik (j : Int))) (hj : j < n) :
    Yl X (.indexAddr t x y) ty ρ A (.pointer (some ⟨b, off + j * k, none⟩)) := fun o ho _ ac w f _ => by
  have e : (⟨b, off, none⟩ : Addr).add (j * k) = ⟨b, off + j * k, none⟩ := by unfold Addr.add; split <;> simp_all
  simp [execOp, ho, f.ev hx, f.ev hy, Instr.indexAt, asIntOf, run_underlying hu, hj, hs, Instr.sureAddr, e]
theorem Yl.load {x : Operand} {T : TypeId} {a : Option Addr} {i : Nat} {vs : List Value} (hg : ∀ w, (isAgg T).run X.P w = .ok false w) (hx : ev ρ x = some (.pointer (el a i)))
    (hr : Rd X A a vs) (hv : vs[i]? = some v) : Yl X (.load T x) ty ρ A v := fun o ho _ ac w f s => by
  obtain ⟨ad, h1, h2⟩ := hr.at_ hv s
  have hx' := f.ev hx
  rw [h1] at hx'
  simp [execOp, ho, hx', Instr.loadAt, Instr.sureAddr, loadVar, hg, h2]
theorem St.cell {w0 w : World} {S : List Nat} {b off : Nat} {cs : Array Value} {T : TypeId} {fr : Nat × Nat} (s : St w0 S A w) (hm : HA.blk b (.cells cs T fr) ∈ A) (hv : cs[off]? = some v) : w.cell? ⟨b, off, none⟩ = some v := by
  have hb : w.heap[b]? = some (.cells cs T fr) := s.holds _ hm
  simp only [World.cell?, hb]; simpa using hv
theorem Yl.loadBlk {x : Operand} {T T' : TypeId} {b off : Nat} {cs : Array Value} {fr : Nat × Nat} (hg : ∀ w, (isAgg T).run X.P w = .ok false w) (hx : ev ρ x = some (.pointer (some ⟨b, off, none⟩)))
    (hm : HA.blk b (.cells cs T' fr) ∈ A) (hv : cs[off]? = some v) : Yl X (.load T x) ty ρ A v := fun o ho _ ac w f s => by
  simp [execOp, ho, f.ev hx, Instr.loadAt, Instr.sureAddr, loadVar, hg, s.cell hm hv]
theorem Yl.loadAgg {x : Operand} {T T' : TypeId} {b off k : Nat} {cs : Array Value} {us : List Value} {fr : Nat × Nat} (hg : ∀ w, (isAgg T).run X.P w = .ok true w) (hk : ∀ w, (sizeOf T).run X.P w = .ok k w)
    (hx : ev ρ x = some (.pointer (some ⟨b, off, none⟩))) (hm : HA.blk b (.cells cs T' fr) ∈ A) (hl : us.length = k) (hv : ∀ i u, us[i]? = some u → cs[off + i]? = some u) :
    Yl X (.load T x) ty ρ A (.agg us.toArray) := fun o ho _ ac w f s => by
  have hc : ∀ i u, us[i]? = some u → w.cell? ((⟨b, off, none⟩ : Addr).add i) = some u := fun i u hu => by
    have e : (⟨b, off, none⟩ : Addr).add i = ⟨b, off + i, none⟩ := by unfold Addr.add; split <;> simp_all
    rw [e]; exact s.cell hm (hv i u hu)
  have hl' := run_loadCells_list (P := X.P) w ⟨b, off, none⟩ us hc
  rw [hl] at hl'
  simp [execOp, ho, f.ev hx, Instr.loadAt, Instr.sureAddr, loadVar, hg, hk, hl']
/-- A cut 's[lo:hi]' of a slice. -/
theorem Yl.cut {x l h : Operand} {t e : TypeId} {a : Option Addr} {n cap k lo hi : Nat} {k1 k2 : IntKind} (hu : X.P.underlying t = some (.slice e)) (hs : ∀ w, (sizeOf e).run X.P w = .ok k w)
    (hx : ev ρ x = some (.slice a n cap)) (hl : ev ρ l = some (.int k1 (lo : Int))) (hh : ev ρ h = some (.int k2 (hi : Int))) (h1 : lo ≤ hi) (h2 : hi ≤ cap) :
    Yl X (.slice t x (some l) (some h) none) ty ρ A (.slice (cutA a lo cap k) (hi - lo) (cap - lo)) := fun o ho _ ac w f _ => by
  simp [execOp, ho, f.ev hx, f.ev hl, f.ev hh, Instr.sliceAt, Instr.slice, run_underlying hu, Instr.sliceBounds, Instr.sliceBound, asIntOf, h1, h2, hs, cutA]
theorem Yl.cutTo {x h : Operand} {t e : TypeId} {a : Option Addr} {n cap k hi : Nat} {k2 : IntKind} (hu : X.P.underlying t = some (.slice e)) (hs : ∀ w, (sizeOf e).run X.P w = .ok k w)
    (hx : ev ρ x = some (.slice a n cap)) (hh : ev ρ h = some (.int k2 (hi : Int))) (h2 : hi ≤ cap) :
    Yl X (.slice t x none (some h) none) ty ρ A (.slice (cutA a 0 cap k) hi cap) := fun o ho _ ac w f _ => by
  simp [execOp, ho, f.ev hx, f.ev hh, Instr.sliceAt, Instr.slice, run_underlying hu, Instr.sliceBounds, Instr.sliceBound, asIntOf, h2, hs, cutA]
theorem Yl.cutFrom {x l : Operand} {t e : TypeId} {a : Option Addr} {n cap k lo : Nat} {k1 : IntKind} (hu : X.P.underlying t = some (.slice e)) (hs : ∀ w, (sizeOf e).run X.P w = .ok k w)
    (hx : ev ρ x = some (.slice a n cap)) (hl : ev ρ l = some (.int k1 (lo : Int))) (h1 : lo ≤ n) :
    Yl X (.slice t x (some l) none none) ty ρ A (.slice (cutA a lo cap k) (n - lo) (cap - lo)) := fun o ho _ ac w f _ => by
  simp [execOp, ho, f.ev hx, f.ev hl, Instr.sliceAt, Instr.slice, run_underlying hu, Instr.sliceBounds, Instr.sliceBound, asIntOf, h1, hs, cutA]
/-- 's[:hi:max]'. -/
theorem Yl.cut3 {x h m : Operand} {t e : TypeId} {a : Option Addr} {n cap k hi mx : Nat} {k2 k3 : IntKind} (hu : X.P.underlying t = some (.slice e)) (hs : ∀ w, (sizeOf e).run X.P w = .ok k w)
    (hx : ev ρ x = some (.slice a n cap)) (hh : ev ρ h = some (.int k2 (hi : Int))) (hm : ev ρ m = some (.int k3 (mx : Int))) (h1 : hi ≤ mx) (h2 : mx ≤ cap) :
    Yl X (.slice t x none (some h) (some m)) ty ρ A (.slice (cutA a 0 mx k) hi mx) := fun o ho _ ac w f _ => by
  simp [execOp, ho, f.ev hx, f.ev hh, f.ev hm, Instr.sliceAt, Instr.slice, run_underlying hu, Instr.sliceBounds, Instr.sliceBound, asIntOf, h1, h2, hs, cutA]
theorem cutA_zero (a : Option Addr) (cap k : Nat) : cutA a 0 cap k = a := by
  unfold cutA
  split
  · rfl
  · cases a <;> simp [Addr.add]

/-! ### New memory -/
theorem WL.alloc {T : TypeId} {z : Value} (hz : ∀ w, (zeroValue T).run X.P w = .ok z w) (hd : Nat.blt d X.n = true)
    (h : ∀ b, WL X ops Q rest ((d, .pointer (some ⟨b, 0, none⟩)) :: ρ) (.blk b (.cells z.cells T (0, 0)) :: A)) : WL X ops Q (⟨some d, .alloc T, ty, ps, af, none⟩ :: rest) ρ A :=
  WL.stepE (fun b : Nat => .pointer (some ⟨b, 0, none⟩)) (fun b => .blk b (.cells z.cells T (0, 0)) :: A) (fun o ho _ a w f s =>
    ⟨w.heap.size, _, by simp [execOp, ho, Instr.alloc, hz, newVar, newRow, newObj]; rfl, s.alloc _⟩) hd h
theorem WL.box {T : TypeId} {x : Operand} (hx : ev ρ x = some v) (hd : Nat.blt d X.n = true)
    (h : ∀ b, WL X ops Q rest ((d, .pointer (some ⟨b, 0, none⟩)) :: ρ) (.blk b (.cells v.cells T (0, 0)) :: A)) : WL X ops Q (⟨some d, .box T x, ty, ps, af, none⟩ :: rest) ρ A :=
  WL.stepE (fun b : Nat => .pointer (some ⟨b, 0, none⟩)) (fun b => .blk b (.cells v.cells T (0, 0)) :: A) (fun o ho _ a w f s =>
    ⟨w.heap.size, _, by simp [execOp, ho, f.ev hx, Instr.box, newVar, newRow, newObj]; rfl, s.alloc _⟩) hd h

/-! ### Stores -/
theorem Kept.setRow (w : World) (g : Nat) (cs : Array Value) : Kept w [g] (w.setRow g cs) :=
  ⟨rfl, rfl, rfl, by simp [World.setRow], fun b _ hb => setRow_other w g b cs (by simp at hb; omega)⟩
theorem run_splice (P : Program) {w : World} {g o : Nat} {T : TypeId} {cur : Array Value} (us : List Value) (hg : w.heap[g]? = some (.cells cur T (0, 0))) (hl : o + us.length ≤ cur.size) (h1 : ∀ u ∈ us, u.oneCell' = true) :
    (storeCells ⟨g, o, none⟩ us).run P w = .ok () (w.setRow g (cur.toList.take o ++ us ++ cur.toList.drop (o + us.length)).toArray) := by
  have := run_storeCells_at P g o T us 0 cur w hg (by simpa using hl) h1
  simpa using this
theorem one_cells {u : Value} (h : u.oneCell' = true) : u.cells = #[u] := by
  cases u <;> first | rfl | (simp [Value.oneCell'] at h; done)
/-- Cells of a block are written. -/
theorem WL.storeBlk {x y : Operand} {T T' : TypeId} {b off : Nat} {cs : Array Value} {us : List Value} (hs : ∀ w, (sizeOf T).run X.P w = .ok us.length w) (hx : ev ρ x = some (.pointer (some ⟨b, off, none⟩)))
    (hy : ev ρ y = some v) (hv : v.cells.toList = us) (h1 : ∀ u ∈ us, u.oneCell' = true) (hp : Pick (.blk b (.cells cs T' (0, 0))) A B) (hl : off + us.length ≤ cs.size)
    (h : WL X ops Q rest ρ (.blk b (.cells (cs.toList.take off ++ us ++ cs.toList.drop (off + us.length)).toArray T' (0, 0)) :: B)) : WL X ops Q (⟨none, .store T x y, ty, ps, af, none⟩ :: rest) ρ A :=
  WL.step0 (fun o ho _ a w f s => by
    have s1 := s.pick hp
    have hb : w.heap[b]? = some (.cells cs T' (0, 0)) := s1.holds _ (.head _)
    have hr := run_splice X.P us hb hl h1
    have hlen : v.cells.size = us.length := by rw [← hv]; simp
    refine ⟨.skip, _, ?_, .inl rfl, s1.put (x := .blk b _) (y := .blk b (.cells (cs.toList.take off ++ us ++ cs.toList.drop (off + us.length)).toArray T' (0, 0))) rfl rfl (Kept.setRow w b _) (setRow_heap w b cs _ T' _ hb)⟩
    simp [execOp, ho, f.ev hx, f.ev hy, Instr.storeAt, Instr.sureAddr, storeVar, hs, hlen, hv, hr]) h
theorem set_splice {α : Type} (l : List α) (i : Nat) (u : α) (h : i < l.length) : l.take i ++ [u] ++ l.drop (i + 1) = l.set i u := by
  rw [List.append_assoc, List.set_eq_take_append_cons_drop, if_pos h]; rfl
/-- One cell. -/
theorem WL.store1 {x y : Operand} {T T' : TypeId} {b off : Nat} {cs : Array Value} (hs : ∀ w, (sizeOf T).run X.P w = .ok 1 w) (hx : ev ρ x = some (.pointer (some ⟨b, off, none⟩)))
    (hy : ev ρ y = some v) (h1 : v.oneCell' = true) (hp : Pick (.blk b (.cells cs T' (0, 0))) A B) (hl : off < cs.size)
    (h : WL X ops Q rest ρ (.blk b (.cells (cs.toList.set off v).toArray T' (0, 0)) :: B)) : WL X ops Q (⟨none, .store T x y, ty, ps, af, none⟩ :: rest) ρ A :=
  WL.storeBlk (us := [v]) hs hx hy (by rw [one_cells h1]) (by simpa using h1) hp (by simp only [List.length_singleton]; omega) (by
    have e := set_splice cs.toList off v (by simpa using hl)
    simp only [List.length_singleton]
    rw [e]; exact h)
/-- The whole block. -/
theorem WL.storeAll {x y : Operand} {T T' : TypeId} {b : Nat} {cs : Array Value} {us : List Value} (hs : ∀ w, (sizeOf T).run X.P w = .ok us.length w) (hx : ev ρ x = some (.pointer (some ⟨b, 0, none⟩)))
    (hy : ev ρ y = some (.agg us.toArray)) (h1 : ∀ u ∈ us, u.oneCell' = true) (hp : Pick (.blk b (.cells cs T' (0, 0))) A B) (hl : us.length = cs.size)
    (h : WL X ops Q rest ρ (.blk b (.cells us.toArray T' (0, 0)) :: B)) : WL X ops Q (⟨none, .store T x y, ty, ps, af, none⟩ :: rest) ρ A :=
  WL.storeBlk (us := us) hs hx hy rfl h1 hp (by omega) (by
    have e : cs.toList.take 0 ++ us ++ cs.toList.drop (0 + us.length) = us := by simp [hl]
    rw [e]; exact h)
/-- An element of an owned row. -/
theorem WL.storeRow {x y : Operand} {T T' : TypeId} {a : Option Addr} {cap k i : Nat} {vs : List Value} (hs : ∀ w, (sizeOf T).run X.P w = .ok 1 w) (hx : ev ρ x = some (.pointer (el a i)))
    (hy : ev ρ y = some v) (h1 : v.oneCell' = true) (hp : Pick (.row a cap T' k vs) A B) (hl : i < vs.length)
    (h : WL X ops Q rest ρ (.row a cap T' k (vs.set i v) :: B)) : WL X ops Q (⟨none, .store T x y, ty, ps, af, none⟩ :: rest) ρ A :=
  WL.step0 (fun o ho _ ac w f s => by
    have s1 := s.pick hp
    rcases s1.holds _ (.head _) with ⟨_, h0⟩ | ⟨b, cs, rfl, hb, hsz, hcm, hvl, htk⟩
    · subst h0; simp at hl
    · have hr := run_splice X.P (o := i) [v] hb (by simp only [List.length_singleton]; omega) (by simpa using h1)
      have hx' := f.ev hx
      have e : (⟨b, 0, none⟩ : Addr).add i = ⟨b, i, none⟩ := by unfold Addr.add; split <;> simp_all
      simp only [el, Option.map_some, e] at hx'
      have hc0 : cap ≠ 0 := by intro h0; rw [h0, Nat.zero_mul] at hsz; omega
      have e2 := set_splice cs.toList i v (by simp only [Array.length_toList]; omega)
      simp only [List.length_singleton] at hr
      rw [e2] at hr
      refine ⟨.skip, w.setRow b (cs.toList.set i v).toArray, ?_, .inl rfl, s1.put (x := .row _ _ _ _ _) (y := .row (some ⟨b, 0, none⟩) cap T' k (vs.set i v)) (by simp [HA.foot, hc0]) (by simp [HA.foot, hc0]) (Kept.setRow w b _)
        (.inr ⟨b, (cs.toList.set i v).toArray, rfl, setRow_heap w b cs _ T' _ hb, by simp [hsz], hcm, by simp only [List.length_set, List.size_toArray, Array.length_toList]; exact hvl, ?_⟩)⟩
      · simp [execOp, ho, hx', f.ev hy, Instr.storeAt, Instr.sureAddr, storeVar, hs, one_cells h1, hr]
      · show List.take (vs.set i v).length (cs.toList.set i v) = vs.set i v
        rw [List.length_set, List.take_set, htk]) h

/-! ### Element types; append, make, literals -/
structure ElemT (P : Program) (e : TypeId) (z : Value) (k bytes : Nat) : Prop where
  info : ∃ i, P.info? e = some i ∧ i.zero = some z ∧ i.size = k ∧ i.bytes = bytes
  cells : z.cells.size = k
  pos : 0 < k
theorem ElemT.of {P : Program} {e : TypeId} {z : Value} {k bytes : Nat} (h : (P.info? e).map (fun i => (i.zero, i.size, i.bytes)) = some (some z, k, bytes)) (hc : z.cells.size = k) (hp : 0 < k) : ElemT P e z k bytes := by
  obtain ⟨i, hi, hzz⟩ := Option.map_eq_some_iff.1 h
  simp only [Prod.mk.injEq] at hzz
  exact ⟨⟨i, hi, hzz.1, hzz.2.1, hzz.2.2⟩, hc, hp⟩
theorem ElemT.sizeOf {P : Program} {e : TypeId} {z : Value} {k bytes : Nat} (h : ElemT P e z k bytes) (w : World) : (sizeOf e).run P w = .ok k w := by
  obtain ⟨i, hi, _, hk, _⟩ := h.info
  simp [Go.sizeOf, typeInfo, hi, hk]
theorem ElemT.zero {P : Program} {e : TypeId} {z : Value} {k bytes : Nat} (h : ElemT P e z k bytes) (w : World) : (zeroValue e).run P w = .ok z w := by
  obtain ⟨i, hi, hz, _, _⟩ := h.info
  simp [Go.zeroValue, typeInfo, hi, hz]
theorem zero_of {P : Program} {e : TypeId} {z : Value} (h : (P.info? e).map (fun i => i.zero) = some (some z)) (w : World) : (zeroValue e).run P w = .ok z w := by
  obtain ⟨i, hi, hz⟩ := Option.map_eq_some_iff.1 h
  simp [Go.zeroValue, typeInfo, hi, hz]
/-- A slice and the cells of its elements. -/
theorem CellsAt.first {P : Program} {w : World} {a : Option Addr} {vs : List Value} (h : CellsAt w a vs) {k n len cap : Nat} (hl : vs.length = n * k) :
    (Builtin.firstCells k n (.slice a len cap)).run P w = .ok vs.toArray w := by
  rcases h with rfl | ⟨b, off, rfl, h⟩
  · cases a with
    | none => simp [Builtin.firstCells]
    | some ad => exact run_firstCells_some (P := P) w k n ad len cap [] hl (by simp)
  · refine run_firstCells_some (P := P) w k n ⟨b, off, none⟩ len cap vs hl (fun j v hv => ?_)
    have e : (⟨b, off, none⟩ : Addr).add j = ⟨b, off + j, none⟩ := by unfold Addr.add; split <;> simp_all
    rw [e]; exact h j v hv
theorem run_append_none {P : Program} {w : World} {t ty e : TypeId} {z : Value} {k bytes : Nat} (hu : P.underlying t = some (.slice e)) (he : ElemT P e z k bytes) {a a2 : Option Addr} {n cap c : Nat} (hn : n ≤ cap) :
    (Builtin.append_ #[t, t] ty #[.slice a n cap, .slice a2 0 c]).run P w = .ok (.slice a n cap) w := by
  obtain ⟨i, hi, hz, hk, _⟩ := he.info
  have hf : (Builtin.firstCells i.size 0 (.slice a2 0 c)).run P w = .ok #[] w := by
    have := (CellsAt.nil w a2).first (P := P) (k := i.size) (n := 0) (len := 0) (cap := c) (by simp)
    simpa using this
  cases a with
  | none => simp [Builtin.append_, run_underlying hu, Go.sizeOf, typeInfo, hi, Builtin.lenOf, hn, hf]
  | some ad => simp [Builtin.append_, run_underlying hu, Go.sizeOf, typeInfo, hi, Builtin.lenOf, hn, hf, storeCells]
theorem run_append_new {P : Program} {w : World} {t ty e : TypeId} {z : Value} {k bytes : Nat} (hu : P.underlying t = some (.slice e)) (he : ElemT P e z k bytes) {a a2 : Option Addr} {n cap m c : Nat} {olds news : List Value}
    (ho : CellsAt w a olds) (hol : olds.length = n * k) (hn : CellsAt w a2 news) (hnl : news.length = m * k) (hg : cap < n + m) (hb : (n + m) * bytes ≤ 140737488355328) (h63 : n + m ≤ maxLen) :
    (Builtin.append_ #[t, t] ty #[.slice a n cap, .slice a2 m c]).run P w =
      .ok (.slice (some ⟨w.heap.size, 0, none⟩) (n + m) (grownCap w (n + m) cap e))
        (w.drew.alloc (.cells (olds.toArray ++ news.toArray ++ Builtin.zeroCells z.cells (grownCap w (n + m) cap e - (n + m))) e)) := by
  obtain ⟨i, hi, hz, hk, hby⟩ := he.info
  have g : ¬ (n + m ≤ cap) := by omega
  have h63' : ¬ (9223372036854775807 < ((n : Int) + (m : Int))) := by simp only [maxLen] at h63; omega
  have h48 : ¬ (281474976710656 < Builtin.nextslicecap (n + m) cap * i.bytes) := by
    have := growslice_fits (need := n + m) (old := cap) (bytes := i.bytes) hg (by rw [hby]; exact hb)
    omega
  have hf := CellsAt.first (P := P) (w := w.drew) (a := a2) (vs := news) (by exact hn) (k := i.size) (n := m) (len := m) (cap := c) (by rw [hk]; exact hnl)
  have hfo := CellsAt.first (P := P) (w := w.drew) (a := a) (vs := olds) (by exact ho) (k := i.size) (n := n) (len := n) (cap := cap) (by rw [hk]; exact hol)
  simp [Builtin.append_, run_underlying hu, Go.sizeOf, typeInfo, zeroValue, hi, hz, Builtin.lenOf, g, h63', h48, Question.forced, hf, hfo, newRow, grownCap]
  congr 2
  apply Array.ext'
  simp [List.append_assoc]
theorem zeroCells_size (z : Array Value) (n : Nat) : (Builtin.zeroCells z n).size = n * z.size := by simp [Builtin.zeroCells]
theorem Kept.drew (w : World) : Kept w [] w.drew := ⟨rfl, rfl, rfl, Nat.le_refl _, fun _ _ _ => rfl⟩
theorem Kept.trans0 {w w1 w2 : World} (h : Kept w [] w1) (k : Kept w1 [] w2) : Kept w [] w2 := h.trans k (by simp)
/-- A new row out of a grown append. -/
theorem St.grown {P : Program} {w0 w : World} {S : List Nat} {e : TypeId} {z : Value} {k bytes : Nat} (s : St w0 S A w) (he : ElemT P e z k bytes) {n m cap : Nat} {olds news : List Value}
    (hol : olds.length = n * k) (hnl : news.length = m * k) (h63 : n + m ≤ maxLen) :
    St w0 S (.row (some ⟨w.heap.size, 0, none⟩) (grownCap w (n + m) cap e) e k (olds ++ news) :: A)
      (w.drew.alloc (.cells (olds.toArray ++ news.toArray ++ Builtin.zeroCells z.cells (grownCap w (n + m) cap e - (n + m))) e)) ∧ n + m ≤ grownCap w (n + m) cap e := by
  have hge := grownCap_ge w (n + m) cap e
  refine ⟨s.new ((Kept.drew w).trans0 (Kept.alloc w.drew _)) (.inr ⟨w.heap.size, _, rfl, heap_alloc_new w.drew _, ?_, grownCap_le_maxLen w _ _ _ h63, ?_, ?_⟩) (fun b hb => ?_), hge⟩
  · simp only [Array.size_append, List.size_toArray, zeroCells_size, he.cells, hol, hnl, ← Nat.add_mul]
    congr 1; omega
  · simp only [List.length_append, Array.size_append, List.size_toArray]; omega
  · simp only [Array.toList_append]
    exact List.take_left
  · simp only [HA.foot] at hb
    split at hb
    · cases hb
    · simp only [Option.map_some, Option.some.injEq] at hb; omega
/-- 'append' where it must grow: what is appended to is only read. -/
theorem WL.appendGrow {x y : Operand} {t e : TypeId} {z : Value} {k bytes : Nat} {a a2 : Option Addr} {n cap m c : Nat} {olds news : List Value} (hu : X.P.underlying t = some (.slice e)) (he : ElemT X.P e z k bytes)
    (hx : ev ρ x = some (.slice a n cap)) (hy : ev ρ y = some (.slice a2 m c)) (ho : Rd X A a olds) (hol : olds.length = n * k) (hn : Rd X A a2 news) (hnl : news.length = m * k) (hg : cap < n + m)
    (hb : (n + m) * bytes ≤ 140737488355328) (h63 : n + m ≤ maxLen) (hd : Nat.blt d X.n = true)
    (h : ∀ p : Option Addr × Nat, n + m ≤ p.2 → WL X ops Q rest ((d, .slice p.1 (n + m) p.2) :: ρ) (.row p.1 p.2 e k (olds ++ news) :: A)) :
    WL X ops Q (⟨some d, .call { callee := .builtin .append, args := #[x, y], argTypes := #[t, t] }, ty, ps, af, none⟩ :: rest) ρ A :=
  WL.stepE (ι := { p : Option Addr × Nat // n + m ≤ p.2 }) (fun p => .slice p.1.1 (n + m) p.1.2) (fun p => .row p.1.1 p.1.2 e k (olds ++ news) :: A) (fun o hop _ ac w f s => by
    have hr := run_append_new (P := X.P) (ty := o.type) (c := c) hu he (ho w s) hol (hn w s) hnl hg hb h63
    obtain ⟨h1, h2⟩ := s.grown (cap := cap) he hol hnl h63
    refine ⟨⟨(some ⟨w.heap.size, 0, none⟩, grownCap w (n + m) cap e), h2⟩, _, ?_, h1⟩
    simp only [execOp, hop, resolve, invoke, builtin, Sem.run_bind, Sem.run_pure, Result.andThen_ok, List.map_toArray, List.map_cons, List.map_nil, f.ev hx, f.ev hy, hr]) hd (fun p => h p.1 p.2)
/-- 'append' to a row of the call's own. -/
theorem WL.appendRow {x y : Operand} {t e : TypeId} {z : Value} {k bytes : Nat} {a a2 : Option Addr} {n cap m c : Nat} {olds news : List Value} (hu : X.P.underlying t = some (.slice e)) (he : ElemT X.P e z k bytes)
    (hx : ev ρ x = some (.slice a n cap)) (hy : ev ρ y = some (.slice a2 m c)) (hp : Pick (.row a cap e k olds) A B) (hol : olds.length = n * k) (hnc : n ≤ cap) (hn : Rd X A a2 news) (hnl : news.length = m * k) (h1 : ∀ u ∈ news, u.oneCell' = true)
    (hb : (n + m) * bytes ≤ 140737488355328) (h63 : n + m ≤ maxLen) (hd : Nat.blt d X.n = true)
    (h : ∀ p : Option Addr × Nat, n + m ≤ p.2 → WL X ops Q rest ((d, .slice p.1 (n + m) p.2) :: ρ) (.row p.1 p.2 e k (olds ++ news) :: B)) :
    WL X ops Q (⟨some d, .call { callee := .builtin .append, args := #[x, y], argTypes := #[t, t] }, ty, ps, af, none⟩ :: rest) ρ A :=
  WL.stepE (ι := { p : Option Addr × Nat // n + m ≤ p.2 }) (fun p => .slice p.1.1 (n + m) p.1.2) (fun p => .row p.1.1 p.1.2 e k (olds ++ news) :: B) (fun o hop _ ac w f s => by
    have s1 := s.pick hp
    have hk := he.pos
    have fin : ∀ {v : Value} {w' : World}, (Builtin.append_ #[t, t] o.type #[.slice a n cap, .slice a2 m c]).run X.P w = .ok v w' → (execOp ac.eval o).run X.P w = .ok (.value v) w' := fun hr => by
      simp only [execOp, hop, resolve, invoke, builtin, Sem.run_bind, Sem.run_pure, Result.andThen_ok, List.map_toArray, List.map_cons, List.map_nil, f.ev hx, f.ev hy, hr]
    by_cases hm : m = 0
    · subst hm
      obtain rfl : news = [] := List.eq_nil_of_length_eq_zero (by simpa using hnl)
      refine ⟨⟨(a, cap), by omega⟩, w, fin (run_append_none hu he hnc), ?_⟩
      simpa using s1
    · by_cases hroom : n + m ≤ cap
      · rcases s1.holds _ (.head _) with ⟨h0, _⟩ | ⟨b, cs, rfl, hbk, hsz, hcm, hvl, htk⟩
        · omega
        · have hc0 : cap ≠ 0 := by omega
          have hne : news ≠ [] := by
            intro e0; subst e0
            have hpos : 0 < m * k := Nat.mul_pos (by omega) hk
            simp at hnl; omega
          obtain ⟨ad, rfl⟩ := hn.some_ hne s
          obtain ⟨i, hi, _, hik, _⟩ := he.info
          have hcell : ∀ j u, news[j]? = some u → w.cell? (ad.add j) = some u := fun j u hu => by
            obtain ⟨ad', e1, e2⟩ := hn.at_ hu s
            simp only [el, Option.map_some, Option.some.injEq] at e1
            rw [e1]; exact e2
          have hfit : n * i.size + news.length ≤ cs.size := by rw [hik, hnl, hsz, ← Nat.add_mul]; exact Nat.mul_le_mul_right _ hroom
          have hr := run_append_room (P := X.P) w t o.type e i hu hi b n cap cs hbk ad m c news (by rw [hik]; exact hnl) hcell h1 hroom hfit
          refine ⟨⟨(some ⟨b, 0, none⟩, cap), hroom⟩, _, fin hr, s1.put (x := .row _ _ _ _ _) (y := .row (some ⟨b, 0, none⟩) cap e k (olds ++ news)) (by simp [HA.foot, hc0]) (by simp [HA.foot, hc0]) (Kept.setRow w b _)
            (.inr ⟨b, _, rfl, setRow_heap w b cs _ e _ hbk, ?_, hcm, ?_, ?_⟩)⟩
          · simp only [List.size_toArray, List.length_append, List.length_take, List.length_drop, Array.length_toList]; omega
          · simp only [List.size_toArray, List.length_append, List.length_take, List.length_drop, Array.length_toList]; rw [hik] at *; omega
          · rw [hik, ← hol, htk]
            exact List.take_left
      · have ho : Rd X A a olds := fun w s => (Rd.row (X := X) (A := .row a cap e k olds :: B) (.head _)) w (s.pick hp)
        have hg : cap < n + m := by omega
        have hr := run_append_new (P := X.P) (ty := o.type) (c := c) hu he (ho w s) hol (hn w s) hnl hg hb h63
        obtain ⟨g1, g2⟩ := s1.tail.grown (n := n) (m := m) (cap := cap) he hol hnl h63
        exact ⟨⟨(some ⟨w.heap.size, 0, none⟩, grownCap w (n + m) cap e), g2⟩, _, fin hr, g1⟩) hd (fun p => h p.1 p.2)
end
end Go.Proofs.YtmmpngigaodcgaaGreat
