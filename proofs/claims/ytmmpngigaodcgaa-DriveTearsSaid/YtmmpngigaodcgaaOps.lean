/- The operations, one lemma each, over frames of known slots and owned memory. -/
import Derived.Test.YtmmpngigaodcgaaSep
namespace Go.Proofs.Ytmmpngigaodcgaa
set_option linter.unusedVariables false
set_option linter.unusedSimpArgs false
open Go Go.RowKit
section
variable {X : Cx} {ops : Array Oper} {Q : Exit → Act → World → Prop} {ρ : Env} {A B : List HA} {rest : List Oper} {d : Tmp} {op : Op} {ty : TypeId} {ps : String} {af : Array Edge} {v : Value}

theorem int_beq (m n : Int) : (m == n) = decide (m = n) := by rw [Bool.eq_iff_iff]; simp
theorem blt_lt {m n : Nat} (h : Nat.blt m n = true) : m < n := by simpa [Nat.blt_eq] using h
/-- Carried out in any such state the operation yields this value, and the world is as it was. -/
def Yl (X : Cx) (op : Op) (ty : TypeId) (ρ : Env) (A : List HA) (v : Value) : Prop :=
  ∀ (o : Oper), o.op = op → o.type = ty → ∀ a w, Fr X.n ρ a → St X.w0 X.S A w → (execOp a.eval o).run X.P w = .ok (.value v) w

theorem Yl.intro (h : ∀ (o : Oper), o.op = op → o.type = ty → ∀ a w, Fr X.n ρ a → St X.w0 X.S A w → (execOp a.eval o).run X.P w = .ok (.value v) w) : Yl X op ty ρ A v := h
theorem Yl.elim (h : Yl X op ty ρ A v) : ∀ (o : Oper), o.op = op → o.type = ty → ∀ a w, Fr X.n ρ a → St X.w0 X.S A w → (execOp a.eval o).run X.P w = .ok (.value v) w := h
theorem WL.step (hy : Yl X op ty ρ A v) (hd : Nat.blt d X.n = true) (h : WL X ops Q rest ((d, v) :: ρ) A) : WL X ops Q (⟨some d, op, ty, ps, af, none⟩ :: rest) ρ A :=
  fun a w f s => wpList_plain rfl fun K hK => by
    unfold Oper.wp
    rw [hy _ rfl rfl a w f s]
    exact hK _ _ (h _ _ (f.put (blt_lt hd) v) s)

theorem wanted_eq {a : Act} {n j t : Nat} {b want : Bool} {o : Oper} (hg : o.guard = some (j, want)) (hj : (ops[j]?).bind (·.dst) = some t) (f : Fr n ρ a) (hv : lk ρ t = some (.bool b)) :
    Region.wanted o (yielded ops a.tmps) = (b == want) := by
  have h1 := f.get t _ hv
  have h2 : a.tmps[t]? = some (.bool b) := by
    rw [Array.getD_eq_getD_getElem?] at h1
    cases h3 : a.tmps[t]? with
    | none => rw [h3] at h1; simp [undef] at h1
    | some u => rw [h3] at h1; simpa using h1
  have h3 : yielded ops a.tmps j = some b := by
    unfold yielded
    rw [hj]
    simp [h2]
  simp only [Region.wanted, hg, h3]
  cases b <;> cases want <;> rfl
theorem WL.guard {j t : Nat} {b want : Bool} {dd : Option Tmp} (hj : (ops[j]?).bind (·.dst) = some t) (hv : lk ρ t = some (.bool b))
    (h1 : b = want → WL X ops Q (⟨dd, op, ty, ps, af, none⟩ :: rest) ρ A)
    (h2 : b = !want → ∀ a w, Fr X.n ρ a → St X.w0 X.S A w → wpList X.P ops Q rest (a.put dd undef) w) : WL X ops Q (⟨dd, op, ty, ps, af, some (j, want)⟩ :: rest) ρ A :=
  fun a w f s => by
    have hw := wanted_eq (o := ⟨dd, op, ty, ps, af, some (j, want)⟩) rfl hj f hv
    by_cases hb : b = want
    · have := h1 hb a w f s
      unfold wpList at this ⊢
      rw [if_pos (by simp [Region.wanted])] at this
      rw [hw, if_pos (by simp [hb])]
      exact this
    · have hb' : b = !want := by cases b <;> cases want <;> simp_all
      unfold wpList
      rw [hw, if_neg (by simp [hb])]
      exact h2 hb' a w f s
theorem WL.want {j t : Nat} {b want : Bool} {dd : Option Tmp} (hj : (ops[j]?).bind (·.dst) = some t) (hv : lk ρ t = some (.bool b)) (hb : b = want)
    (h : WL X ops Q (⟨dd, op, ty, ps, af, none⟩ :: rest) ρ A) : WL X ops Q (⟨dd, op, ty, ps, af, some (j, want)⟩ :: rest) ρ A :=
  WL.guard hj hv (fun _ => h) (fun h2 => by rw [hb] at h2; cases want <;> cases h2)
theorem WL.pass {j t : Nat} {b want : Bool} (hj : (ops[j]?).bind (·.dst) = some t) (hv : lk ρ t = some (.bool b)) (hb : b = !want) (hd : Nat.blt d X.n = true)
    (h : WL X ops Q rest ((d, undef) :: ρ) A) : WL X ops Q (⟨some d, op, ty, ps, af, some (j, want)⟩ :: rest) ρ A :=
  WL.guard hj hv (fun h2 => by rw [hb] at h2; cases want <;> cases h2) (fun _ _ w f s => h _ w (f.put (blt_lt hd) undef) s)
theorem WL.pass0 {j t : Nat} {b want : Bool} (hj : (ops[j]?).bind (·.dst) = some t) (hv : lk ρ t = some (.bool b)) (hb : b = !want)
    (h : WL X ops Q rest ρ A) : WL X ops Q (⟨none, op, ty, ps, af, some (j, want)⟩ :: rest) ρ A :=
  WL.guard hj hv (fun h2 => by rw [hb] at h2; cases want <;> cases h2) (fun _ _ w f s => h _ w f s)
/-- The guard's outcome is not known: both ways. -/
theorem WL.both {j t : Nat} {b want : Bool} (hj : (ops[j]?).bind (·.dst) = some t) (hv : lk ρ t = some (.bool b)) (hd : Nat.blt d X.n = true)
    (h1 : b = want → WL X ops Q (⟨some d, op, ty, ps, af, none⟩ :: rest) ρ A)
    (h2 : b = !want → WL X ops Q rest ((d, undef) :: ρ) A) : WL X ops Q (⟨some d, op, ty, ps, af, some (j, want)⟩ :: rest) ρ A :=
  WL.guard hj hv h1 (fun hb _ w f s => h2 hb _ w (f.put (blt_lt hd) undef) s)

/-! ### Operations on values alone -/
theorem Yl.move {x : Operand} (hx : ev ρ x = some v) : Yl X (.move x) ty ρ A v := fun o ho _ a w f _ => by
  simp [execOp, ho, f.ev hx]
theorem Yl.assign {x : Operand} (hx : ev ρ x = some v) : Yl X (.assign x) ty ρ A v := fun o ho _ a w f _ => by
  simp [execOp, ho, f.ev hx]
theorem Yl.pick_t {c x y : Operand} {b : Bool} (hc : ev ρ c = some (.bool b)) (hb : b = true) (hx : ev ρ x = some v) : Yl X (.pick c x y) ty ρ A v := fun o ho _ a w f _ => by
  simp [execOp, ho, f.ev hc, f.ev hx, asBool, hb]
theorem Yl.pick_f {c x y : Operand} {b : Bool} (hc : ev ρ c = some (.bool b)) (hb : b = false) (hy : ev ρ y = some v) : Yl X (.pick c x y) ty ρ A v := fun o ho _ a w f _ => by
  simp [execOp, ho, f.ev hc, f.ev hy, asBool, hb]
theorem Yl.extract {x : Operand} {i : Nat} {vs : Array Value} (hx : ev ρ x = some (.tuple vs)) (hi : vs[i]? = some v) : Yl X (.extract x i) ty ρ A v := fun o ho _ a w f _ => by
  simp [execOp, ho, f.ev hx, Instr.extract, hi]
theorem Yl.not {x : Operand} {t : TypeId} {b : Bool} (hx : ev ρ x = some (.bool b)) : Yl X (.unOp .not t x) ty ρ A (.bool (!b)) := fun o ho _ a w f _ => by
  simp [execOp, ho, f.ev hx, Op.unary]

section
variable {x y : Operand} {t u : TypeId} {k : IntKind} {m n : Int}
theorem Yl.lss (hx : ev ρ x = some (.int k m)) (hy : ev ρ y = some (.int k n)) : Yl X (.binOp .lss t x y u) ty ρ A (.bool (decide (m < n))) := fun o ho _ a w f _ => by
  simp [execOp, ho, f.ev hx, f.ev hy, eqGuard, binOp, Op.intCmp]
theorem Yl.leq (hx : ev ρ x = some (.int k m)) (hy : ev ρ y = some (.int k n)) : Yl X (.binOp .leq t x y u) ty ρ A (.bool (decide (m ≤ n))) := fun o ho _ a w f _ => by
  simp [execOp, ho, f.ev hx, f.ev hy, eqGuard, binOp, Op.intCmp]
theorem Yl.gtr (hx : ev ρ x = some (.int k m)) (hy : ev ρ y = some (.int k n)) : Yl X (.binOp .gtr t x y u) ty ρ A (.bool (decide (n < m))) := fun o ho _ a w f _ => by
  simp [execOp, ho, f.ev hx, f.ev hy, eqGuard, binOp, Op.intCmp]
theorem Yl.geq (hx : ev ρ x = some (.int k m)) (hy : ev ρ y = some (.int k n)) : Yl X (.binOp .geq t x y u) ty ρ A (.bool (decide (n ≤ m))) := fun o ho _ a w f _ => by
  simp [execOp, ho, f.ev hx, f.ev hy, eqGuard, binOp, Op.intCmp]
theorem Yl.eql (hx : ev ρ x = some (.int k m)) (hy : ev ρ y = some (.int k n)) : Yl X (.binOp .eql t x y u) ty ρ A (.bool (decide (m = n))) := fun o ho _ a w f _ => by
  simp [execOp, ho, f.ev hx, f.ev hy, eqGuard, binOp, Op.intCmp, int_beq]
theorem Yl.neq (hx : ev ρ x = some (.int k m)) (hy : ev ρ y = some (.int k n)) : Yl X (.binOp .neq t x y u) ty ρ A (.bool (decide (m ≠ n))) := fun o ho _ a w f _ => by
  simp [execOp, ho, f.ev hx, f.ev hy, eqGuard, binOp, Op.intCmp, bne, int_beq]
theorem Yl.eqlT (hx : ev ρ x = some (.int k m)) (hy : ev ρ y = some (.int k n)) (h : m = n) : Yl X (.binOp .eql t x y u) ty ρ A (.bool true) := by
  have := Yl.eql (X := X) (ty := ty) (A := A) (t := t) (u := u) hx hy
  rwa [decide_eq_true h] at this
theorem Yl.eqlF (hx : ev ρ x = some (.int k m)) (hy : ev ρ y = some (.int k n)) (h : m ≠ n) : Yl X (.binOp .eql t x y u) ty ρ A (.bool false) := by
  have := Yl.eql (X := X) (ty := ty) (A := A) (t := t) (u := u) hx hy
  rwa [decide_eq_false h] at this
theorem Yl.neqT (hx : ev ρ x = some (.int k m)) (hy : ev ρ y = some (.int k n)) (h : m ≠ n) : Yl X (.binOp .neq t x y u) ty ρ A (.bool true) := by
  have := Yl.neq (X := X) (ty := ty) (A := A) (t := t) (u := u) hx hy
  rwa [decide_eq_true h] at this
theorem Yl.neqF (hx : ev ρ x = some (.int k m)) (hy : ev ρ y = some (.int k n)) (h : m = n) : Yl X (.binOp .neq t x y u) ty ρ A (.bool false) := by
  have := Yl.neq (X := X) (ty := ty) (A := A) (t := t) (u := u) hx hy
  rwa [decide_eq_false (fun h2 => h2 h)] at this
theorem wrap64_fits {z : Int} (h0 : -9223372036854775808 ≤ z) (h1 : z ≤ 9223372036854775807) : IntKind.i64.wrap z = z := by
  rw [IntKind.wrap_i64]; omega
theorem Yl.add64 (hx : ev ρ x = some (.int .i64 m)) (hy : ev ρ y = some (.int .i64 n)) (h : -9223372036854775808 ≤ m + n ∧ m + n ≤ 9223372036854775807) :
    Yl X (.binOp .add t x y u) ty ρ A (.int .i64 (m + n)) := fun o ho _ a w f _ => by
  simp [execOp, ho, f.ev hx, f.ev hy, eqGuard, binOp, Op.intArith, wrap64_fits h.1 h.2]
theorem Yl.sub64 (hx : ev ρ x = some (.int .i64 m)) (hy : ev ρ y = some (.int .i64 n)) (h : -9223372036854775808 ≤ m - n ∧ m - n ≤ 9223372036854775807) :
    Yl X (.binOp .sub t x y u) ty ρ A (.int .i64 (m - n)) := fun o ho _ a w f _ => by
  simp [execOp, ho, f.ev hx, f.ev hy, eqGuard, binOp, Op.intArith, wrap64_fits h.1 h.2]
theorem Yl.mul64 (hx : ev ρ x = some (.int .i64 m)) (hy : ev ρ y = some (.int .i64 n)) (h : -9223372036854775808 ≤ m * n ∧ m * n ≤ 9223372036854775807) :
    Yl X (.binOp .mul t x y u) ty ρ A (.int .i64 (m * n)) := fun o ho _ a w f _ => by
  simp [execOp, ho, f.ev hx, f.ev hy, eqGuard, binOp, Op.intArith, wrap64_fits h.1 h.2]
/-- Of any kind, wrapped. -/
theorem Yl.add (hx : ev ρ x = some (.int k m)) (hy : ev ρ y = some (.int k n)) : Yl X (.binOp .add t x y u) ty ρ A (.int k (k.wrap (m + n))) := fun o ho _ a w f _ => by
  simp [execOp, ho, f.ev hx, f.ev hy, eqGuard, binOp, Op.intArith]
theorem Yl.sub (hx : ev ρ x = some (.int k m)) (hy : ev ρ y = some (.int k n)) : Yl X (.binOp .sub t x y u) ty ρ A (.int k (k.wrap (m - n))) := fun o ho _ a w f _ => by
  simp [execOp, ho, f.ev hx, f.ev hy, eqGuard, binOp, Op.intArith]
theorem Yl.mul (hx : ev ρ x = some (.int k m)) (hy : ev ρ y = some (.int k n)) : Yl X (.binOp .mul t x y u) ty ρ A (.int k (k.wrap (m * n))) := fun o ho _ a w f _ => by
  simp [execOp, ho, f.ev hx, f.ev hy, eqGuard, binOp, Op.intArith]
/-- Division of what is not negative. -/
theorem Yl.quo64 (hx : ev ρ x = some (.int .i64 m)) (hy : ev ρ y = some (.int .i64 n)) (h0 : 0 ≤ m) (h1 : m ≤ 9223372036854775807) (h2 : 0 < n) :
    Yl X (.binOp .quo t x y u) ty ρ A (.int .i64 (m / n)) := fun o ho _ a w f _ => by
  have e : m.tdiv n = m / n := Int.tdiv_eq_ediv_of_nonneg h0
  have e1 : 0 ≤ m / n := Int.ediv_nonneg h0 (by omega)
  have e2 : m / n ≤ m := Int.ediv_le_self n h0
  simp [execOp, ho, f.ev hx, f.ev hy, eqGuard, binOp, Op.intDiv, show n ≠ 0 by omega, e, wrap64_fits (z := m / n) (by omega) (by omega)]
theorem Yl.rem (hx : ev ρ x = some (.int k m)) (hy : ev ρ y = some (.int k n)) (h0 : 0 ≤ m) (h2 : 0 < n) :
    Yl X (.binOp .rem t x y u) ty ρ A (.int k (m % n)) := fun o ho _ a w f _ => by
  have e : m.tmod n = m % n := Int.tmod_eq_emod_of_nonneg h0
  simp [execOp, ho, f.ev hx, f.ev hy, eqGuard, binOp, Op.intDiv, show n ≠ 0 by omega, e]
end

/-! ### Numbers without a sign: as Nats -/
section
variable {x y : Operand} {t u : TypeId} {k : IntKind} {m n : Nat}
theorem wrapN {k : IntKind} (hk : k.signed = false) (m : Nat) : k.wrap (m : Int) = ((m % 2 ^ k.bits : Nat) : Int) := by
  simp only [IntKind.wrap, hk, Bool.false_and, Bool.false_eq_true, if_false]
  rw [Int.natCast_emod]; congr 1
theorem wrapN_lt {k : IntKind} (hk : k.signed = false) {m : Nat} (h : m < 2 ^ k.bits) : k.wrap (m : Int) = (m : Int) := by rw [wrapN hk, Nat.mod_eq_of_lt h]
theorem ofInt_nat {b m : Nat} (hm : m < 2 ^ b) : (BitVec.ofInt b (m : Int)).toNat = m := by
  rw [BitVec.toNat_ofInt, show (((m : Int) % (2 ^ b : Nat)).toNat) = m % 2 ^ b by rw [← Int.natCast_emod]; rfl]
  exact Nat.mod_eq_of_lt hm
theorem Yl.andN (hk : k.signed = false) (hx : ev ρ x = some (.int k (m : Int))) (hy : ev ρ y = some (.int k (n : Int))) (hm : m < 2 ^ k.bits) (hn : n < 2 ^ k.bits) :
    Yl X (.binOp .and t x y u) ty ρ A (.int k ((m &&& n : Nat) : Int)) := fun o ho _ a w f _ => by
  have : m &&& n < 2 ^ k.bits := Nat.lt_of_le_of_lt Nat.and_le_left hm
  have e : (BitVec.ofInt k.bits (m : Int) &&& BitVec.ofInt k.bits (n : Int)).toNat = m &&& n := by rw [BitVec.toNat_and, ofInt_nat hm, ofInt_nat hn]
  simp only [execOp, ho, f.ev hx, f.ev hy, eqGuard, binOp, Op.intBits, e, wrapN_lt hk this]
  simp
theorem Yl.orN (hk : k.signed = false) (hx : ev ρ x = some (.int k (m : Int))) (hy : ev ρ y = some (.int k (n : Int))) (hm : m < 2 ^ k.bits) (hn : n < 2 ^ k.bits) :
    Yl X (.binOp .or t x y u) ty ρ A (.int k ((m ||| n : Nat) : Int)) := fun o ho _ a w f _ => by
  have : m ||| n < 2 ^ k.bits := Nat.or_lt_two_pow hm hn
  have e : (BitVec.ofInt k.bits (m : Int) ||| BitVec.ofInt k.bits (n : Int)).toNat = m ||| n := by rw [BitVec.toNat_or, ofInt_nat hm, ofInt_nat hn]
  simp only [execOp, ho, f.ev hx, f.ev hy, eqGuard, binOp, Op.intBits, e, wrapN_lt hk this]
  simp
theorem Yl.xorN (hk : k.signed = false) (hx : ev ρ x = some (.int k (m : Int))) (hy : ev ρ y = some (.int k (n : Int))) (hm : m < 2 ^ k.bits) (hn : n < 2 ^ k.bits) :
    Yl X (.binOp .xor t x y u) ty ρ A (.int k ((m ^^^ n : Nat) : Int)) := fun o ho _ a w f _ => by
  have : m ^^^ n < 2 ^ k.bits := Nat.xor_lt_two_pow hm hn
  have e : (BitVec.ofInt k.bits (m : Int) ^^^ BitVec.ofInt k.bits (n : Int)).toNat = m ^^^ n := by rw [BitVec.toNat_xor, ofInt_nat hm, ofInt_nat hn]
  simp only [execOp, ho, f.ev hx, f.ev hy, eqGuard, binOp, Op.intBits, e, wrapN_lt hk this]
  simp
theorem Yl.andNotN (hk : k.signed = false) (hx : ev ρ x = some (.int k (m : Int))) (hy : ev ρ y = some (.int k (n : Int))) (hm : m < 2 ^ k.bits) (hn : n < 2 ^ k.bits) :
    Yl X (.binOp .andNot t x y u) ty ρ A (.int k ((m &&& (2 ^ k.bits - 1 - n) : Nat) : Int)) := fun o ho _ a w f _ => by
  have : m &&& (2 ^ k.bits - 1 - n) < 2 ^ k.bits := Nat.lt_of_le_of_lt Nat.and_le_left hm
  have e : (BitVec.ofInt k.bits (m : Int) &&& ~~~(BitVec.ofInt k.bits (n : Int))).toNat = m &&& (2 ^ k.bits - 1 - n) := by rw [BitVec.toNat_and, BitVec.toNat_not, ofInt_nat hm, ofInt_nat hn]
  simp only [execOp, ho, f.ev hx, f.ev hy, eqGuard, binOp, Op.intBits, e, wrapN_lt hk this]
  simp
theorem Yl.shrN {k' : IntKind} (hx : ev ρ x = some (.int k (m : Int))) (hy : ev ρ y = some (.int k' (n : Int))) (hn : n ≤ k.bits) :
    Yl X (.binOp .shr t x y u) ty ρ A (.int k ((m / 2 ^ n : Nat) : Int)) := fun o ho _ a w f _ => by
  have e : (m : Int).fdiv (2 ^ n) = ((m / 2 ^ n : Nat) : Int) := by
    rw [Int.fdiv_eq_ediv_of_nonneg _ (by exact Int.le_of_lt (Int.pow_pos (by decide)))]
    norm_cast
  simp only [execOp, ho, f.ev hx, f.ev hy, eqGuard, binOp, Op.shift]
  simp [show ¬ ((n : Int) < 0) by omega, Nat.min_eq_left hn, e]
theorem Yl.shlN {k' : IntKind} (hk : k.signed = false) (hx : ev ρ x = some (.int k (m : Int))) (hy : ev ρ y = some (.int k' (n : Int))) (hn : n ≤ k.bits) :
    Yl X (.binOp .shl t x y u) ty ρ A (.int k ((m * 2 ^ n % 2 ^ k.bits : Nat) : Int)) := fun o ho _ a w f _ => by
  have e : k.wrap ((m : Int) * 2 ^ n) = ((m * 2 ^ n % 2 ^ k.bits : Nat) : Int) := by
    rw [← wrapN hk]; norm_cast
  simp only [execOp, ho, f.ev hx, f.ev hy, eqGuard, binOp, Op.shift]
  simp [show ¬ ((n : Int) < 0) by omega, Nat.min_eq_left hn, e]
theorem Yl.addN (hk : k.signed = false) (hx : ev ρ x = some (.int k (m : Int))) (hy : ev ρ y = some (.int k (n : Int))) :
    Yl X (.binOp .add t x y u) ty ρ A (.int k (((m + n) % 2 ^ k.bits : Nat) : Int)) := fun o ho _ a w f _ => by
  have e : k.wrap ((m : Int) + n) = (((m + n) % 2 ^ k.bits : Nat) : Int) := by rw [← wrapN hk]; norm_cast
  simp [execOp, ho, f.ev hx, f.ev hy, eqGuard, binOp, Op.intArith, e]
theorem Yl.mulN (hk : k.signed = false) (hx : ev ρ x = some (.int k (m : Int))) (hy : ev ρ y = some (.int k (n : Int))) :
    Yl X (.binOp .mul t x y u) ty ρ A (.int k (((m * n) % 2 ^ k.bits : Nat) : Int)) := fun o ho _ a w f _ => by
  have e : k.wrap ((m : Int) * n) = (((m * n) % 2 ^ k.bits : Nat) : Int) := by rw [← wrapN hk]; norm_cast
  simp [execOp, ho, f.ev hx, f.ev hy, eqGuard, binOp, Op.intArith, e]
theorem Yl.quoN (hk : k.signed = false) (hx : ev ρ x = some (.int k (m : Int))) (hy : ev ρ y = some (.int k (n : Int))) (hm : m < 2 ^ k.bits) (hn : 0 < n) :
    Yl X (.binOp .quo t x y u) ty ρ A (.int k ((m / n : Nat) : Int)) := fun o ho _ a w f _ => by
  have e : k.wrap ((m : Int).tdiv n) = ((m / n : Nat) : Int) := by
    rw [Int.tdiv_eq_ediv_of_nonneg (by omega), ← Int.natCast_ediv, wrapN hk, Nat.mod_eq_of_lt (Nat.lt_of_le_of_lt (Nat.div_le_self _ _) hm)]
  simp only [execOp, ho, f.ev hx, f.ev hy, eqGuard, binOp, Op.intDiv, if_neg (show ¬ (n : Int) = 0 by omega), e]
  simp
theorem Yl.remN (hx : ev ρ x = some (.int k (m : Int))) (hy : ev ρ y = some (.int k (n : Int))) (hn : 0 < n) :
    Yl X (.binOp .rem t x y u) ty ρ A (.int k ((m % n : Nat) : Int)) := fun o ho _ a w f _ => by
  have e : (m : Int).tmod n = ((m % n : Nat) : Int) := by rw [Int.tmod_eq_emod_of_nonneg (by omega), Int.natCast_emod]
  simp [execOp, ho, f.ev hx, f.ev hy, eqGuard, binOp, Op.intDiv, show ¬ n = 0 by omega, e]
theorem Yl.convN {s t : TypeId} {k' : IntKind} {du : TypeDesc} (hs : X.P.underlying s = some du) (ht : X.P.underlying t = some (.int k)) (hk : k.signed = false)
    (hx : ev ρ x = some (.int k' (m : Int))) : Yl X (.convert s t x) ty ρ A (.int k ((m % 2 ^ k.bits : Nat) : Int)) := fun o ho _ a w f _ => by
  simp [execOp, ho, f.ev hx, convert, run_underlying hs, run_underlying ht, Conv.intToInt, wrapN hk]
theorem Yl.conv64 {s t : TypeId} {k' : IntKind} {du : TypeDesc} (hs : X.P.underlying s = some du) (ht : X.P.underlying t = some (.int .i64))
    (hx : ev ρ x = some (.int k' (m : Int))) (hm : m < 9223372036854775808) : Yl X (.convert s t x) ty ρ A (.int .i64 (m : Int)) := fun o ho _ a w f _ => by
  simp [execOp, ho, f.ev hx, convert, run_underlying hs, run_underlying ht, Conv.intToInt, wrap64_fits (z := (m : Int)) (by omega) (by omega)]

/-! ### With a literal on the right -/
section
variable {c : Nat}
theorem lit_cast (c : Nat) : (OfNat.ofNat c : Int) = ((OfNat.ofNat c : Nat) : Int) := rfl
theorem Yl.andC (hk : k.signed = false) (hx : ev ρ x = some (.int k (m : Int))) (hm : m < 2 ^ k.bits) (hn : (OfNat.ofNat c : Nat) < 2 ^ k.bits) :
    Yl X (.binOp .and t x (.const (.int k (OfNat.ofNat c))) u) ty ρ A (.int k ((m &&& (OfNat.ofNat c) : Nat) : Int)) := Yl.andN hk hx rfl hm hn
theorem Yl.orC (hk : k.signed = false) (hx : ev ρ x = some (.int k (m : Int))) (hm : m < 2 ^ k.bits) (hn : (OfNat.ofNat c : Nat) < 2 ^ k.bits) :
    Yl X (.binOp .or t x (.const (.int k (OfNat.ofNat c))) u) ty ρ A (.int k ((m ||| (OfNat.ofNat c) : Nat) : Int)) := Yl.orN hk hx rfl hm hn
theorem Yl.xorC (hk : k.signed = false) (hx : ev ρ x = some (.int k (m : Int))) (hm : m < 2 ^ k.bits) (hn : (OfNat.ofNat c : Nat) < 2 ^ k.bits) :
    Yl X (.binOp .xor t x (.const (.int k (OfNat.ofNat c))) u) ty ρ A (.int k ((m ^^^ (OfNat.ofNat c) : Nat) : Int)) := Yl.xorN hk hx rfl hm hn
theorem Yl.andNotC (hk : k.signed = false) (hx : ev ρ x = some (.int k (m : Int))) (hm : m < 2 ^ k.bits) (hn : (OfNat.ofNat c : Nat) < 2 ^ k.bits) :
    Yl X (.binOp .andNot t x (.const (.int k (OfNat.ofNat c))) u) ty ρ A (.int k ((m &&& (2 ^ k.bits - 1 - OfNat.ofNat c) : Nat) : Int)) := Yl.andNotN hk hx rfl hm hn
theorem Yl.shrC {k' : IntKind} (hx : ev ρ x = some (.int k (m : Int))) (hn : (OfNat.ofNat c : Nat) ≤ k.bits) :
    Yl X (.binOp .shr t x (.const (.int k' (OfNat.ofNat c))) u) ty ρ A (.int k ((m >>> (OfNat.ofNat c : Nat) : Nat) : Int)) := by
  rw [Nat.shiftRight_eq_div_pow]; exact Yl.shrN hx rfl hn
theorem Yl.shlC {k' : IntKind} (hk : k.signed = false) (hx : ev ρ x = some (.int k (m : Int))) (hn : (OfNat.ofNat c : Nat) ≤ k.bits) :
    Yl X (.binOp .shl t x (.const (.int k' (OfNat.ofNat c))) u) ty ρ A (.int k ((m <<< (OfNat.ofNat c : Nat) % 2 ^ k.bits : Nat) : Int)) := by
  rw [Nat.shiftLeft_eq]; exact Yl.shlN hk hx rfl hn
theorem Yl.addC (hk : k.signed = false) (hx : ev ρ x = some (.int k (m : Int))) :
    Yl X (.binOp .add t x (.const (.int k (OfNat.ofNat c))) u) ty ρ A (.int k (((m + (OfNat.ofNat c)) % 2 ^ k.bits : Nat) : Int)) := Yl.addN hk hx rfl
theorem Yl.quoC (hk : k.signed = false) (hx : ev ρ x = some (.int k (m : Int))) (hm : m < 2 ^ k.bits) (hn : 0 < (OfNat.ofNat c : Nat)) :
    Yl X (.binOp .quo t x (.const (.int k (OfNat.ofNat c))) u) ty ρ A (.int k ((m / (OfNat.ofNat c) : Nat) : Int)) := Yl.quoN hk hx rfl hm hn
theorem Yl.remC (hx : ev ρ x = some (.int k (m : Int))) (hn : 0 < (OfNat.ofNat c : Nat)) :
    Yl X (.binOp .rem t x (.const (.int k (OfNat.ofNat c))) u) ty ρ A (.int k ((m % (OfNat.ofNat c) : Nat) : Int)) := Yl.remN hx rfl hn
end

/-! ### Naturals in an int -/
section
variable {c : Nat}
theorem Yl.add64N (hx : ev ρ x = some (.int .i64 (m : Int))) (hy : ev ρ y = some (.int .i64 (n : Int))) (h : m + n ≤ 9223372036854775807) : Yl X (.binOp .add t x y u) ty ρ A (.int .i64 ((m + n : Nat) : Int)) := by
  have := Yl.add64 (X := X) (ty := ty) (A := A) (t := t) (u := u) hx hy (by omega)
  rwa [← Int.natCast_add] at this
theorem Yl.add64C (hx : ev ρ x = some (.int .i64 (m : Int))) (h : m + (OfNat.ofNat c : Nat) ≤ 9223372036854775807) : Yl X (.binOp .add t x (.const (.int .i64 (OfNat.ofNat c))) u) ty ρ A (.int .i64 ((m + OfNat.ofNat c : Nat) : Int)) := Yl.add64N hx rfl h
theorem Yl.addC64 (hy : ev ρ y = some (.int .i64 (m : Int))) (h : (OfNat.ofNat c : Nat) + m ≤ 9223372036854775807) : Yl X (.binOp .add t (.const (.int .i64 (OfNat.ofNat c))) y u) ty ρ A (.int .i64 ((OfNat.ofNat c + m : Nat) : Int)) := Yl.add64N rfl hy h
theorem Yl.sub64N (hx : ev ρ x = some (.int .i64 (m : Int))) (hy : ev ρ y = some (.int .i64 (n : Int))) (h : n ≤ m) (h2 : m ≤ 9223372036854775807) : Yl X (.binOp .sub t x y u) ty ρ A (.int .i64 ((m - n : Nat) : Int)) := by
  have := Yl.sub64 (X := X) (ty := ty) (A := A) (t := t) (u := u) hx hy (by omega)
  rwa [← Int.natCast_sub h] at this
theorem Yl.sub64C (hx : ev ρ x = some (.int .i64 (m : Int))) (h : (OfNat.ofNat c : Nat) ≤ m) (h2 : m ≤ 9223372036854775807) : Yl X (.binOp .sub t x (.const (.int .i64 (OfNat.ofNat c))) u) ty ρ A (.int .i64 ((m - OfNat.ofNat c : Nat) : Int)) := Yl.sub64N hx rfl h h2
theorem Yl.subC64 (hy : ev ρ y = some (.int .i64 (m : Int))) (h : m ≤ (OfNat.ofNat c : Nat)) (h2 : (OfNat.ofNat c : Nat) ≤ 9223372036854775807) : Yl X (.binOp .sub t (.const (.int .i64 (OfNat.ofNat c))) y u) ty ρ A (.int .i64 ((OfNat.ofNat c - m : Nat) : Int)) := Yl.sub64N rfl hy h h2
theorem Yl.mul64N (hx : ev ρ x = some (.int .i64 (m : Int))) (hy : ev ρ y = some (.int .i64 (n : Int))) (h : m * n ≤ 9223372036854775807) : Yl X (.binOp .mul t x y u) ty ρ A (.int .i64 ((m * n : Nat) : Int)) := by
  have h0 : (0 : Int) ≤ (m : Int) * n := Int.mul_nonneg (by omega) (by omega)
  have h1 : (m : Int) * n ≤ 9223372036854775807 := by rw [← Int.natCast_mul]; omega
  have := Yl.mul64 (X := X) (ty := ty) (A := A) (t := t) (u := u) hx hy ⟨by omega, h1⟩
  rwa [← Int.natCast_mul] at this
theorem Yl.mul64C (hx : ev ρ x = some (.int .i64 (m : Int))) (h : m * (OfNat.ofNat c : Nat) ≤ 9223372036854775807) : Yl X (.binOp .mul t x (.const (.int .i64 (OfNat.ofNat c))) u) ty ρ A (.int .i64 ((m * OfNat.ofNat c : Nat) : Int)) := Yl.mul64N hx rfl h
theorem Yl.mulC64 (hy : ev ρ y = some (.int .i64 (m : Int))) (h : (OfNat.ofNat c : Nat) * m ≤ 9223372036854775807) : Yl X (.binOp .mul t (.const (.int .i64 (OfNat.ofNat c))) y u) ty ρ A (.int .i64 ((OfNat.ofNat c * m : Nat) : Int)) := Yl.mul64N rfl hy h
theorem Yl.quo64N (hx : ev ρ x = some (.int .i64 (m : Int))) (hy : ev ρ y = some (.int .i64 (n : Int))) (h : m ≤ 9223372036854775807) (hn : 0 < n) : Yl X (.binOp .quo t x y u) ty ρ A (.int .i64 ((m / n : Nat) : Int)) := by
  have := Yl.quo64 (X := X) (ty := ty) (A := A) (t := t) (u := u) hx hy (by omega) (by omega) (by omega)
  rwa [← Int.natCast_ediv] at this
theorem Yl.quo64C (hx : ev ρ x = some (.int .i64 (m : Int))) (h : m ≤ 9223372036854775807) (hn : 0 < (OfNat.ofNat c : Nat)) : Yl X (.binOp .quo t x (.const (.int .i64 (OfNat.ofNat c))) u) ty ρ A (.int .i64 ((m / OfNat.ofNat c : Nat) : Int)) := Yl.quo64N hx rfl h hn
end
end
end
end Go.Proofs.Ytmmpngigaodcgaa
