/- Regions that draw their order and change memory; 'make', 'min', bools held against each other, over frames of known slots and owned memory. -/
import Derived.Test.YtmmpngigaodcgaaCall
import Derived.OrdersHeld
import Derived.Laws.MakeOwn
import Derived.Laws.Small
namespace Go.Proofs.Ytmmpngigaodcgaa
set_option linter.unusedVariables false
set_option linter.unusedSimpArgs false
open Go Go.RowKit
section
variable {X : Cx} {ops : Array Oper} {Q : Exit → Act → World → Prop} {ρ : Env} {A B : List HA} {rest : List Oper} {d : Tmp} {op : Op} {ty : TypeId} {ps : String} {af : Array Edge} {v : Value}
/-! ### make, min, bools -/
theorem madeCells_one {z : Value} (n : Nat) : madeCells #[z] n = (List.replicate n z).toArray := by
  apply Array.ext
  · simp [madeCells]
  · intro i h1 h2
    simp [madeCells, Nat.mod_one]
theorem WL.make {x y : Operand} {t e : TypeId} {z : Value} {bytes m n : Nat} {k1 k2 : IntKind} (hu : X.P.underlying t = some (.slice e)) (he : ElemT X.P e z 1 bytes) (h1 : z.oneCell' = true)
    (hx : ev ρ x = some (.int k1 (m : Int))) (hy : ev ρ y = some (.int k2 (n : Int))) (hmn : m ≤ n) (hb : bytes * n ≤ 281474976710656) (h63 : n ≤ maxLen) (hd : Nat.blt d X.n = true)
    (h : ∀ b : Nat, WL X ops Q rest ((d, .slice (some ⟨b, 0, none⟩) m n) :: ρ) (.row (some ⟨b, 0, none⟩) n e 1 (List.replicate n z) :: A)) :
    WL X ops Q (⟨some d, .makeSlice t x y, ty, ps, af, none⟩ :: rest) ρ A :=
  WL.stepE (fun b : Nat => .slice (some ⟨b, 0, none⟩) m n) (fun b => .row (some ⟨b, 0, none⟩) n e 1 (List.replicate n z) :: A) (fun o ho _ a w f s => by
    obtain ⟨i, hi, hz, hk, hby⟩ := he.info
    have h63' : (n : Int) ≤ 9223372036854775807 := by simp only [maxLen] at h63; omega
    have hb' : (i.bytes : Int) * (n : Int) ≤ 281474976710656 := by
      have h : ((i.bytes * n : Nat) : Int) ≤ 281474976710656 := by rw [hby]; omega
      rwa [Int.natCast_mul] at h
    have hr := run_make (P := X.P) w t e i z hu hi hz k1 k2 m n (by omega) (by omega) hb' h63'
    rw [hk, Nat.mul_one, Int.toNat_natCast, Int.toNat_natCast, one_cells h1, madeCells_one] at hr
    refine ⟨w.heap.size, { w with heap := w.heap.push (.cells (List.replicate n z).toArray e) }, ?_, s.new (Kept.alloc w _) (.inr ⟨w.heap.size, (List.replicate n z).toArray, rfl, by simp, by simp, h63, by simp, by simp⟩) (fun b hb => ?_)⟩
    · simp only [execOp, ho, f.ev hx, f.ev hy, Sem.run_bind, hr, Result.andThen_ok, Sem.run_pure]
      rfl
    · simp only [HA.foot] at hb
      split at hb
      · cases hb
      · simp only [Option.map_some, Option.some.injEq] at hb; omega) hd h
theorem Yl.min2 {x y : Operand} {ts : Array TypeId} {k : IntKind} {m n : Int} (hx : ev ρ x = some (.int k m)) (hy : ev ρ y = some (.int k n)) :
    Yl X (.call { callee := .builtin .min, args := #[x, y], argTypes := ts }) ty ρ A (.int k (if n < m then n else m)) := fun o ho _ a w f _ => by
  simp [execOp, ho, resolve, invoke, builtin, f.ev hx, f.ev hy, run_min_int2]
theorem Yl.min2N {x y : Operand} {ts : Array TypeId} {k : IntKind} {m n : Nat} (hx : ev ρ x = some (.int k (m : Int))) (hy : ev ρ y = some (.int k (n : Int))) :
    Yl X (.call { callee := .builtin .min, args := #[x, y], argTypes := ts }) ty ρ A (.int k ((min m n : Nat) : Int)) := by
  have := Yl.min2 (X := X) (ty := ty) (A := A) (ts := ts) hx hy
  rwa [show (if (n : Int) < (m : Int) then (n : Int) else m) = ((min m n : Nat) : Int) by split <;> omega] at this
theorem Yl.eqlB {x y : Operand} {t u : TypeId} {p q : Bool} (ht : X.P.underlying t = some .bool) (hx : ev ρ x = some (.bool p)) (hy : ev ρ y = some (.bool q)) :
    Yl X (.binOp .eql t x y u) ty ρ A (.bool (p == q)) := fun o ho _ ac w f _ => by
  have hb : (binOp .eql t (.bool p) (.bool q)).run X.P w = .ok (.bool (p == q)) w := by
    simp only [binOp]
    simp [run_equal_bool w t p q ht]
  have hg : ∀ x y, (eqGuard .eql t x y (.bool p) (.bool q)).run X.P w = .ok () w := fun _ _ => rfl
  simp only [execOp, ho, f.ev hx, f.ev hy, Sem.run_bind, hg, Result.andThen_ok, hb, Sem.run_pure]
theorem Yl.eqlBT {x y : Operand} {t u : TypeId} {p q : Bool} (ht : X.P.underlying t = some .bool) (hx : ev ρ x = some (.bool p)) (hy : ev ρ y = some (.bool q)) (h : p = q) :
    Yl X (.binOp .eql t x y u) ty ρ A (.bool true) := by
  have := Yl.eqlB (X := X) (ty := ty) (A := A) (t := t) (u := u) ht hx hy
  rwa [show (p == q) = true by simp [h]] at this
theorem Yl.neqB {x y : Operand} {t u : TypeId} {p q : Bool} (ht : X.P.underlying t = some .bool) (hx : ev ρ x = some (.bool p)) (hy : ev ρ y = some (.bool q)) :
    Yl X (.binOp .neq t x y u) ty ρ A (.bool (p != q)) := fun o ho _ ac w f _ => by
  have hb : (binOp .neq t (.bool p) (.bool q)).run X.P w = .ok (.bool (p != q)) w := by
    simp only [binOp]
    simp [run_equal_bool w t p q ht, bne]
  have hg : ∀ x y, (eqGuard .neq t x y (.bool p) (.bool q)).run X.P w = .ok () w := fun _ _ => rfl
  simp only [execOp, ho, f.ev hx, f.ev hy, Sem.run_bind, hg, Result.andThen_ok, hb, Sem.run_pure]
/-- A whole number is converted to a kind that it fits. -/
theorem Yl.convLt {s t : TypeId} {k k' : IntKind} {du : TypeDesc} {x : Operand} {m : Nat} (hs : X.P.underlying s = some du) (ht : X.P.underlying t = some (.int k)) (hk : k.signed = false)
    (hx : ev ρ x = some (.int k' (m : Int))) (hm : m < 2 ^ k.bits) : Yl X (.convert s t x) ty ρ A (.int k (m : Int)) := by
  have := Yl.convN (X := X) (ty := ty) (A := A) hs ht hk hx
  rwa [Nat.mod_eq_of_lt hm] at this

/-- Comparisons whose outcome is known. -/
theorem Yl.lssT {x y : Operand} {t u : TypeId} {k : IntKind} {m n : Int} (hx : ev ρ x = some (.int k m)) (hy : ev ρ y = some (.int k n)) (h : m < n) : Yl X (.binOp .lss t x y u) ty ρ A (.bool true) := by
  have := Yl.lss (X := X) (ty := ty) (A := A) (t := t) (u := u) hx hy
  rwa [decide_eq_true h] at this
theorem Yl.lssF {x y : Operand} {t u : TypeId} {k : IntKind} {m n : Int} (hx : ev ρ x = some (.int k m)) (hy : ev ρ y = some (.int k n)) (h : ¬ m < n) : Yl X (.binOp .lss t x y u) ty ρ A (.bool false) := by
  have := Yl.lss (X := X) (ty := ty) (A := A) (t := t) (u := u) hx hy
  rwa [decide_eq_false h] at this
theorem Yl.gtrT {x y : Operand} {t u : TypeId} {k : IntKind} {m n : Int} (hx : ev ρ x = some (.int k m)) (hy : ev ρ y = some (.int k n)) (h : n < m) : Yl X (.binOp .gtr t x y u) ty ρ A (.bool true) := by
  have := Yl.gtr (X := X) (ty := ty) (A := A) (t := t) (u := u) hx hy
  rwa [decide_eq_true h] at this
theorem Yl.gtrF {x y : Operand} {t u : TypeId} {k : IntKind} {m n : Int} (hx : ev ρ x = some (.int k m)) (hy : ev ρ y = some (.int k n)) (h : ¬ n < m) : Yl X (.binOp .gtr t x y u) ty ρ A (.bool false) := by
  have := Yl.gtr (X := X) (ty := ty) (A := A) (t := t) (u := u) hx hy
  rwa [decide_eq_false h] at this
theorem Yl.leqT {x y : Operand} {t u : TypeId} {k : IntKind} {m n : Int} (hx : ev ρ x = some (.int k m)) (hy : ev ρ y = some (.int k n)) (h : m ≤ n) : Yl X (.binOp .leq t x y u) ty ρ A (.bool true) := by
  have := Yl.leq (X := X) (ty := ty) (A := A) (t := t) (u := u) hx hy
  rwa [decide_eq_true h] at this
theorem Yl.leqF {x y : Operand} {t u : TypeId} {k : IntKind} {m n : Int} (hx : ev ρ x = some (.int k m)) (hy : ev ρ y = some (.int k n)) (h : ¬ m ≤ n) : Yl X (.binOp .leq t x y u) ty ρ A (.bool false) := by
  have := Yl.leq (X := X) (ty := ty) (A := A) (t := t) (u := u) hx hy
  rwa [decide_eq_false h] at this
theorem Yl.geqT {x y : Operand} {t u : TypeId} {k : IntKind} {m n : Int} (hx : ev ρ x = some (.int k m)) (hy : ev ρ y = some (.int k n)) (h : n ≤ m) : Yl X (.binOp .geq t x y u) ty ρ A (.bool true) := by
  have := Yl.geq (X := X) (ty := ty) (A := A) (t := t) (u := u) hx hy
  rwa [decide_eq_true h] at this
theorem Yl.geqF {x y : Operand} {t u : TypeId} {k : IntKind} {m n : Int} (hx : ev ρ x = some (.int k m)) (hy : ev ρ y = some (.int k n)) (h : ¬ n ≤ m) : Yl X (.binOp .geq t x y u) ty ρ A (.bool false) := by
  have := Yl.geq (X := X) (ty := ty) (A := A) (t := t) (u := u) hx hy
  rwa [decide_eq_false h] at this
/-- '1 << n'. -/
theorem Yl.shl1 {y : Operand} {t u : TypeId} {k k' : IntKind} {n : Nat} (hk : k.signed = false) (hy : ev ρ y = some (.int k' (n : Int))) (hn : n < k.bits) :
    Yl X (.binOp .shl t (.const (.int k 1)) y u) ty ρ A (.int k ((2 ^ n : Nat) : Int)) := by
  have h := Yl.shlN (X := X) (ty := ty) (A := A) (t := t) (u := u) (x := .const (.int k 1)) (m := 1) hk rfl hy (by omega)
  rwa [Nat.one_mul, Nat.mod_eq_of_lt (Nat.pow_lt_pow_right (by decide) hn)] at h

/-! ### Any order, memory and all: 'A0' is what holds throughout -/
def WH (X : Cx) (A0 : List HA) (ops : Array Oper) (Q : Exit → Act → World → Prop) (fuel : Nat) (listed : Array Bool) (ρ : Env) (A : List HA) : Prop :=
  ∀ a w, Fr X.n ρ a → St X.w0 X.S A w → wpAnyH X.P .any ops Q (St X.w0 X.S A0) fuel listed a w
variable {A0 : List HA} {fuel : Nat} {listed : Array Bool}
theorem WC.regionH (A0 : List HA) {id : Nat} {l : List Oper} (hm : X.P.follows .mixedOrders = true) (h : WH X A0 l.toArray Q l.length (Array.replicate l.length false) ρ A) : WC X (.region id l.toArray true) Q ρ A :=
  fun a w f s => wp_region_held (S := St X.w0 X.S A0) hm (by simpa using h a _ f s.drew)
theorem WH.take {i : Nat} {g : Option (Nat × Bool)} (hi : ops[i]? = some ⟨some d, op, ty, ps, af, g⟩) (hg : g = none) (hs : Region.noSelect ops = true) (hf : Region.free .any ops listed i = true) (hr : (Region.ready .any ops listed).contains i = true)
    (hQ : ∀ c a w, Q (.panic c) (a.put (some d) v) w → Q (.panic c) a w) (hp : Part A A0) (hy : Yl X op ty ρ A0 v) (hd : Nat.blt d X.n = true)
    (h : WH X A0 ops Q fuel (listed.setIfInBounds i true) ((d, v) :: ρ) A) : WH X A0 ops Q (fuel + 1) listed ρ A := fun a w f s => by
  subst hg
  exact wpAnyH_take hi hs hf hr hQ (.inl ⟨by simp [Region.wanted], fun w' s' => hy _ rfl rfl a w' f s'⟩) (s.part hp) (h _ _ (f.put (blt_lt hd) v) s)
theorem WH.takeG {i j t : Nat} {b want : Bool} (hi : ops[i]? = some ⟨some d, op, ty, ps, af, some (j, want)⟩) (hj : (ops[j]?).bind (·.dst) = some t) (hv : lk ρ t = some (.bool b)) (hb : b = want)
    (hs : Region.noSelect ops = true) (hf : Region.free .any ops listed i = true) (hr : (Region.ready .any ops listed).contains i = true)
    (hQ : ∀ c a w, Q (.panic c) (a.put (some d) v) w → Q (.panic c) a w) (hp : Part A A0) (hy : Yl X op ty ρ A0 v) (hd : Nat.blt d X.n = true)
    (h : WH X A0 ops Q fuel (listed.setIfInBounds i true) ((d, v) :: ρ) A) : WH X A0 ops Q (fuel + 1) listed ρ A := fun a w f s =>
  wpAnyH_take hi hs hf hr hQ (.inl ⟨by rw [wanted_eq (o := ⟨some d, op, ty, ps, af, some (j, want)⟩) rfl hj f hv]; simp [hb], fun w' s' => hy _ rfl rfl a w' f s'⟩) (s.part hp) (h _ _ (f.put (blt_lt hd) v) s)
theorem WH.passG {i j t : Nat} {b want : Bool} (hi : ops[i]? = some ⟨some d, op, ty, ps, af, some (j, want)⟩) (hj : (ops[j]?).bind (·.dst) = some t) (hv : lk ρ t = some (.bool b)) (hb : b = !want)
    (hs : Region.noSelect ops = true) (hf : Region.free .any ops listed i = true) (hr : (Region.ready .any ops listed).contains i = true)
    (hQ : ∀ c a w, Q (.panic c) (a.put (some d) undef) w → Q (.panic c) a w) (hp : Part A A0) (hd : Nat.blt d X.n = true)
    (h : WH X A0 ops Q fuel (listed.setIfInBounds i true) ((d, undef) :: ρ) A) : WH X A0 ops Q (fuel + 1) listed ρ A := fun a w f s =>
  wpAnyH_take hi hs hf hr hQ (.inr ⟨by rw [wanted_eq (o := ⟨some d, op, ty, ps, af, some (j, want)⟩) rfl hj f hv]; simp [hb], rfl⟩) (s.part hp) (h _ _ (f.put (blt_lt hd) undef) s)
/-- In this order, as far as it goes. -/
def WT (X : Cx) (A0 : List HA) (ops : Array Oper) (Q : Exit → Act → World → Prop) (order : List Nat) (fuel : Nat) (listed : Array Bool) (ρ : Env) (A : List HA) : Prop :=
  Part A A0 ∧ Region.noSelect ops = true → WH X A0 ops Q fuel listed ρ A ∧ (order = order)
theorem WH.order (order : List Nat) (hp : Part A A0) (hs : Region.noSelect ops = true) (h : WT X A0 ops Q order fuel listed ρ A) : WH X A0 ops Q fuel listed ρ A := (h ⟨hp, hs⟩).1
theorem WT.nil (h : WH X A0 ops Q fuel listed ρ A) : WT X A0 ops Q [] fuel listed ρ A := fun _ => ⟨h, rfl⟩
theorem WT.take {i : Nat} {r : List Nat} {g : Option (Nat × Bool)} (hi : ops[i]? = some ⟨some d, op, ty, ps, af, g⟩) (hg : g = none)
    (hQ : ∀ c a w, Q (.panic c) (a.put (some d) v) w → Q (.panic c) a w) (hy : Yl X op ty ρ A0 v) (hd : Nat.blt d X.n = true) (hf : Region.free .any ops listed i = true) (hr : (Region.ready .any ops listed).contains i = true)
    (h : WT X A0 ops Q r fuel (listed.setIfInBounds i true) ((d, v) :: ρ) A) : WT X A0 ops Q (i :: r) (fuel + 1) listed ρ A := fun ⟨hp, hs⟩ => ⟨WH.take hi hg hs hf hr hQ hp hy hd (h ⟨hp, hs⟩).1, rfl⟩
theorem WT.takeG {i j t : Nat} {r : List Nat} {b want : Bool} (hi : ops[i]? = some ⟨some d, op, ty, ps, af, some (j, want)⟩) (hj : (ops[j]?).bind (·.dst) = some t) (hv : lk ρ t = some (.bool b)) (hb : b = want)
    (hQ : ∀ c a w, Q (.panic c) (a.put (some d) v) w → Q (.panic c) a w) (hy : Yl X op ty ρ A0 v) (hd : Nat.blt d X.n = true) (hf : Region.free .any ops listed i = true) (hr : (Region.ready .any ops listed).contains i = true)
    (h : WT X A0 ops Q r fuel (listed.setIfInBounds i true) ((d, v) :: ρ) A) : WT X A0 ops Q (i :: r) (fuel + 1) listed ρ A := fun ⟨hp, hs⟩ => ⟨WH.takeG hi hj hv hb hs hf hr hQ hp hy hd (h ⟨hp, hs⟩).1, rfl⟩
theorem WT.passG {i j t : Nat} {r : List Nat} {b want : Bool} (hi : ops[i]? = some ⟨some d, op, ty, ps, af, some (j, want)⟩) (hj : (ops[j]?).bind (·.dst) = some t) (hv : lk ρ t = some (.bool b)) (hb : b = !want)
    (hQ : ∀ c a w, Q (.panic c) (a.put (some d) undef) w → Q (.panic c) a w) (hd : Nat.blt d X.n = true) (hf : Region.free .any ops listed i = true) (hr : (Region.ready .any ops listed).contains i = true)
    (h : WT X A0 ops Q r fuel (listed.setIfInBounds i true) ((d, undef) :: ρ) A) : WT X A0 ops Q (i :: r) (fuel + 1) listed ρ A := fun ⟨hp, hs⟩ => ⟨WH.passG hi hj hv hb hs hf hr hQ hp hd (h ⟨hp, hs⟩).1, rfl⟩
theorem WT.kg {i : Nat} {r : List Nat} {dd : Option Tmp} {j : Nat × Bool} (_ : ops[i]? = some ⟨dd, op, ty, ps, af, some j⟩) (h : WT X A0 ops Q (i :: r) fuel listed ρ A) : WT X A0 ops Q (i :: r) fuel listed ρ A := h
theorem WT.kn {i : Nat} {r : List Nat} {dd : Option Tmp} (_ : ops[i]? = some ⟨dd, op, ty, ps, af, none⟩) (h : WT X A0 ops Q (i :: r) fuel listed ρ A) : WT X A0 ops Q (i :: r) fuel listed ρ A := h
theorem WT.k_move {i : Nat} {r : List Nat} {dd : Option Tmp} {g : Option (Nat × Bool)} {x : Operand} (_ : ops[i]? = some ⟨dd, .move x, ty, ps, af, g⟩) (h : WT X A0 ops Q (i :: r) fuel listed ρ A) : WT X A0 ops Q (i :: r) fuel listed ρ A := h
theorem WT.k_assign {i : Nat} {r : List Nat} {dd : Option Tmp} {g : Option (Nat × Bool)} {x : Operand} (_ : ops[i]? = some ⟨dd, .assign x, ty, ps, af, g⟩) (h : WT X A0 ops Q (i :: r) fuel listed ρ A) : WT X A0 ops Q (i :: r) fuel listed ρ A := h
theorem WT.k_extract {i : Nat} {r : List Nat} {dd : Option Tmp} {g : Option (Nat × Bool)} {x : Operand} {j : Nat} (_ : ops[i]? = some ⟨dd, .extract x j, ty, ps, af, g⟩) (h : WT X A0 ops Q (i :: r) fuel listed ρ A) : WT X A0 ops Q (i :: r) fuel listed ρ A := h
theorem WT.k_pick {i : Nat} {r : List Nat} {dd : Option Tmp} {g : Option (Nat × Bool)} {c x y : Operand} (_ : ops[i]? = some ⟨dd, .pick c x y, ty, ps, af, g⟩) (h : WT X A0 ops Q (i :: r) fuel listed ρ A) : WT X A0 ops Q (i :: r) fuel listed ρ A := h
theorem WT.k_unop {i : Nat} {r : List Nat} {dd : Option Tmp} {g : Option (Nat × Bool)} {o : UnOp} {t : TypeId} {x : Operand} (_ : ops[i]? = some ⟨dd, .unOp o t x, ty, ps, af, g⟩) (h : WT X A0 ops Q (i :: r) fuel listed ρ A) : WT X A0 ops Q (i :: r) fuel listed ρ A := h
theorem WT.k_conv {i : Nat} {r : List Nat} {dd : Option Tmp} {g : Option (Nat × Bool)} {s t : TypeId} {x : Operand} (_ : ops[i]? = some ⟨dd, .convert s t x, ty, ps, af, g⟩) (h : WT X A0 ops Q (i :: r) fuel listed ρ A) : WT X A0 ops Q (i :: r) fuel listed ρ A := h
theorem WT.k_idxa {i : Nat} {r : List Nat} {dd : Option Tmp} {g : Option (Nat × Bool)} {t : TypeId} {x y : Operand} (_ : ops[i]? = some ⟨dd, .indexAddr t x y, ty, ps, af, g⟩) (h : WT X A0 ops Q (i :: r) fuel listed ρ A) : WT X A0 ops Q (i :: r) fuel listed ρ A := h
theorem WT.k_load {i : Nat} {r : List Nat} {dd : Option Tmp} {g : Option (Nat × Bool)} {t : TypeId} {x : Operand} (_ : ops[i]? = some ⟨dd, .load t x, ty, ps, af, g⟩) (h : WT X A0 ops Q (i :: r) fuel listed ρ A) : WT X A0 ops Q (i :: r) fuel listed ρ A := h
theorem WT.k_slice {i : Nat} {r : List Nat} {dd : Option Tmp} {g : Option (Nat × Bool)} {t : TypeId} {x : Operand} {l u m : Option Operand} (_ : ops[i]? = some ⟨dd, .slice t x l u m, ty, ps, af, g⟩) (h : WT X A0 ops Q (i :: r) fuel listed ρ A) : WT X A0 ops Q (i :: r) fuel listed ρ A := h
theorem WT.k_fld {i : Nat} {r : List Nat} {dd : Option Tmp} {g : Option (Nat × Bool)} {t : TypeId} {x : Operand} {j : Nat} (_ : ops[i]? = some ⟨dd, .fieldAddr t x j, ty, ps, af, g⟩) (h : WT X A0 ops Q (i :: r) fuel listed ρ A) : WT X A0 ops Q (i :: r) fuel listed ρ A := h
theorem WT.k_index {i : Nat} {r : List Nat} {dd : Option Tmp} {g : Option (Nat × Bool)} {t : TypeId} {x y : Operand} (_ : ops[i]? = some ⟨dd, .index t x y, ty, ps, af, g⟩) (h : WT X A0 ops Q (i :: r) fuel listed ρ A) : WT X A0 ops Q (i :: r) fuel listed ρ A := h
theorem WT.k_build {i : Nat} {r : List Nat} {dd : Option Tmp} {g : Option (Nat × Bool)} {t : TypeId} {l : Array (Nat × Operand)} (_ : ops[i]? = some ⟨dd, .build t l, ty, ps, af, g⟩) (h : WT X A0 ops Q (i :: r) fuel listed ρ A) : WT X A0 ops Q (i :: r) fuel listed ρ A := h
theorem WT.k_func {i : Nat} {r : List Nat} {dd : Option Tmp} {g : Option (Nat × Bool)} {f : Fn} {l k : Array Operand} (_ : ops[i]? = some ⟨dd, .makeFunc f l k, ty, ps, af, g⟩) (h : WT X A0 ops Q (i :: r) fuel listed ρ A) : WT X A0 ops Q (i :: r) fuel listed ρ A := h
theorem WT.k_nilc {i : Nat} {r : List Nat} {dd : Option Tmp} {g : Option (Nat × Bool)} {x : Operand} (_ : ops[i]? = some ⟨dd, .nilCheck x, ty, ps, af, g⟩) (h : WT X A0 ops Q (i :: r) fuel listed ρ A) : WT X A0 ops Q (i :: r) fuel listed ρ A := h
theorem WT.k_s2a {i : Nat} {r : List Nat} {dd : Option Tmp} {g : Option (Nat × Bool)} {t : TypeId} {x : Operand} (_ : ops[i]? = some ⟨dd, .sliceToArrayPointer t x, ty, ps, af, g⟩) (h : WT X A0 ops Q (i :: r) fuel listed ρ A) : WT X A0 ops Q (i :: r) fuel listed ρ A := h
theorem WT.k_bin (o : BinOp) {i : Nat} {r : List Nat} {dd : Option Tmp} {g : Option (Nat × Bool)} {t u : TypeId} {x y : Operand} (_ : ops[i]? = some ⟨dd, .binOp o t x y u, ty, ps, af, g⟩) (h : WT X A0 ops Q (i :: r) fuel listed ρ A) : WT X A0 ops Q (i :: r) fuel listed ρ A := h
theorem WT.k_bi (f : Builtin) {i : Nat} {r : List Nat} {dd : Option Tmp} {g : Option (Nat × Bool)} {xs ts} (_ : ops[i]? = some ⟨dd, .call { callee := .builtin f, args := xs, argTypes := ts }, ty, ps, af, g⟩) (h : WT X A0 ops Q (i :: r) fuel listed ρ A) : WT X A0 ops Q (i :: r) fuel listed ρ A := h
theorem Oper.wp_then {P : Program} {o : Oper} {a : Act} {w : World} {K : Act → World → Prop} (h : o.wp P a w K (Exit.then K Q)) : o.wp P a w K Q := by
  unfold Oper.wp at *
  generalize (execOp a.eval o).run P w = r at *
  cases r with
  | ok n w' => cases n <;> exact h
  | halt x w' => cases x <;> exact h
/-- What is asked behind an operation. -/
def HNext (X : Cx) (A0 : List HA) (ops : Array Oper) (Q : Exit → Act → World → Prop) (fuel : Nat) (listed : Array Bool) (a : Act) (w : World) : Prop :=
  St X.w0 X.S A0 w ∧ wpAnyH X.P .any ops Q (St X.w0 X.S A0) fuel listed a w
theorem WL.wpOp {i : Nat} {o : Oper} (hi : ops[i]? = some o) (h : WL X ops (Exit.then (HNext X A0 ops Q fuel (listed.setIfInBounds i true)) Q) [o] ρ A) {a : Act} {w : World} (f : Fr X.n ρ a) (s : St X.w0 X.S A w) :
    wpOp X.P ops Q i (fun a' w' => St X.w0 X.S A0 w' ∧ wpAnyH X.P .any ops Q (St X.w0 X.S A0) fuel (listed.setIfInBounds i true) a' w') a w := by
  have h1 := h a w f s
  unfold wpList at h1
  unfold Go.wpOp
  simp only [hi]
  split
  · rename_i hw
    rw [if_pos hw] at h1
    refine h1.imp (fun h1 => Oper.wp_then (Oper.wp_mono (Q := Exit.then (HNext X A0 ops Q fuel (listed.setIfInBounds i true)) Q) (fun a w hk => ?_) h1)) (fun h1 => ⟨h1.1, ?_⟩)
    · unfold wpList at hk; exact hk
    · exact h1.2
  · rename_i hw
    rw [if_neg hw] at h1
    unfold wpList at h1
    exact h1
/-- Only this one may come up. -/
theorem WH.only {i : Nat} {o : Oper} (hr : Region.ready .any ops listed = [i]) (hi : ops[i]? = some o)
    (h : WL X ops (Exit.then (HNext X A0 ops Q fuel (listed.setIfInBounds i true)) Q) [o] ρ A) : WH X A0 ops Q (fuel + 1) listed ρ A := fun a w f s =>
  wpAnyH_all hr (by simp) (fun j hj => by simp at hj; subst hj; exact h.wpOp hi f s)
theorem WH.two {i j : Nat} {o o2 : Oper} (hr : Region.ready .any ops listed = [i, j]) (hi : ops[i]? = some o) (hj : ops[j]? = some o2)
    (h : WL X ops (Exit.then (HNext X A0 ops Q fuel (listed.setIfInBounds i true)) Q) [o] ρ A)
    (h2 : WL X ops (Exit.then (HNext X A0 ops Q fuel (listed.setIfInBounds j true)) Q) [o2] ρ A) : WH X A0 ops Q (fuel + 1) listed ρ A := fun a w f s =>
  wpAnyH_all hr (by simp) (fun k hk => by
    simp at hk
    rcases hk with rfl | rfl
    · exact h.wpOp hi f s
    · exact h2.wpOp hj f s)
/-- Whichever comes up. -/
theorem WH.all {rs : List Nat} (hr : Region.ready .any ops listed = rs) (hne : rs ≠ [])
    (h : ∀ i ∈ rs, ∃ o, ops[i]? = some o ∧ WL X ops (Exit.then (HNext X A0 ops Q fuel (listed.setIfInBounds i true)) Q) [o] ρ A) : WH X A0 ops Q (fuel + 1) listed ρ A := fun a w f s =>
  wpAnyH_all hr hne (fun i hi => by obtain ⟨o, ho, hh⟩ := h i hi; exact hh.wpOp ho f s)
theorem WN.nextH (hp : Part A A0) (h : WH X A0 ops Q fuel listed ρ A) : WN X (Exit.then (HNext X A0 ops Q fuel listed) Q) .normal ρ A := fun a w f s => ⟨s.part hp, h a w f s⟩
theorem WH.done (hr : Region.ready .any ops listed = []) (h : WN X Q .normal ρ A) : WH X A0 ops Q fuel listed ρ A := fun a w f s => wpAnyH_done hr (h a w f s) fuel
end
end Go.Proofs.Ytmmpngigaodcgaa
