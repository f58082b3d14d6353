import Derived.Test.YtbkdjfgkebkknaaGreatDoorRowJournalRowsMg2
import Derived.OrdersHeld
import Derived.Laws.MakeOwn
import Derived.Laws.Small
import Derived.MapKept
import Derived.WideMake
import Derived.Maps.Own
import Derived.Lib.SlKeysI
namespace Go.Proofs.YtbkdjfgkebkknaaGreatDoor
set_option linter.unusedVariables false
set_option linter.unusedSimpArgs false
open Go Go.RowKit
section
variable {X : Cx} {ops : Array Oper} {Q : Exit → Act → World → Prop} {ρ : Env} {A B : List HA} {rest : List Oper} {d : Tmp} {op : Op} {ty : TypeId} {ps : String} {af : Array Edge} {v : Value}
theorem madeCells_one {z : Value} (n : Nat) : madeCells #[z] n = (List.replicate n z).toArray := by
  apply Array.ext
  · simp [madeCells]
  · intro i h1 h2
    simp [madeCells, Nat.mod_one]
theorem WL.make {x y : Operand} {t e : TypeId} {z : Value} {bytes m n : Nat} {k1 k2 : IntKind} (hu : X.P.underlying t = some (.slice e)) (he : ElemT X.P e z 1 bytes) (h1 : z.oneCell' = true)
    (hx : ev ρ x = some (.int k1 (m : Int))) (hy : ev ρ y = some (.int k2 (n : Int))) (hmn : m ≤ n) (hb : bytes * n ≤ 281474976710656) (h63 : n ≤ maxLen) (hd : Nat.blt d X.n = true)
    (h : ∀ b : Nat, WL X ops Q rest ((d, .slice (some ⟨b, 0, none⟩) m n) :: ρ) (.row (some ⟨b, 0, none⟩) n e 1 (List.replicate n z) :: A)) :
    WL X ops Q (⟨some d, .makeSlice t x y, ty, ps, af, none⟩ :: rest) ρ A :=
  WL.stepE (fun b : Nat => .slice (some ⟨b, 0, none⟩) m n) (fun b => .row (some ⟨b, 0, none⟩) n e 1 (List.replicate n z) :: A) (fun o ho _ a w f s => by
    obtain ⟨i, hi, hz, hk, hby⟩ := he.info
    have h63' : (n : Int) ≤ 9223372036854775807 := by simp only [maxLen] at h63; omega
    have hb' : (i.bytes : Int) * (n : Int) ≤ 281474976710656 := by
      have h : ((i.bytes * n : Nat) : Int) ≤ 281474976710656 := by rw [hby]; omega
      rwa [Int.natCast_mul] at h
    have hr := run_make (P := X.P) w t e i z hu hi hz k1 k2 m n (by omega) (by omega) hb' h63'
    rw [hk, Nat.mul_one, Int.toNat_natCast, Int.toNat_natCast, one_cells h1, madeCells_one] at hr
    refine ⟨w.heap.size, { w with heap := w.heap.push (.cells (List.replicate n z).toArray e) }, ?_, s.new (Kept.alloc w _) (.inr ⟨w.heap.size, (List.replicate n z).toArray, rfl, by simp, by simp, h63, by simp, by simp⟩) (fun b hb => ?_)⟩
    · simp only [execOp, ho, f.ev hx, f.ev hy, Sem.run_bind, hr, Result.andThen_ok, Sem.run_pure]
      rfl
    · simp only [HA.foot] at hb
      split at hb
      · cases hb
      · simp only [Option.map_some, Option.some.injEq] at hb; omega) hd h
theorem Yl.min2 {x y : Operand} {ts : Array TypeId} {k : IntKind} {m n : Int} (hx : ev ρ x = some (.int k m)) (hy : ev ρ y = some (.int k n)) :
    Yl X (.call { callee := .builtin .min, args := #[x, y], argTypes := ts }) ty ρ A (.int k (if n < m then n else m)) := fun o ho _ a w f _ => by
  simp [execOp, ho, resolve, invoke, builtin, f.ev hx, f.ev hy, run_min_int2]
theorem Yl.min2N {x y : Operand} {ts : Array TypeId} {k : IntKind} {m n : Nat} (hx : ev ρ x = some (.int k (m : Int))) (hy : ev ρ y = some (.int k (n : Int))) :
    Yl X (.call { callee := .builtin .min, args := #[x, y], argTypes := ts }) ty ρ A (.int k ((min m n : Nat) : Int)) := by
  have := Yl.min2 (X := X) (ty := ty) (A := A) (ts := ts) hx hy
  rwa [show (if (n : Int) < (m : Int) then (n : Int) else m) = ((min m n : Nat) : Int) by split <;> omega] at this
theorem Yl.eqlB {x y : Operand} {t u : TypeId} {p q : Bool} (ht : X.P.underlying t = some .bool) (hx : ev ρ x = some (.bool p)) (hy : ev ρ y = some (.bool q)) :
    Yl X (.binOp .eql t x y u) ty ρ A (.bool (p == q)) := fun o ho _ ac w f _ => by
  have hb : (binOp .eql t (.bool p) (.bool q)).run X.P w = .ok (.bool (p == q)) w := by
    simp only [binOp]
    simp [run_equal_bool w t p q ht]
  have hg : ∀ x y, (eqGuard .eql t x y (.bool p) (.bool q)).run X.P w = .ok () w := fun _ _ => rfl
  simp only [execOp, ho, f.ev hx, f.ev hy, Sem.run_bind, hg, Result.andThen_ok, hb, Sem.run_pure]
theorem Yl.eqlBT {x y : Operand} {t u : TypeId} {p q : Bool} (ht : X.P.underlying t = some .bool) (hx : ev ρ x = some (.bool p)) (hy : ev ρ y = some (.bool q)) (h : p = q) :
    Yl X (.binOp .eql t x y u) ty ρ A (.bool true) := by
  have := Yl.eqlB (X := X) (ty := ty) (A := A) (t := t) (u := u) ht hx hy
  rwa [show (p == q) = true by simp [h]] at this
theorem Yl.neqB {x y : Operand} {t u : TypeId} {p q : Bool} (ht : X.P.underlying t = some .bool) (hx : ev ρ x = some (.bool p)) (hy : ev ρ y = some (.bool q)) :
    Yl X (.binOp .neq t x y u) ty ρ A (.bool (p != q)) := fun o ho _ ac w f _ => by
  have hb : (binOp .neq t (.bool p) (.bool q)).run X.P w = .ok (.bool (p != q)) w := by
    simp only [binOp]
    simp [run_equal_bool w t p q ht, bne]
  have hg : ∀ x y, (eqGuard .neq t x y (.bool p) (.bool q)).run X.P w = .ok () w := fun _ _ => rfl
  simp only [execOp, ho, f.ev hx, f.ev hy, Sem.run_bind, hg, Result.andThen_ok, hb, Sem.run_pure]
theorem Yl.convLt {s t : TypeId} {k k' : IntKind} {du : TypeDesc} {x : Operand} {m : Nat} (hs : X.P.underlying s = some du) (ht : X.P.underlying t = some (.int k)) (hk : k.signed = false)
    (hx : ev ρ x = some (.int k' (m : Int))) (hm : m < 2 ^ k.bits) : Yl X (.convert s t x) ty ρ A (.int k (m : Int)) := by
  have := Yl.convN (X := X) (ty := ty) (A := A) hs ht hk hx
  rwa [Nat.mod_eq_of_lt hm] at this

theorem Yl.lssT {x y : Operand} {t u : TypeId} {k : IntKind} {m n : Int} (hx : ev ρ x = some (.int k m)) (hy : ev ρ y = some (.int k n)) (h : m < n) : Yl X (.binOp .lss t x y u) ty ρ A (.bool true) := by
  have := Yl.lss (X := X) (ty := ty) (A := A) (t := t) (u := u) hx hy
  rwa [decide_eq_true h] at this
theorem Yl.lssF {x y : Operand} {t u : TypeId} {k : IntKind} {m n : Int} (hx : ev ρ x = some (.int k m)) (hy : ev ρ y = some (.int k n)) (h : ¬ m < n) : Yl X (.binOp .lss t x y u) ty ρ A (.bool false) := by
  have := Yl.lss (X := X) (ty := ty) (A := A) (t := t) (u := u) hx hy
  rwa [decide_eq_false h] at this
theorem Yl.gtrT {x y : Operand} {t u : TypeId} {k : IntKind} {m n : Int} (hx : ev ρ x = some (.int k m)) (hy : ev ρ y = some (.int k n)) (h : n < m) : Yl X (.binOp .gtr t x y u) ty ρ A (.bool true) := by
  have := Yl.gtr (X := X) (ty := ty) (A := A) (t := t) (u := u) hx hy
  rwa [decide_eq_true h] at this
theorem Yl.gtrF {x y : Operand} {t u : TypeId} {k : IntKind} {m n : Int} (hx : ev ρ x = some (.int k m)) (hy : ev ρ y = some (.int k n)) (h : ¬ n < m) : Yl X (.binOp .gtr t x y u) ty ρ A (.bool false) := by
  have := Yl.gtr (X := X) (ty := ty) (A := A) (t := t) (u := u) hx hy
  rwa [decide_eq_false h] at this
theorem Yl.leqT {x y : Operand} {t u : TypeId} {k : IntKind} {m n : Int} (hx : ev ρ x = some (.int k m)) (hy : ev ρ y = some (.int k n)) (h : m ≤ n) : Yl X (.binOp .leq t x y u) ty ρ A (.bool true) := by
  have := Yl.leq (X := X) (ty := ty) (A := A) (t := t) (u := u) hx hy
  rwa [decide_eq_true h] at this
theorem Yl.leqF {x y : Operand} {t u : TypeId} {k : IntKind} {m n : Int} (hx : ev ρ x = some (.int k m)) (hy : ev ρ y = some (.int k n)) (h : ¬ m ≤ n) : Yl X (.binOp .leq t x y u) ty ρ A (.bool false) := by
  have := Yl.leq (X := X) (ty := ty) (A := A) (t := t) (u := u) hx hy
  rwa [decide_eq_false h] at this
theorem Yl.geqT {x y : Operand} {t u : TypeId} {k : IntKind} {m n : Int} (hx : ev ρ x = some (.int k m)) (hy : ev ρ y = some (.int k n)) (h : n ≤ m) : Yl X (.binOp .geq t x y u) ty ρ A (.bool true) := by
  have := Yl.geq (X := X) (ty := ty) (A := A) (t := t) (u := u) hx hy
  rwa [decide_eq_true h] at this
theorem Yl.geqF {x y : Operand} {t u : TypeId} {k : IntKind} {m n : Int} (hx : ev ρ x = some (.int k m)) (hy : ev ρ y = some (.int k n)) (h : ¬ n ≤ m) : Yl X (.binOp .geq t x y u) ty ρ A (.bool false) := by
  have := Yl.geq (X := X) (ty := ty) (A := A) (t := t) (u := u) hx hy
  rwa [decide_eq_false h] at this
def WH (X : Cx) (A0 : List HA) (ops : Array Oper) (Q : Exit → Act → World → Prop) (fuel : Nat) (listed : Array Bool) (ρ : Env) (A : List HA) : Prop :=
  ∀ a w, Fr X.n ρ a → St X.w0 X.S A w → wpAnyH X.P .any ops Q (St X.w0 X.S A0) fuel listed a w
variable {A0 : List HA} {fuel : Nat} {listed : Array Bool}
theorem WC.regionH (A0 : List HA) {id : Nat} {l : List Oper} (hm : X.P.follows .mixedOrders = true) (h : WH X A0 l.toArray Q l.length (Array.replicate l.length false) ρ A) : WC X (.region id l.toArray true) Q ρ A :=
  fun a w f s => wp_region_held (S := St X.w0 X.S A0) hm (by simpa using h a _ f s.drew)
theorem WH.take {i : Nat} {g : Option (Nat × Bool)} (hi : ops[i]? = some ⟨some d, op, ty, ps, af, g⟩) (hg : g = none) (hs : Region.noSelect ops = true) (hf : Region.free .any ops listed i = true) (hr : (Region.ready .any ops listed).contains i = true)
    (hQ : ∀ c a w, Q (.panic c) (a.put (some d) v) w → Q (.panic c) a w) (hp : Part A A0) (hy : Yl X op ty ρ A0 v) (hd : Nat.blt d X.n = true)
    (h : WH X A0 ops Q fuel (listed.setIfInBounds i true) ((d, v) :: ρ) A) : WH X A0 ops Q (fuel + 1) listed ρ A := fun a w f s => by
  subst hg
  exact wpAnyH_take hi hs hf hr hQ (.inl ⟨by simp [Region.wanted], fun w' s' => hy _ rfl rfl a w' f s'⟩) (s.part hp) (h _ _ (f.put (blt_lt hd) v) s)
theorem WH.takeG {i j t : Nat} {b want : Bool} (hi : ops[i]? = some ⟨some d, op, ty, ps, af, some (j, want)⟩) (hj : (ops[j]?).bind (·.dst) = some t) (hv : lk ρ t = some (.bool b)) (hb : b = want)
    (hs : Region.noSelect ops = true) (hf : Region.free .any ops listed i = true) (hr : (Region.ready .any ops listed).contains i = true)
    (hQ : ∀ c a w, Q (.panic c) (a.put (some d) v) w → Q (.panic c) a w) (hp : Part A A0) (hy : Yl X op ty ρ A0 v) (hd : Nat.blt d X.n = true)
    (h : WH X A0 ops Q fuel (listed.setIfInBounds i true) ((d, v) :: ρ) A) : WH X A0 ops Q (fuel + 1) listed ρ A := fun a w f s =>
  wpAnyH_take hi hs hf hr hQ (.inl ⟨by rw [wanted_eq (o := ⟨some d, op, ty, ps, af, some (j, want)⟩) rfl hj f hv]; simp [hb], fun w' s' => hy _ rfl rfl a w' f s'⟩) (s.part hp) (h _ _ (f.put (blt_lt hd) v) s)
theorem WH.passG {i j t : Nat} {b want : Bool} (hi : ops[i]? = some ⟨some d, op, ty, ps, af, some (j, want)⟩) (hj : (ops[j]?).bind (·.dst) = some t) (hv : lk ρ t = some (.bool b)) (hb : b = !want)
    (hs : Region.noSelect ops = true) (hf : Region.free .any ops listed i = true) (hr : (Region.ready .any ops listed).contains i = true)
    (hQ : ∀ c a w, Q (.panic c) (a.put (some d) undef) w → Q (.panic c) a w) (hp : Part A A0) (hd : Nat.blt d X.n = true)
    (h : WH X A0 ops Q fuel (listed.setIfInBounds i true) ((d, undef) :: ρ) A) : WH X A0 ops Q (fuel + 1) listed ρ A := fun a w f s =>
  wpAnyH_take hi hs hf hr hQ (.inr ⟨by rw [wanted_eq (o := ⟨some d, op, ty, ps, af, some (j, want)⟩) rfl hj f hv]; simp [hb], rfl⟩) (s.part hp) (h _ _ (f.put (blt_lt hd) undef) s)
def WT (X : Cx) (A0 : List HA) (ops : Array Oper) (Q : Exit → Act → World → Prop) (order : List Nat) (fuel : Nat) (listed : Array Bool) (ρ : Env) (A : List HA) : Prop :=
  Part A A0 ∧ Region.noSelect ops = true → WH X A0 ops Q fuel listed ρ A ∧ (order = order)
theorem WH.order (order : List Nat) (hp : Part A A0) (hs : Region.noSelect ops = true) (h : WT X A0 ops Q order fuel listed ρ A) : WH X A0 ops Q fuel listed ρ A := (h ⟨hp, hs⟩).1
theorem WT.nil (h : WH X A0 ops Q fuel listed ρ A) : WT X A0 ops Q [] fuel listed ρ A := fun _ => ⟨h, rfl⟩
theorem WT.take {i : Nat} {r : List Nat} {g : Option (Nat × Bool)} (hi : ops[i]? = some ⟨some d, op, ty, ps, af, g⟩) (hg : g = none)
    (hQ : ∀ c a w, Q (.panic c) (a.put (some d) v) w → Q (.panic c) a w) (hy : Yl X op ty ρ A0 v) (hd : Nat.blt d X.n = true) (hf : Region.free .any ops listed i = true) (hr : (Region.ready .any ops listed).contains i = true)
    (h : WT X A0 ops Q r fuel (listed.setIfInBounds i true) ((d, v) :: ρ) A) : WT X A0 ops Q (i :: r) (fuel + 1) listed ρ A := fun ⟨hp, hs⟩ => ⟨WH.take hi hg hs hf hr hQ hp hy hd (h ⟨hp, hs⟩).1, rfl⟩
theorem WT.takeG {i j t : Nat} {r : List Nat} {b want : Bool} (hi : ops[i]? = some ⟨some d, op, ty, ps, af, some (j, want)⟩) (hj : (ops[j]?).bind (·.dst) = some t) (hv : lk ρ t = some (.bool b)) (hb : b = want)
    (hQ : ∀ c a w, Q (.panic c) (a.put (some d) v) w → Q (.panic c) a w) (hy : Yl X op ty ρ A0 v) (hd : Nat.blt d X.n = true) (hf : Region.free .any ops listed i = true) (hr : (Region.ready .any ops listed).contains i = true)
    (h : WT X A0 ops Q r fuel (listed.setIfInBounds i true) ((d, v) :: ρ) A) : WT X A0 ops Q (i :: r) (fuel + 1) listed ρ A := fun ⟨hp, hs⟩ => ⟨WH.takeG hi hj hv hb hs hf hr hQ hp hy hd (h ⟨hp, hs⟩).1, rfl⟩
theorem WT.passG {i j t : Nat} {r : List Nat} {b want : Bool} (hi : ops[i]? = some ⟨some d, op, ty, ps, af, some (j, want)⟩) (hj : (ops[j]?).bind (·.dst) = some t) (hv : lk ρ t = some (.bool b)) (hb : b = !want)
    (hQ : ∀ c a w, Q (.panic c) (a.put (some d) undef) w → Q (.panic c) a w) (hd : Nat.blt d X.n = true) (hf : Region.free .any ops listed i = true) (hr : (Region.ready .any ops listed).contains i = true)
    (h : WT X A0 ops Q r fuel (listed.setIfInBounds i true) ((d, undef) :: ρ) A) : WT X A0 ops Q (i :: r) (fuel + 1) listed ρ A := fun ⟨hp, hs⟩ => ⟨WH.passG hi hj hv hb hs hf hr hQ hp hd (h ⟨hp, hs⟩).1, rfl⟩
theorem WT.kg {i : Nat} {r : List Nat} {dd : Option Tmp} {j : Nat × Bool} (_ : ops[i]? = some ⟨dd, op, ty, ps, af, some j⟩) (h : WT X A0 ops Q (i :: r) fuel listed ρ A) : WT X A0 ops Q (i :: r) fuel listed ρ A := h
theorem WT.kn {i : Nat} {r : List Nat} {dd : Option Tmp} (_ : ops[i]? = some ⟨dd, op, ty, ps, af, none⟩) (h : WT X A0 ops Q (i :: r) fuel listed ρ A) : WT X A0 ops Q (i :: r) fuel listed ρ A := h
theorem WT.k_move {i : Nat} {r : List Nat} {dd : Option Tmp} {g : Option (Nat × Bool)} {x : Operand} (_ : ops[i]? = some ⟨dd, .move x, ty, ps, af, g⟩) (h : WT X A0 ops Q (i :: r) fuel listed ρ A) : WT X A0 ops Q (i :: r) fuel listed ρ A := h
theorem WT.k_assign {i : Nat} {r : List Nat} {dd : Option Tmp} {g : Option (Nat × Bool)} {x : Operand} (_ : ops[i]? = some ⟨dd, .assign x, ty, ps, af, g⟩) (h : WT X A0 ops Q (i :: r) fuel listed ρ A) : WT X A0 ops Q (i :: r) fuel listed ρ A := h
theorem WT.k_extract {i : Nat} {r : List Nat} {dd : Option Tmp} {g : Option (Nat × Bool)} {x : Operand} {j : Nat} (_ : ops[i]? = some ⟨dd, .extract x j, ty, ps, af, g⟩) (h : WT X A0 ops Q (i :: r) fuel listed ρ A) : WT X A0 ops Q (i :: r) fuel listed ρ A := h
theorem WT.k_pick {i : Nat} {r : List Nat} {dd : Option Tmp} {g : Option (Nat × Bool)} {c x y : Operand} (_ : ops[i]? = some ⟨dd, .pick c x y, ty, ps, af, g⟩) (h : WT X A0 ops Q (i :: r) fuel listed ρ A) : WT X A0 ops Q (i :: r) fuel listed ρ A := h
theorem WT.k_unop {i : Nat} {r : List Nat} {dd : Option Tmp} {g : Option (Nat × Bool)} {o : UnOp} {t : TypeId} {x : Operand} (_ : ops[i]? = some ⟨dd, .unOp o t x, ty, ps, af, g⟩) (h : WT X A0 ops Q (i :: r) fuel listed ρ A) : WT X A0 ops Q (i :: r) fuel listed ρ A := h
theorem WT.k_conv {i : Nat} {r : List Nat} {dd : Option Tmp} {g : Option (Nat × Bool)} {s t : TypeId} {x : Operand} (_ : ops[i]? = some ⟨dd, .convert s t x, ty, ps, af, g⟩) (h : WT X A0 ops Q (i :: r) fuel listed ρ A) : WT X A0 ops Q (i :: r) fuel listed ρ A := h
theorem WT.k_idxa {i : Nat} {r : List Nat} {dd : Option Tmp} {g : Option (Nat × Bool)} {t : TypeId} {x y : Operand} (_ : ops[i]? = some ⟨dd, .indexAddr t x y, ty, ps, af, g⟩) (h : WT X A0 ops Q (i :: r) fuel listed ρ A) : WT X A0 ops Q (i :: r) fuel listed ρ A := h
theorem WT.k_load {i : Nat} {r : List Nat} {dd : Option Tmp} {g : Option (Nat × Bool)} {t : TypeId} {x : Operand} (_ : ops[i]? = some ⟨dd, .load t x, ty, ps, af, g⟩) (h : WT X A0 ops Q (i :: r) fuel listed ρ A) : WT X A0 ops Q (i :: r) fuel listed ρ A := h
theorem WT.k_slice {i : Nat} {r : List Nat} {dd : Option Tmp} {g : Option (Nat × Bool)} {t : TypeId} {x : Operand} {l u m : Option Operand} (_ : ops[i]? = some ⟨dd, .slice t x l u m, ty, ps, af, g⟩) (h : WT X A0 ops Q (i :: r) fuel listed ρ A) : WT X A0 ops Q (i :: r) fuel listed ρ A := h
theorem WT.k_fld {i : Nat} {r : List Nat} {dd : Option Tmp} {g : Option (Nat × Bool)} {t : TypeId} {x : Operand} {j : Nat} (_ : ops[i]? = some ⟨dd, .fieldAddr t x j, ty, ps, af, g⟩) (h : WT X A0 ops Q (i :: r) fuel listed ρ A) : WT X A0 ops Q (i :: r) fuel listed ρ A := h
theorem WT.k_index {i : Nat} {r : List Nat} {dd : Option Tmp} {g : Option (Nat × Bool)} {t : TypeId} {x y : Operand} (_ : ops[i]? = some ⟨dd, .index t x y, ty, ps, af, g⟩) (h : WT X A0 ops Q (i :: r) fuel listed ρ A) : WT X A0 ops Q (i :: r) fuel listed ρ A := h
theorem WT.k_build {i : Nat} {r : List Nat} {dd : Option Tmp} {g : Option (Nat × Bool)} {t : TypeId} {l : Array (Nat × Operand)} (_ : ops[i]? = some ⟨dd, .build t l, ty, ps, af, g⟩) (h : WT X A0 ops Q (i :: r) fuel listed ρ A) : WT X A0 ops Q (i :: r) fuel listed ρ A := h
theorem WT.k_nilc {i : Nat} {r : List Nat} {dd : Option Tmp} {g : Option (Nat × Bool)} {x : Operand} (_ : ops[i]? = some ⟨dd, .nilCheck x, ty, ps, af, g⟩) (h : WT X A0 ops Q (i :: r) fuel listed ρ A) : WT X A0 ops Q (i :: r) fuel listed ρ A := h
theorem WT.k_s2a {i : Nat} {r : List Nat} {dd : Option Tmp} {g : Option (Nat × Bool)} {t : TypeId} {x : Operand} (_ : ops[i]? = some ⟨dd, .sliceToArrayPointer t x, ty, ps, af, g⟩) (h : WT X A0 ops Q (i :: r) fuel listed ρ A) : WT X A0 ops Q (i :: r) fuel listed ρ A := h
theorem WT.k_bin (o : BinOp) {i : Nat} {r : List Nat} {dd : Option Tmp} {g : Option (Nat × Bool)} {t u : TypeId} {x y : Operand} (_ : ops[i]? = some ⟨dd, .binOp o t x y u, ty, ps, af, g⟩) (h : WT X A0 ops Q (i :: r) fuel listed ρ A) : WT X A0 ops Q (i :: r) fuel listed ρ A := h
theorem WT.k_bi (f : Builtin) {i : Nat} {r : List Nat} {dd : Option Tmp} {g : Option (Nat × Bool)} {xs ts} (_ : ops[i]? = some ⟨dd, .call { callee := .builtin f, args := xs, argTypes := ts }, ty, ps, af, g⟩) (h : WT X A0 ops Q (i :: r) fuel listed ρ A) : WT X A0 ops Q (i :: r) fuel listed ρ A := h
theorem Oper.wp_then {P : Program} {o : Oper} {a : Act} {w : World} {K : Act → World → Prop} (h : o.wp P a w K (Exit.then K Q)) : o.wp P a w K Q := by
  unfold Oper.wp at *
  generalize (execOp a.eval o).run P w = r at *
  cases r with
  | ok n w' => cases n <;> exact h
  | halt x w' => cases x <;> exact h
def HNext (X : Cx) (A0 : List HA) (ops : Array Oper) (Q : Exit → Act → World → Prop) (fuel : Nat) (listed : Array Bool) (a : Act) (w : World) : Prop :=
  St X.w0 X.S A0 w ∧ wpAnyH X.P .any ops Q (St X.w0 X.S A0) fuel listed a w
theorem WL.wpOp {i : Nat} {o : Oper} (hi : ops[i]? = some o) (h : WL X ops (Exit.then (HNext X A0 ops Q fuel (listed.setIfInBounds i true)) Q) [o] ρ A) {a : Act} {w : World} (f : Fr X.n ρ a) (s : St X.w0 X.S A w) :
    wpOp X.P ops Q i (fun a' w' => St X.w0 X.S A0 w' ∧ wpAnyH X.P .any ops Q (St X.w0 X.S A0) fuel (listed.setIfInBounds i true) a' w') a w := by
  have h1 := h a w f s
  unfold wpList at h1
  unfold Go.wpOp
  simp only [hi]
  split
  · rename_i hw
    rw [if_pos hw] at h1
    refine h1.imp (fun h1 => Oper.wp_then (Oper.wp_mono (Q := Exit.then (HNext X A0 ops Q fuel (listed.setIfInBounds i true)) Q) (fun a w hk => ?_) h1)) (fun h1 => ⟨h1.1, ?_⟩)
    · unfold wpList at hk; exact hk
    · exact h1.2
  · rename_i hw
    rw [if_neg hw] at h1
    unfold wpList at h1
    exact h1
theorem WH.only {i : Nat} {o : Oper} (hr : Region.ready .any ops listed = [i]) (hi : ops[i]? = some o)
    (h : WL X ops (Exit.then (HNext X A0 ops Q fuel (listed.setIfInBounds i true)) Q) [o] ρ A) : WH X A0 ops Q (fuel + 1) listed ρ A := fun a w f s =>
  wpAnyH_all hr (by simp) (fun j hj => by simp at hj; subst hj; exact h.wpOp hi f s)
theorem WH.two {i j : Nat} {o o2 : Oper} (hr : Region.ready .any ops listed = [i, j]) (hi : ops[i]? = some o) (hj : ops[j]? = some o2)
    (h : WL X ops (Exit.then (HNext X A0 ops Q fuel (listed.setIfInBounds i true)) Q) [o] ρ A)
    (h2 : WL X ops (Exit.then (HNext X A0 ops Q fuel (listed.setIfInBounds j true)) Q) [o2] ρ A) : WH X A0 ops Q (fuel + 1) listed ρ A := fun a w f s =>
  wpAnyH_all hr (by simp) (fun k hk => by
    simp at hk
    rcases hk with rfl | rfl
    · exact h.wpOp hi f s
    · exact h2.wpOp hj f s)
theorem WH.all {rs : List Nat} (hr : Region.ready .any ops listed = rs) (hne : rs ≠ [])
    (h : ∀ i ∈ rs, ∃ o, ops[i]? = some o ∧ WL X ops (Exit.then (HNext X A0 ops Q fuel (listed.setIfInBounds i true)) Q) [o] ρ A) : WH X A0 ops Q (fuel + 1) listed ρ A := fun a w f s =>
  wpAnyH_all hr hne (fun i hi => by obtain ⟨o, ho, hh⟩ := h i hi; exact hh.wpOp ho f s)
theorem WN.nextH (hp : Part A A0) (h : WH X A0 ops Q fuel listed ρ A) : WN X (Exit.then (HNext X A0 ops Q fuel listed) Q) .normal ρ A := fun a w f s => ⟨s.part hp, h a w f s⟩
theorem WH.done (hr : Region.ready .any ops listed = []) (h : WN X Q .normal ρ A) : WH X A0 ops Q fuel listed ρ A := fun a w f s => wpAnyH_done hr (h a w f s) fuel
end
end Go.Proofs.YtbkdjfgkebkknaaGreatDoor
namespace Go.Proofs.YtbkdjfgkebkknaaGreatDoor
set_option linter.unusedVariables false
set_option linter.unusedSimpArgs false
open Go Go.RowKit
set_option maxRecDepth 100000
section
variable {β : Type}
def ment (enc : β → Value) (x : Nat × β × Nat) : MapEntry := { key := .int .i64 (x.1 : Int), val := enc x.2.1, born := x.2.2 }
def mobj (enc : β → Value) (M : List (Nat × β × Nat)) (c : Nat) : Obj := .map (M.map (ment enc)).toArray c
def fnd : List (Nat × β × Nat) → Nat → Nat → Option (Nat × β)
  | [], _, _ => none
  | x :: M, k, i => if x.1 = k then some (i, x.2.1) else fnd M k (i + 1)
def mput : List (Nat × β × Nat) → Nat → β → List (Nat × β × Nat)
  | [], _, _ => []
  | x :: M, k, v => if x.1 = k then (x.1, v, x.2.2) :: M else x :: mput M k v
def mdel : List (Nat × β × Nat) → Nat → List (Nat × β × Nat)
  | [], _ => []
  | x :: M, k => if x.1 = k then M else x :: mdel M k
structure MapIs (n : Nat) (F : Nat → Option β) (M : List (Nat × β × Nat)) (c : Nat) : Prop where
  keys : (M.map (·.1)).Nodup
  get : ∀ k v, F k = some v ↔ ∃ b, (k, v, b) ∈ M
  low : ∀ x ∈ M, x.1 < n
  born : ∀ x ∈ M, x.2.2 < c
  borns : (M.map (·.2.2)).Nodup
def setF (F : Nat → Option β) (k : Nat) (o : Option β) : Nat → Option β := fun j => if j = k then o else F j
theorem findNow_fnd (enc : β → Value) (k : Nat) : ∀ (M : List (Nat × β × Nat)) (i : Nat), Instr.findNow (.int .i64) (.int .i64 (k : Int)) (M.map (ment enc)) i = some ((fnd M k i).map fun p => (p.1, enc p.2))
  | [], _ => rfl
  | x :: M, i => by
    simp only [List.map_cons, Instr.findNow, ment, Instr.sameNow, if_true, fnd]
    by_cases h : x.1 = k
    · subst h; simp
    · have h' : ((k : Int) == (x.1 : Int)) = false := by
        rw [beq_eq_false_iff_ne]; exact fun e => h (by omega)
      rw [h', if_neg h]
      exact findNow_fnd enc k M (i + 1)
theorem fnd_none {k : Nat} : ∀ {M : List (Nat × β × Nat)} {i : Nat}, fnd M k i = none → ∀ x ∈ M, x.1 ≠ k
  | [], _, _, _, h => by cases h
  | y :: M, i, h, x, hx => by
    unfold fnd at h
    split at h
    · cases h
    · rcases List.mem_cons.1 hx with rfl | hx
      · assumption
      · exact fnd_none h x hx
theorem fnd_some {k : Nat} : ∀ {M : List (Nat × β × Nat)} {i j : Nat} {v : β}, fnd M k i = some (j, v) → i ≤ j ∧ ∃ b, M[j - i]? = some (k, v, b)
  | [], _, _, _, h => by cases h
  | y :: M, i, j, v, h => by
    unfold fnd at h
    split at h
    · rename_i e
      simp only [Option.some.injEq, Prod.mk.injEq] at h
      obtain ⟨rfl, rfl⟩ := h
      exact ⟨Nat.le_refl _, y.2.2, by simp [← e]⟩
    · obtain ⟨h1, b, h2⟩ := fnd_some h
      refine ⟨by omega, b, ?_⟩
      rw [show j - i = (j - (i + 1)) + 1 by omega, List.getElem?_cons_succ]
      exact h2
theorem mput_modify (enc : β → Value) (k : Nat) (v : β) : ∀ {M : List (Nat × β × Nat)} {i j : Nat} {u : β}, fnd M k i = some (j, u) →
    (M.map (ment enc)).modify (j - i) (fun e => { e with key := .int .i64 (k : Int), val := enc v }) = (mput M k v).map (ment enc)
  | [], _, _, _, h => by cases h
  | y :: M, i, j, u, h => by
    have h0 := h
    unfold fnd at h
    unfold mput
    split at h
    · rename_i e
      simp only [Option.some.injEq, Prod.mk.injEq] at h
      obtain ⟨rfl, rfl⟩ := h
      rw [if_pos e]
      simp [ment, e]
    · rename_i e
      obtain ⟨h1, _⟩ := fnd_some h
      rw [if_neg e, show j - i = (j - (i + 1)) + 1 by omega, List.map_cons, List.modify_succ_cons, mput_modify enc k v h]
      rfl
theorem mdel_erase (enc : β → Value) (k : Nat) : ∀ {M : List (Nat × β × Nat)} {i j : Nat} {u : β}, fnd M k i = some (j, u) → (M.map (ment enc)).eraseIdx (j - i) = (mdel M k).map (ment enc)
  | [], _, _, _, h => by cases h
  | y :: M, i, j, u, h => by
    unfold fnd at h
    unfold mdel
    split at h
    · rename_i e
      simp only [Option.some.injEq, Prod.mk.injEq] at h
      obtain ⟨rfl, rfl⟩ := h
      rw [if_pos e]
      simp
    · rename_i e
      obtain ⟨h1, _⟩ := fnd_some h
      rw [if_neg e, show j - i = (j - (i + 1)) + 1 by omega, List.map_cons, List.eraseIdx_cons_succ, mdel_erase enc k h]
      rfl
theorem mput_map (k : Nat) (v : β) : ∀ {M : List (Nat × β × Nat)}, (M.map (·.1)).Nodup → mput M k v = M.map fun x => if x.1 = k then (x.1, v, x.2.2) else x
  | [], _ => rfl
  | y :: M, h => by
    rw [List.map_cons, List.nodup_cons] at h
    unfold mput
    split
    · rename_i e
      rw [List.map_cons, if_pos e]
      congr 1
      conv => lhs; rw [← List.map_id M]
      refine List.map_congr_left fun x hx => ?_
      rw [if_neg (fun e2 => h.1 (List.mem_map.2 ⟨x, hx, by rw [e2, e]⟩))]
      rfl
    · rename_i e
      rw [List.map_cons, if_neg e, mput_map k v h.2]
theorem mdel_filter (k : Nat) : ∀ {M : List (Nat × β × Nat)}, (M.map (·.1)).Nodup → mdel M k = M.filter fun x => decide (x.1 ≠ k)
  | [], _ => rfl
  | y :: M, h => by
    rw [List.map_cons, List.nodup_cons] at h
    unfold mdel
    split
    · rename_i e
      rw [List.filter_cons, if_neg (by simpa using e)]
      refine (List.filter_eq_self.2 fun x hx => ?_).symm
      simp only [decide_eq_true_eq]
      exact fun e2 => h.1 (List.mem_map.2 ⟨x, hx, by rw [e2, e]⟩)
    · rename_i e
      rw [List.filter_cons, if_pos (by simpa using e), mdel_filter k h.2]
theorem MapIs.empty (n : Nat) : MapIs (β := β) n (fun _ => none) [] 0 := ⟨List.nodup_nil, fun _ _ => ⟨fun h => (by cases h), fun ⟨_, h⟩ => (by cases h)⟩, fun _ h => (by cases h), fun _ h => (by cases h), List.nodup_nil⟩
section
variable {n c : Nat} {F : Nat → Option β} {M : List (Nat × β × Nat)}
theorem MapIs.fnd_eq (h : MapIs n F M c) (k : Nat) : (fnd M k 0).map (·.2) = F k := by
  cases e : fnd M k 0 with
  | none =>
    cases e2 : F k with
    | none => rfl
    | some v => obtain ⟨b, hb⟩ := (h.get k v).1 e2; exact absurd rfl (fnd_none e _ hb)
  | some p =>
    obtain ⟨j, v⟩ := p
    obtain ⟨_, b, hb⟩ := fnd_some e
    exact ((h.get k v).2 ⟨b, List.mem_of_getElem? hb⟩).symm
theorem MapIs.put {k : Nat} {u v : β} (h : MapIs n F M c) (hk : F k = some u) : MapIs n (setF F k (some v)) (mput M k v) c := by
  rw [mput_map k v h.keys]
  have e1 : (M.map fun x => if x.1 = k then (x.1, v, x.2.2) else x).map (·.1) = M.map (·.1) := by
    rw [List.map_map]; refine List.map_congr_left fun x _ => ?_; simp only [Function.comp]; split <;> rfl
  have e2 : (M.map fun x => if x.1 = k then (x.1, v, x.2.2) else x).map (·.2.2) = M.map (·.2.2) := by
    rw [List.map_map]; refine List.map_congr_left fun x _ => ?_; simp only [Function.comp]; split <;> rfl
  refine ⟨by rw [e1]; exact h.keys, fun j w => ?_, fun x hx => ?_, fun x hx => ?_, by rw [e2]; exact h.borns⟩
  · unfold setF
    by_cases e : j = k
    · subst e
      rw [if_pos rfl]
      constructor
      · intro hv
        cases hv
        obtain ⟨b, hb⟩ := (h.get j u).1 hk
        exact ⟨b, List.mem_map.2 ⟨_, hb, by simp⟩⟩
      · rintro ⟨b, hb⟩
        obtain ⟨x, hx, he⟩ := List.mem_map.1 hb
        split at he
        · simp only [Prod.mk.injEq] at he; rw [he.2.1]
        · rename_i hne; subst he; exact absurd rfl hne
    · rw [if_neg e, h.get]
      constructor
      · rintro ⟨b, hb⟩; exact ⟨b, List.mem_map.2 ⟨_, hb, if_neg e⟩⟩
      · rintro ⟨b, hb⟩
        obtain ⟨x, hx, he⟩ := List.mem_map.1 hb
        split at he
        · rename_i e3; simp only [Prod.mk.injEq] at he; exact absurd (he.1.symm.trans e3) e
        · subst he; exact ⟨b, hx⟩
  · obtain ⟨y, hy, he⟩ := List.mem_map.1 hx
    have := h.low y hy
    split at he <;> subst he <;> exact this
  · obtain ⟨y, hy, he⟩ := List.mem_map.1 hx
    have := h.born y hy
    split at he <;> subst he <;> exact this
theorem MapIs.push {k : Nat} {v : β} (h : MapIs n F M c) (hk : F k = none) (hn : k < n) : MapIs n (setF F k (some v)) (M ++ [(k, v, c)]) (c + 1) := by
  have hno : ∀ x ∈ M, x.1 ≠ k := fun x hx e => by
    have := (h.get x.1 x.2.1).2 ⟨x.2.2, hx⟩
    rw [e, hk] at this; cases this
  refine ⟨?_, fun j w => ?_, fun x hx => ?_, fun x hx => ?_, ?_⟩
  · rw [List.map_append, List.nodup_append]
    exact ⟨h.keys, by simp, fun a ha b hb e => by
      simp at hb
      obtain ⟨x, hx, rfl⟩ := List.mem_map.1 ha
      exact hno x hx (by rw [e, hb])⟩
  · unfold setF
    by_cases e : j = k
    · subst e
      rw [if_pos rfl]
      constructor
      · intro hv; cases hv; exact ⟨c, by simp⟩
      · rintro ⟨b, hb⟩
        rcases List.mem_append.1 hb with hb | hb
        · exact absurd rfl (hno _ hb)
        · simp at hb; rw [hb.1]
    · rw [if_neg e, h.get]
      constructor
      · rintro ⟨b, hb⟩; exact ⟨b, List.mem_append_left _ hb⟩
      · rintro ⟨b, hb⟩
        rcases List.mem_append.1 hb with hb | hb
        · exact ⟨b, hb⟩
        · simp at hb; exact absurd hb.1 e
  · rcases List.mem_append.1 hx with hx | hx
    · exact h.low x hx
    · simp at hx; subst hx; exact hn
  · rcases List.mem_append.1 hx with hx | hx
    · have := h.born x hx; omega
    · simp at hx; subst hx; exact Nat.lt_succ_self _
  · rw [List.map_append, List.nodup_append]
    exact ⟨h.borns, by simp, fun a ha b hb e => by
      simp at hb
      obtain ⟨x, hx, rfl⟩ := List.mem_map.1 ha
      have := h.born x hx
      omega⟩
theorem MapIs.del (h : MapIs n F M c) (k : Nat) : MapIs n (setF F k none) (mdel M k) c := by
  rw [mdel_filter k h.keys]
  refine ⟨(List.Sublist.map _ List.filter_sublist).nodup h.keys, fun j w => ?_, fun x hx => h.low x ((List.mem_filter.1 hx).1), fun x hx => h.born x ((List.mem_filter.1 hx).1), (List.Sublist.map _ List.filter_sublist).nodup h.borns⟩
  unfold setF
  by_cases e : j = k
  · subst e
    rw [if_pos rfl]
    exact ⟨fun h => (by cases h), fun ⟨b, hb⟩ => (by simp at hb)⟩
  · rw [if_neg e, h.get]
    constructor
    · rintro ⟨b, hb⟩; exact ⟨b, List.mem_filter.2 ⟨hb, by simpa using e⟩⟩
    · rintro ⟨b, hb⟩; exact ⟨b, (List.mem_filter.1 hb).1⟩
def dirtyOf (n : Nat) (F : Nat → Option β) : List Nat := (List.range n).filter fun k => (F k).isSome
theorem MapIs.sorted (h : MapIs n F M c) {ss : List Int} (hp : ss.Perm (M.map fun x => (x.1 : Int))) : ss.mergeSort (fun x y => decide (x ≤ y)) = (dirtyOf n F).map fun (k : Nat) => (k : Int) := by
  have h1 : (ss.mergeSort (fun x y => decide (x ≤ y))).Pairwise (fun a b => decide (a ≤ b) = true) := List.pairwise_mergeSort (fun a b c h1 h2 => by simp at *; omega) (fun a b => by simp; omega) ss
  have h2 : ((dirtyOf n F).map fun (k : Nat) => (k : Int)).Pairwise (fun a b => decide (a ≤ b) = true) := by
    rw [List.pairwise_map]
    exact (List.pairwise_lt_range.filter _).imp fun hab => by simp; omega
  refine List.Perm.eq_of_pairwise (fun a b _ _ h1 h2 => by simp at h1 h2; omega) h1 h2 ((List.mergeSort_perm _ _).trans (hp.trans ?_))
  rw [show (M.map fun x => (x.1 : Int)) = (M.map (·.1)).map (fun (k : Nat) => (k : Int)) by rw [List.map_map]; rfl]
  refine List.Perm.map _ ((List.perm_ext_iff_of_nodup h.keys (List.filter_sublist.nodup List.nodup_range)).2 fun k => ?_)
  constructor
  · intro hk
    obtain ⟨x, hx, rfl⟩ := List.mem_map.1 hk
    refine List.mem_filter.2 ⟨List.mem_range.2 (h.low x hx), ?_⟩
    rw [(h.get x.1 x.2.1).2 ⟨x.2.2, hx⟩]; rfl
  · intro hk
    have := (List.mem_filter.1 hk).2
    obtain ⟨v, hv⟩ := Option.isSome_iff_exists.1 this
    obtain ⟨b, hb⟩ := (h.get k v).1 hv
    exact List.mem_map.2 ⟨_, hb, rfl⟩
theorem dirty_lt {k : Nat} (h : k ∈ dirtyOf n F) : k < n := List.mem_range.1 ((List.mem_filter.1 h).1)
theorem dirty_len (n : Nat) (F : Nat → Option β) : (dirtyOf n F).length ≤ n := by
  have := List.length_filter_le (fun k => (F k).isSome) (List.range n)
  simpa [dirtyOf] using this
theorem MapIs.count (h : MapIs n F M c) : M.length ≤ n := by
  have hp := h.sorted (ss := M.map fun x => (x.1 : Int)) (List.Perm.refl _)
  have := congrArg List.length hp
  rw [List.length_mergeSort, List.length_map, List.length_map] at this
  have := dirty_len n F
  omega
end
end
end Go.Proofs.YtbkdjfgkebkknaaGreatDoor
namespace Go.Proofs.YtbkdjfgkebkknaaGreatDoor
set_option linter.unusedVariables false
set_option linter.unusedSimpArgs false
open Go Go.RowKit
section
variable {X : Cx} {ops : Array Oper} {Q : Exit → Act → World → Prop} {ρ : Env} {A B : List HA} {rest : List Oper} {d : Tmp} {op : Op} {ty : TypeId} {ps : String} {af : Array Edge} {v : Value}
theorem Yl.makeFunc {g : FuncId} {xs : List Operand} {vs : List Value} (hx : evs ρ xs = some vs) : Yl X (.makeFunc (.func g) #[] xs.toArray) ty ρ A (.func (.func g) #[] vs.toArray) := fun o ho _ a w f _ => by
  have e := evs_map f hx
  simp [execOp, ho, Instr.makeFunc, e]
theorem WL.callF {R : Value → List HA → Prop} {g : FuncId} {x : Operand} {xs : List Operand} {ts : Array TypeId} {vs cs : List Value} (he : ∀ args w, (callFunc g args).run X.P w = .ok (.enter g args) w) (hf : ev ρ x = some (.func (.func g) #[] cs.toArray)) (hx : evs ρ xs = some vs)
    (hc : ∀ w, St X.w0 X.S A w → Calls X.P g (vs ++ cs).toArray w (Gives R w)) (hd : Nat.blt d X.n = true) (h : ∀ v B, R v B → WL X ops Q rest ((d, v) :: ρ) (B ++ A)) :
    WL X ops Q (⟨some d, .call { callee := .value x, args := xs.toArray, argTypes := ts }, ty, ps, af, none⟩ :: rest) ρ A :=
  fun a w f s => wpList_plain rfl fun K hK => by
    unfold Oper.wp
    have e := evs_map f hx
    have e2 := f.ev hf
    have hr : (execOp a.eval ⟨some d, .call { callee := .value x, args := xs.toArray, argTypes := ts }, ty, ps, af, none⟩).run X.P w = .ok (.enter g (vs ++ cs).toArray) w := by
      simp [execOp, resolve, Deferred.ofValue, e2, invoke, e, he]
    rw [hr]
    exact (hc w s).mono fun e w' hq => by
      obtain ⟨v, B, rfl, hR, hs⟩ := hq
      exact hK _ _ (h v B hR _ _ (f.put (blt_lt hd) v) (s.join0 hs))
theorem WL.callFV {g : FuncId} {x : Operand} {xs : List Operand} {ts : Array TypeId} {vs cs : List Value} (he : ∀ args w, (callFunc g args).run X.P w = .ok (.enter g args) w) (hf : ev ρ x = some (.func (.func g) #[] cs.toArray)) (hx : evs ρ xs = some vs)
    (hc : ∀ w, St X.w0 X.S A w → Calls X.P g (vs ++ cs).toArray w (Gives (Val v) w)) (hd : Nat.blt d X.n = true) (h : WL X ops Q rest ((d, v) :: ρ) A) :
    WL X ops Q (⟨some d, .call { callee := .value x, args := xs.toArray, argTypes := ts }, ty, ps, af, none⟩ :: rest) ρ A :=
  WL.callF he hf hx hc hd (fun u B hu => by obtain ⟨rfl, rfl⟩ := hu; exact h)
theorem WL.passU {j t : Nat} {want : Bool} (hj : (ops[j]?).bind (·.dst) = some t) (hv : lk ρ t = some undef) (hd : Nat.blt d X.n = true)
    (h : WL X ops Q rest ((d, undef) :: ρ) A) : WL X ops Q (⟨some d, op, ty, ps, af, some (j, want)⟩ :: rest) ρ A := fun a w f s => by
  have h1 := f.get t _ hv
  have h3 : yielded ops a.tmps j = none := by
    unfold yielded
    rw [hj]
    rw [Array.getD_eq_getD_getElem?] at h1
    cases h4 : a.tmps[t]? with
    | none => simp [h4]
    | some u => rw [h4] at h1; simp at h1; subst h1; simp [h4, undef]
  unfold wpList
  rw [if_neg (by simp [Region.wanted, h3])]
  exact h _ w (f.put (blt_lt hd) undef) s
end
end Go.Proofs.YtbkdjfgkebkknaaGreatDoor
namespace Go.Proofs.YtbkdjfgkebkknaaGreatDoor
set_option linter.unusedVariables false
set_option linter.unusedSimpArgs false
open Go Go.RowKit
section
variable {X : Cx} {ops : Array Oper} {Q : Exit → Act → World → Prop} {ρ : Env} {A B : List HA} {rest : List Oper} {d : Tmp} {op : Op} {ty : TypeId} {ps : String} {af : Array Edge} {v : Value}
theorem Rd.more {A : List HA} {x : HA} {a : Option Addr} {vs : List Value} (h : Rd X A a vs) : Rd X (x :: A) a vs := fun w s => h w s.tail
theorem add_off (b off j : Nat) : (⟨b, off, none⟩ : Addr).add j = ⟨b, off + j, none⟩ := by unfold Addr.add; split <;> simp_all
theorem Yl.fieldAt {x : Operand} {t : TypeId} {fs : Array Field} {fd : Field} {i k b off : Nat} (hu : X.P.underlying t = some (.struct fs)) (hf : fs[i]? = some fd) (hs : ∀ w, (sizeOf fd.type).run X.P w = .ok (k + 1) w)
    (hx : ev ρ x = some (.pointer (some ⟨b, off, none⟩))) : Yl X (.fieldAddr t x i) ty ρ A (.pointer (some ⟨b, off + fd.offset, none⟩)) := fun o ho _ ac w f _ => by
  have e := add_off b off fd.offset
  simp [execOp, ho, f.ev hx, Instr.fieldAt, run_underlying hu, hf, Instr.sureAddr, fieldPlace, hs, e]
theorem sized {P : Program} {T : TypeId} {k : Nat} (h : (P.info? T).map (fun i => i.size) = some k) (w : World) : (sizeOf T).run P w = .ok k w := by
  cases hq : P.info? T with
  | none => simp [hq] at h
  | some i =>
    have hi : i.size = k := by simpa [hq] using h
    simp [sizeOf, typeInfo, hq, hi]
def flatB (P : Program) (fs : Array Field) : Bool := (List.range fs.size).all fun i => (fs[i]?).any fun f => Nat.beq f.offset i && ((P.info? f.type).map (fun j => j.size) == some 1)
theorem flat_field {P : Program} {fs : Array Field} (h : flatB P fs = true) {i : Nat} (hi : i < fs.size) : ∃ fd, fs[i]? = some fd ∧ fd.offset = i ∧ (P.info? fd.type).map (fun j => j.size) = some 1 := by
  have := List.all_eq_true.1 h i (List.mem_range.2 hi)
  cases hq : fs[i]? with
  | none => simp [hq] at this
  | some fd =>
    simp only [hq, Option.any_some, Bool.and_eq_true, beq_iff_eq] at this
    exact ⟨fd, rfl, Nat.eq_of_beq_eq_true this.1, this.2⟩
theorem Yl.field {x : Operand} {t : TypeId} {fs : Array Field} {i b off : Nat} (hu : X.P.underlying t = some (.struct fs)) (hf : flatB X.P fs = true) (hi : Nat.blt i fs.size = true)
    (hx : ev ρ x = some (.pointer (some ⟨b, off, none⟩))) : Yl X (.fieldAddr t x i) ty ρ A (.pointer (some ⟨b, off + i, none⟩)) := by
  obtain ⟨fd, h1, h2, h3⟩ := flat_field hf (blt_lt hi)
  have := Yl.fieldAt (X := X) (ty := ty) (A := A) hu h1 (sized h3) hx
  rwa [h2] at this
theorem Yl.field0 {x : Operand} {t : TypeId} {fs : Array Field} {i b : Nat} (hu : X.P.underlying t = some (.struct fs)) (hf : flatB X.P fs = true) (hi : Nat.blt i fs.size = true)
    (hx : ev ρ x = some (.pointer (some ⟨b, 0, none⟩))) : Yl X (.fieldAddr t x i) ty ρ A (.pointer (some ⟨b, i, none⟩)) := by
  have := Yl.field (X := X) (ty := ty) (A := A) hu hf hi hx
  rwa [Nat.zero_add] at this
def flatT (P : Program) (t : TypeId) : Bool := match P.underlying t with
  | some (.struct fs) => flatB P fs
  | _ => false
theorem flatT_of {P : Program} {t : TypeId} {fs : Array Field} (hu : P.underlying t = some (.struct fs)) (h : flatT P t = true) : flatB P fs = true := by
  unfold flatT at h; rw [hu] at h; exact h
theorem Yl.fld0 {x : Operand} {t : TypeId} {fs : Array Field} {i b : Nat} (hu : X.P.underlying t = some (.struct fs)) (hf : flatT X.P t = true) (hi : Nat.blt i fs.size = true)
    (hx : ev ρ x = some (.pointer (some ⟨b, 0, none⟩))) : Yl X (.fieldAddr t x i) ty ρ A (.pointer (some ⟨b, i, none⟩)) := Yl.field0 hu (flatT_of hu hf) hi hx
theorem Yl.fldAt {x : Operand} {t : TypeId} {fs : Array Field} {i b off : Nat} (hu : X.P.underlying t = some (.struct fs)) (hf : flatT X.P t = true) (hi : Nat.blt i fs.size = true)
    (hx : ev ρ x = some (.pointer (some ⟨b, off, none⟩))) : Yl X (.fieldAddr t x i) ty ρ A (.pointer (some ⟨b, off + i, none⟩)) := Yl.field hu (flatT_of hu hf) hi hx
theorem Yl.nilCheck {x : Operand} {a : Addr} (hx : ev ρ x = some (.pointer (some a))) : Yl X (.nilCheck x) ty ρ A (.pointer (some a)) := fun o ho _ ac w f _ => by
  simp [execOp, ho, f.ev hx]
theorem WL.boxA {T : TypeId} {x : Operand} {cs : Array Value} (hx : ev ρ x = some (.agg cs)) (hd : Nat.blt d X.n = true)
    (h : ∀ b, WL X ops Q rest ((d, .pointer (some ⟨b, 0, none⟩)) :: ρ) (.blk b (.cells cs T (0, 0)) :: A)) : WL X ops Q (⟨some d, .box T x, ty, ps, af, none⟩ :: rest) ρ A := WL.box hx hd h
theorem WL.allocA {T : TypeId} {cs : Array Value} (hz : ∀ w, (zeroValue T).run X.P w = .ok (.agg cs) w) (hd : Nat.blt d X.n = true)
    (h : ∀ b, WL X ops Q rest ((d, .pointer (some ⟨b, 0, none⟩)) :: ρ) (.blk b (.cells cs T (0, 0)) :: A)) : WL X ops Q (⟨some d, .alloc T, ty, ps, af, none⟩ :: rest) ρ A := WL.alloc hz hd h
theorem Yl.loadAll {x : Operand} {T T' : TypeId} {b k : Nat} {cs : Array Value} {fr : Nat × Nat} (hg : ∀ w, (isAgg T).run X.P w = .ok true w) (hk : ∀ w, (sizeOf T).run X.P w = .ok k w)
    (hx : ev ρ x = some (.pointer (some ⟨b, 0, none⟩))) (hm : HA.blk b (.cells cs T' fr) ∈ A) (hl : Nat.beq cs.size k = true) : Yl X (.load T x) ty ρ A (.agg cs) := by
  have := Yl.loadAgg (X := X) (ty := ty) (ρ := ρ) (us := cs.toList) hg hk hx hm (by simpa using Nat.eq_of_beq_eq_true hl) (fun i u h => by simpa using h)
  rwa [Array.toArray_toList] at this
theorem Yl.loadRd {x : Operand} {T : TypeId} {b off : Nat} {vs : List Value} (hg : ∀ w, (isAgg T).run X.P w = .ok false w) (hx : ev ρ x = some (.pointer (some ⟨b, off, none⟩)))
    (hr : Rd X A (some ⟨b, 0, none⟩) vs) (hv : vs[off]? = some v) : Yl X (.load T x) ty ρ A v := by
  refine Yl.load (a := some ⟨b, 0, none⟩) (i := off) hg ?_ hr hv
  rw [hx, el, Option.map_some, add_off, Nat.zero_add]
theorem Yl.loadAggRd {x : Operand} {T : TypeId} {b off k : Nat} {vs us : List Value} (hg : ∀ w, (isAgg T).run X.P w = .ok true w) (hk : ∀ w, (sizeOf T).run X.P w = .ok k w) (hx : ev ρ x = some (.pointer (some ⟨b, off, none⟩)))
    (hr : Rd X A (some ⟨b, 0, none⟩) vs) (hl : Nat.beq us.length k = true) (hv : (vs.drop off).take us.length = us) : Yl X (.load T x) ty ρ A (.agg us.toArray) := fun o ho _ ac w f s => by
  have hc : ∀ i u, us[i]? = some u → w.cell? ((⟨b, off, none⟩ : Addr).add i) = some u := fun i u hu => by
    have h1 : vs[off + i]? = some u := by
      rw [← hv, List.getElem?_take] at hu
      split at hu
      · rwa [List.getElem?_drop] at hu
      · cases hu
    obtain ⟨ad, h2, h3⟩ := hr.at_ h1 s
    rw [add_off]
    rw [el, Option.map_some, add_off, Nat.zero_add] at h2
    rwa [← Option.some.inj h2] at h3
  have hl' := run_loadCells_list (P := X.P) w ⟨b, off, none⟩ us hc
  rw [Nat.eq_of_beq_eq_true hl] at hl'
  simp [execOp, ho, f.ev hx, Instr.loadAt, Instr.sureAddr, loadVar, hg, hk, hl']
theorem WL.storeWhole {x y : Operand} {T T' : TypeId} {b k : Nat} {cs us : Array Value} (hs : ∀ w, (sizeOf T).run X.P w = .ok k w) (hx : ev ρ x = some (.pointer (some ⟨b, 0, none⟩)))
    (hy : ev ρ y = some (.agg us)) (h1 : us.toList.all Value.oneCell' = true) (hp : Pick (.blk b (.cells cs T' (0, 0))) A B) (hk : Nat.beq us.size k = true) (hl : Nat.beq cs.size k = true)
    (h : WL X ops Q rest ρ (.blk b (.cells us T' (0, 0)) :: B)) : WL X ops Q (⟨none, .store T x y, ty, ps, af, none⟩ :: rest) ρ A := by
  have ek := Nat.eq_of_beq_eq_true hk
  have el := Nat.eq_of_beq_eq_true hl
  refine WL.storeAll (us := us.toList) (T' := T') (cs := cs) (fun w => by rw [hs]; simp [ek]) hx (by rw [hy, Array.toArray_toList]) (fun u hu => ?_) hp (by simp; omega) (by rwa [Array.toArray_toList])
  exact List.all_eq_true.1 h1 u hu
theorem WL.storeAt {x y : Operand} {T T' : TypeId} {b off : Nat} {cs : Array Value} (hs : ∀ w, (sizeOf T).run X.P w = .ok 1 w) (hx : ev ρ x = some (.pointer (some ⟨b, off, none⟩)))
    (hy : ev ρ y = some v) (h1 : v.oneCell' = true) (hp : Pick (.blk b (.cells cs T' (0, 0))) A B) (hl : Nat.blt off cs.size = true)
    (h : WL X ops Q rest ρ (.blk b (.cells (cs.setIfInBounds off v) T' (0, 0)) :: B)) : WL X ops Q (⟨none, .store T x y, ty, ps, af, none⟩ :: rest) ρ A := by
  refine WL.store1 hs hx hy h1 hp (blt_lt hl) ?_
  have e : (cs.toList.set off v).toArray = cs.setIfInBounds off v := by rw [← Array.toList_setIfInBounds]
  rwa [e]
def evParts (ρ : Env) : List (Nat × Operand) → Option (List (Nat × Value))
  | [] => some []
  | (i, x) :: r => match ev ρ x, evParts ρ r with
    | some v, some l => some ((i, v) :: l)
    | _, _ => none
theorem evParts_map {n : Nat} {a : Act} (f : Fr n ρ a) : ∀ {ps : List (Nat × Operand)} {vs : List (Nat × Value)}, evParts ρ ps = some vs → ps.map (fun p => (p.1, a.eval p.2)) = vs := by
  intro ps
  induction ps with
  | nil => intro vs h; simp only [evParts, Option.some.injEq] at h; subst h; rfl
  | cons p ps ih =>
    intro vs h
    obtain ⟨i, x⟩ := p
    simp only [evParts] at h
    split at h
    · rename_i v l h1 h2
      obtain rfl := Option.some.inj h
      rw [List.map_cons, ih h2, f.ev h1]
    · cases h
theorem Yl.build {t : TypeId} {ps : List (Nat × Operand)} {vs : List (Nat × Value)} {u : Value} (hp : evParts ρ ps = some vs) (hb : ∀ w, (Instr.build t vs.toArray).run X.P w = .ok u w) : Yl X (.build t ps.toArray) ty ρ A u := fun o ho _ ac w f _ => by
  have := evParts_map f hp
  have e : (ps.toArray.map fun x => (x.1, ac.eval x.2)) = vs.toArray := by rw [← this]; simp
  simp only [execOp, ho]
  rw [show (Array.map (fun x => match x with | (i, x) => (i, ac.eval x)) ps.toArray) = vs.toArray from e]
  simp only [Sem.run_bind, hb, Result.andThen_ok, Sem.run_pure]
theorem Yl.indexV {x y : Operand} {t e : TypeId} {n j : Nat} {ik : IntKind} {cs : Array Value} (hu : X.P.underlying t = some (.array n e)) (hg : ∀ w, (isAgg e).run X.P w = .ok false w) (hs : ∀ w, (sizeOf e).run X.P w = .ok 1 w)
    (hx : ev ρ x = some (.agg cs)) (hy : ev ρ y = some (.int ik (j : Int))) (hj : j < n) (hv : cs[j]? = some v) : Yl X (.index t x y) ty ρ A v := fun o ho _ ac w f _ => by
  simp [execOp, ho, f.ev hx, f.ev hy, Instr.index, asIntOf, run_underlying hu, hj, part, hg, hs, hv]
theorem Yl.arrAll {x : Operand} {t e : TypeId} {n k b off : Nat} (hu : X.P.underlying t = some (.array n e)) (hs : ∀ w, (sizeOf e).run X.P w = .ok k w) (hx : ev ρ x = some (.pointer (some ⟨b, off, none⟩))) :
    Yl X (.slice t x none none none) ty ρ A (.slice (some ⟨b, off, none⟩) n n) := fun o ho _ ac w f _ => by
  have e := add_off b off 0
  simp [execOp, ho, f.ev hx, Instr.sliceAt, run_underlying hu, Instr.sureAddr, Instr.sliceBounds, hs, e]
theorem Yl.arrFrom {x l : Operand} {t e : TypeId} {n b off lo : Nat} {ik : IntKind} (hu : X.P.underlying t = some (.array n e)) (hs : ∀ w, (sizeOf e).run X.P w = .ok 1 w) (hx : ev ρ x = some (.pointer (some ⟨b, off, none⟩)))
    (hl : ev ρ l = some (.int ik (lo : Int))) (h : lo < n) : Yl X (.slice t x (some l) none none) ty ρ A (.slice (some ⟨b, off + lo, none⟩) (n - lo) (n - lo)) := fun o ho _ ac w f _ => by
  have e := add_off b off lo
  have h1 : lo ≤ n := by omega
  have h2 : ¬ n = lo := by omega
  simp [execOp, ho, f.ev hx, f.ev hl, Instr.sliceAt, run_underlying hu, Instr.sureAddr, Instr.sliceBounds, Instr.sliceBound, asIntOf, hs, e, h1, h2]
theorem WL.copy {x y : Operand} {t e T' : TypeId} {b off dl dc sl sc : Nat} {a : Option Addr} {cs : List Value} {vs : List Value} (hu : X.P.underlying t = some (.slice e)) (hs : (X.P.info? e).map (fun i => i.size) = some 1)
    (hx : ev ρ x = some (.slice (some ⟨b, off, none⟩) dl dc)) (hy : ev ρ y = some (.slice a sl sc)) (hp : Pick (.blk b (.cells cs.toArray T' (0, 0))) A B) (hr : Rd X A a vs) (hv : vs.length = min sl dl) (hf : off + vs.length ≤ cs.length)
    (h1 : ∀ u ∈ vs, u.oneCell' = true) (hd : Nat.blt d X.n = true)
    (h : WL X ops Q rest ((d, .int .i64 ((vs.length : Nat) : Int)) :: ρ) (.blk b (.cells (cs.take off ++ vs ++ cs.drop (off + vs.length)).toArray T' (0, 0)) :: B)) :
    WL X ops Q (⟨some d, .call { callee := .builtin .copy, args := #[x, y], argTypes := #[t, t] }, ty, ps, af, none⟩ :: rest) ρ A :=
  WL.step1 (fun o ho _ ac w f s => by
    have s1 := s.pick hp
    have hb : w.heap[b]? = some (.cells cs.toArray T' (0, 0)) := s1.holds _ (.head _)
    have fin : ∀ {v : Value} {w' : World}, (Builtin.copy_ #[t, t] o.type #[.slice (some ⟨b, off, none⟩) dl dc, .slice a sl sc]).run X.P w = .ok v w' → (execOp ac.eval o).run X.P w = .ok (.value v) w' := fun hr => by
      simp only [execOp, ho, resolve, invoke, builtin, Sem.run_bind, Sem.run_pure, Result.andThen_ok, List.map_toArray, List.map_cons, List.map_nil, f.ev hx, f.ev hy, hr]
    by_cases h0 : vs = []
    · subst h0
      have hr := run_copy_none (P := X.P) w t t o.type e (some ⟨b, off, none⟩) a dl dc sl sc hu hs (by simpa using hv.symm)
      refine ⟨w, fin hr, ?_⟩
      simpa using s1
    · obtain ⟨ad, rfl⟩ := hr.some_ h0 s
      have hsrc : ∀ j v, vs[j]? = some v → w.cell? (ad.add j) = some v := fun j v hj => by
        obtain ⟨ad2, h2, h3⟩ := hr.at_ hj s
        rw [el, Option.map_some] at h2
        rwa [← Option.some.inj h2] at h3
      have hr := run_copy_row (P := X.P) w t t o.type e b off dl dc ad sl sc cs.toArray T' vs hu hs hb hv hsrc (by simpa using hf) h1
      refine ⟨_, fin hr, s1.put (x := .blk b _) (y := .blk b (.cells (cs.take off ++ vs ++ cs.drop (off + vs.length)).toArray T' (0, 0))) rfl rfl (Kept.setRow w b _) ?_⟩
      exact setRow_heap w b cs.toArray _ T' _ hb) hd h
theorem St.asRow {w0 w : World} {S : List Nat} {b n : Nat} {vs : List Value} {T : TypeId} (h : St w0 S (.blk b (.cells vs.toArray T (0, 0)) :: A) w) (hl : vs.length = n) (hm : n ≤ maxLen) :
    St w0 S (.row (some ⟨b, 0, none⟩) n T 1 vs :: A) w := by
  have hb : w.heap[b]? = some (.cells vs.toArray T (0, 0)) := h.holds _ (.head _)
  by_cases h0 : n = 0
  · subst h0
    obtain rfl : vs = [] := List.eq_nil_of_length_eq_zero hl
    have t := h.tail
    refine ⟨t.kept, fun x hx => ?_, ?_, fun x hx c hc => ?_⟩
    · rcases List.mem_cons.1 hx with rfl | hx
      · exact .inl ⟨rfl, rfl⟩
      · exact t.holds x hx
    · simpa [HA.foot] using t.apart
    · rcases List.mem_cons.1 hx with rfl | hx
      · simp [HA.foot] at hc
      · exact t.mine x hx c hc
  · have hf : HA.foot (.row (some ⟨b, 0, none⟩) n T 1 vs) = HA.foot (.blk b (.cells vs.toArray T (0, 0))) := by simp [HA.foot, h0]
    refine ⟨h.kept, fun x hx => ?_, ?_, fun x hx c hc => ?_⟩
    · rcases List.mem_cons.1 hx with rfl | hx
      · exact .inr ⟨b, vs.toArray, rfl, hb, by simp [hl], hm, by simp, by simp⟩
      · exact h.holds x (.tail _ hx)
    · have := h.apart
      simp only [List.filterMap_cons, hf] at this ⊢
      exact this
    · rcases List.mem_cons.1 hx with rfl | hx
      · exact h.mine _ (.head _) c (by rw [← hf]; exact hc)
      · exact h.mine x (.tail _ hx) c hc
theorem WL.asRow {l : List Oper} {b n : Nat} {vs : List Value} {T : TypeId} (hp : Pick (.blk b (.cells vs.toArray T (0, 0))) A B) (hl : vs.length = n) (hm : n ≤ maxLen) (h : WL X ops Q l ρ (.row (some ⟨b, 0, none⟩) n T 1 vs :: B)) :
    WL X ops Q l ρ A := fun a w f s => h a w f ((s.pick hp).asRow hl hm)
theorem WC.asRow {c : Code} {b n : Nat} {vs : List Value} {T : TypeId} (hp : Pick (.blk b (.cells vs.toArray T (0, 0))) A B) (hl : vs.length = n) (hm : n ≤ maxLen) (h : WC X c Q ρ (.row (some ⟨b, 0, none⟩) n T 1 vs :: B)) :
    WC X c Q ρ A := fun a w f s => h a w f ((s.pick hp).asRow hl hm)
theorem WN.asRow {e : Exit} {b n : Nat} {vs : List Value} {T : TypeId} (hp : Pick (.blk b (.cells vs.toArray T (0, 0))) A B) (hl : vs.length = n) (hm : n ≤ maxLen) (h : WN X Q e ρ (.row (some ⟨b, 0, none⟩) n T 1 vs :: B)) :
    WN X Q e ρ A := fun a w f s => h a w f ((s.pick hp).asRow hl hm)
end
theorem cell_run {P : Program} {w0 w : World} {S : List Nat} {A : List HA} {b k : Nat} {us : Array Value} {T T' : TypeId} {fr : Nat × Nat} (hg : ∀ w, (isAgg T).run P w = .ok true w) (hk : ∀ w, (sizeOf T).run P w = .ok k w)
    (hm : HA.blk b (.cells us T' fr) ∈ A) (hl : Nat.beq us.size k = true) (s : St w0 S A w) : (loadVar T ⟨b, 0, none⟩).run P w = .ok (.agg us) w := by
  have hc : ∀ i u, us.toList[i]? = some u → w.cell? ((⟨b, 0, none⟩ : Addr).add i) = some u := fun i u hu => by
    rw [add_off, Nat.zero_add]; exact s.cell hm (by simpa using hu)
  have hl' := run_loadCells_list (P := P) w ⟨b, 0, none⟩ us.toList hc
  have e := Nat.eq_of_beq_eq_true hl
  rw [Array.length_toList, e, Array.toArray_toList] at hl'
  simp [loadVar, hg, hk, hl']
theorem WN.ret3C {P : Program} {fn : Func} {R : Value → List HA → Prop} {ρ : Env} {A B : List HA} {n : Nat} {w0 : World} {t t2 t3 : Tmp} {T T' : TypeId} {b k : Nat} {us : Array Value} {fr : Nat × Nat} {v2 v3 : Value} (hr : fn.results = #[.cell t T, .tmp t2, .tmp t3]) (hg : ∀ w, (isAgg T).run P w = .ok true w) (hk : ∀ w, (sizeOf T).run P w = .ok k w)
    (hv : lk ρ t = some (.pointer (some ⟨b, 0, none⟩))) (hv2 : lk ρ t2 = some v2) (hv3 : lk ρ t3 = some v3) (hm : HA.blk b (.cells us T' fr) ∈ A) (hl : Nat.beq us.size k = true) (hR : R (.tuple #[.agg us, v2, v3]) B) (hp : Part A B) :
    WN ⟨P, n, w0, []⟩ (bodyPost P fn (Gives R w0)) .ret ρ A :=
  fun a w f s => by
    have hc := cell_run hg hk hm hl s
    have h1 := f.get t _ hv
    have h2 := f.get t2 _ hv2
    have h3 := f.get t3 _ hv3
    refine bodyPost_ret (v := .tuple #[.agg us, v2, v3]) ?_ f.defers ⟨_, B, rfl, hR, s.part hp⟩
    rw [Array.getD_eq_getD_getElem?] at h1 h2 h3
    simp [results, hr, h1, h2, h3, asAddr, hc]
end Go.Proofs.YtbkdjfgkebkknaaGreatDoor
namespace Go.Proofs.YtbkdjfgkebkknaaGreatDoor
set_option linter.unusedVariables false
set_option linter.unusedSimpArgs false
open Go Go.RowKit
section
variable {X : Cx} {ρ : Env} {A : List HA} {ty t u : TypeId} {x y : Operand}
theorem Yl.shl64 {k' : IntKind} {m c : Nat} (hx : ev ρ x = some (.int .i64 (m : Int))) (hy : ev ρ y = some (.int k' (c : Int))) (hc : c ≤ 64) (hm : m * 2 ^ c < 9223372036854775808) :
    Yl X (.binOp .shl t x y u) ty ρ A (.int .i64 ((m * 2 ^ c : Nat) : Int)) := Yl.intro fun o ho _ a w f _ => by
  have e : IntKind.i64.wrap ((m : Int) * 2 ^ c) = ((m * 2 ^ c : Nat) : Int) := by
    have : (m : Int) * 2 ^ c = ((m * 2 ^ c : Nat) : Int) := by norm_cast
    rw [this]; exact wrap64_fits (by omega) (by omega)
  have h2 : c ≤ IntKind.i64.bits := hc
  simp only [execOp, ho, f.ev hx, f.ev hy, eqGuard, binOp, Op.shift]
  simp [show ¬ ((c : Int) < 0) by omega, Nat.min_eq_left h2, e]
theorem Yl.or64 {m n : Nat} (hx : ev ρ x = some (.int .i64 (m : Int))) (hy : ev ρ y = some (.int .i64 (n : Int))) (hm : m < 2 ^ 63) (hn : n < 2 ^ 63) :
    Yl X (.binOp .or t x y u) ty ρ A (.int .i64 ((m ||| n : Nat) : Int)) := Yl.intro fun o ho _ a w f _ => by
  have h : m ||| n < 2 ^ 63 := Nat.or_lt_two_pow hm hn
  have h63 : (2 : Nat) ^ 63 = 9223372036854775808 := by decide
  have h64 : (2 : Nat) ^ IntKind.i64.bits = 18446744073709551616 := by decide
  have e : (BitVec.ofInt IntKind.i64.bits (m : Int) ||| BitVec.ofInt IntKind.i64.bits (n : Int)).toNat = m ||| n := by rw [BitVec.toNat_or, ofInt_nat (by omega), ofInt_nat (by omega)]
  simp only [execOp, ho, f.ev hx, f.ev hy, eqGuard, binOp, Op.intBits, e, wrap64_fits (z := ((m ||| n : Nat) : Int)) (by omega) (by omega)]
  simp
end
end Go.Proofs.YtbkdjfgkebkknaaGreatDoor
