import Derived.Test.YtbkdjfgkebkknaaGreatDoorRowJournalRowsMg4
import Derived.RangeFuncWrites
import Derived.RangeFuncLeaves
import Derived.OrdersIn
import Derived.TacticsIn
import Derived.TacticsInMore
namespace Go.Proofs.YtbkdjfgkebkknaaGreatDoor
set_option linter.unusedVariables false
set_option linter.unusedSimpArgs false
open Go Go.RowKit
def waits (ops : Array Oper) : Nat → Nat → Nat → Bool
  | 0, _, _ => false
  | f + 1, i, k => match ops[k]? with
    | some o => o.after.any fun e => Region.binds .any e && (Nat.beq e.on i || waits ops f i e.on)
    | none => false
def Shut (ops : Array Oper) (l : Array Bool) : Prop := ∀ j o, ops[j]? = some o → l.getD j false = true → ∀ e ∈ o.after, Region.binds .any e = true → l.getD e.on false = true
theorem waits_listed {ops : Array Oper} {l : Array Bool} (hs : Shut ops l) : ∀ {n i k : Nat}, waits ops n i k = true → (∀ o, ops[k]? = some o → ∀ e ∈ o.after, Region.binds .any e = true → l.getD e.on false = true) → l.getD i false = true
  | 0, _, _, h, _ => by cases h
  | n + 1, i, k, h, hk => by
    unfold waits at h
    split at h
    · rename_i o ho
      obtain ⟨e, he, hb⟩ := Array.any_eq_true'.1 h
      simp only [Bool.and_eq_true, Bool.or_eq_true] at hb
      have h1 := hk o ho e he hb.1
      rcases hb.2 with h2 | h2
      · rwa [Nat.eq_of_beq_eq_true h2] at h1
      · exact waits_listed hs h2 fun o2 ho2 => hs _ o2 ho2 h1
    · cases h
theorem Shut.set {ops : Array Oper} {l : Array Bool} {j : Nat} (hs : Shut ops l) (hj : j ∈ Region.ready .any ops l) : Shut ops (l.setIfInBounds j true) := fun x o ho hx e he hb => by
  by_cases hxj : j = x
  · subst hxj
    obtain ⟨_, o2, ho2, hall⟩ := mem_ready.1 hj
    rw [ho] at ho2
    cases ho2
    exact getD_set_true (hall e he hb)
  · rw [getD_set_ne false hxj] at hx
    exact getD_set_true (hs x o ho hx e he hb)
theorem Shut.none (ops : Array Oper) (n : Nat) : Shut ops (Array.replicate n false) := fun j o _ h => by
  rw [Array.getD_eq_getD_getElem?] at h
  by_cases hj : j < n
  · simp [hj] at h
  · simp [hj] at h
theorem not_both {l : Array Bool} {i : Nat} (h : l.getD i true = false) (h2 : l.getD i false = true) : False := by
  rw [Array.getD_eq_getD_getElem?] at h h2
  cases e : l[i]? with
  | none => simp [e] at h
  | some b => simp [e] at h h2; rw [h] at h2; cases h2
def wpAnyL (P : Program) (ops : Array Oper) (Q : Exit → Act → World → Prop) (S : World → Prop) (k : Nat) : Nat → Array Bool → Act → World → Prop
  | 0, l, a, w => Region.ready .any ops l = [] ∧ Q .normal a w
  | f + 1, l, a, w => (Region.ready .any ops l = [] → Q .normal a w) ∧ ∀ i ∈ Region.ready .any ops l, wpOp P ops Q i (fun a' w' => ((l.setIfInBounds i true).getD k false = false → S w') ∧ wpAnyL P ops Q S k f (l.setIfInBounds i true) a' w') a w
section
variable {P : Program} {ops : Array Oper} {Q : Exit → Act → World → Prop} {S : World → Prop} {k : Nat}
theorem wpAny_of_last : ∀ (f : Nat) (l : Array Bool) (a : Act) (w : World), wpAnyL P ops Q S k f l a w → wpAny P .any ops Q f l a w
  | 0, _, _, _, h => h
  | f + 1, _, _, _, h => ⟨h.1, fun i hi => wpOp_mono (fun a' w' h' => wpAny_of_last f _ a' w' h'.2) (h.2 i hi)⟩
theorem wpAnyL_take {i n : Nat} {oi : Oper} {v : Value} (hi : ops[i]? = some oi) (hsel : Region.noSelect ops = true) (hk : waits ops n i k = true)
    (hQ : ∀ c a w, Q (.panic c) (a.put oi.dst v) w → Q (.panic c) a w) :
    ∀ (f : Nat) (l : Array Bool) (a : Act) (w : World), Shut ops l →
      (∀ j oj, ops[j]? = some oj → j ≠ i → l.getD j true = false → (∀ e ∈ oj.after, Region.binds .any e = true → e.on ≠ i) → oi.apart ops oj = true) →
      i ∈ Region.ready .any ops l → YieldsIf P ops S oi v a → S w → wpAnyL P ops Q S k f (l.setIfInBounds i true) (a.put oi.dst v) w → wpAnyL P ops Q S k (f + 1) l a w
  | 0, l, a, w, _, _, hr, hy, hS, H => by
    refine ⟨fun h => (by rw [h] at hr; cases hr), fun j hj => ?_⟩
    by_cases hji : j = i
    · subst hji; exact hy.wpOp hi hS ⟨fun _ => hS, H⟩
    · have := ready_mono hj hji
      rw [H.1] at this
      cases this
  | f + 1, l, a, w, hs, hfree, hr, hy, hS, H => by
    refine ⟨fun h => (by rw [h] at hr; cases hr), fun j hj => ?_⟩
    have hun : l.getD i true = false := (mem_ready.1 hr).1
    by_cases hji : j = i
    · subst hji; exact hy.wpOp hi hS ⟨fun _ => hS, H⟩
    · have h1 := H.2 j (ready_mono hj hji)
      obtain ⟨hjun, oj, hoj, hall⟩ := mem_ready.1 hj
      have hjk : j ≠ k := by
        rintro rfl
        exact not_both hun (waits_listed hs hk fun o ho e he hb => by rw [hoj] at ho; cases ho; exact hall e he hb)
      have hik : i ≠ k := by
        rintro rfl
        obtain ⟨_, o2, ho2, hall2⟩ := mem_ready.1 hr
        exact not_both hun (waits_listed hs hk fun o ho e he hb => by rw [ho2] at ho; cases ho; exact hall2 e he hb)
      have hkl : l.getD k false = false := by
        cases e : l.getD k false with
        | false => rfl
        | true => exact (not_both hun (waits_listed hs hk fun o ho => hs k o ho e)).elim
      have hkj : ((l.setIfInBounds i true).setIfInBounds j true).getD k false = false := by rw [getD_set_ne false hjk, getD_set_ne false hik]; exact hkl
      have hnot : ∀ e ∈ oj.after, Region.binds .any e = true → e.on ≠ i := fun e he hb heq => not_both hun (by have := hall e he hb; rwa [heq] at this)
      have h2 := wpOp_putIf hoj (hfree j oj hoj hji hjun hnot) (fun cs b => Region.noSelect_spec hsel i oi cs b hi) (fun cs b => Region.noSelect_spec hsel j oj cs b hoj) hQ hy h1
      refine wpOp_mono (fun a' w' h3 => ⟨fun _ => h3.2.1 hkj, wpAnyL_take hi hsel hk hQ f (l.setIfInBounds j true) a' w' (hs.set hj) (fun x ox hx hxi hxu hno => hfree x ox hx hxi ?_ hno) (ready_mono hr (Ne.symm hji)) h3.1 (h3.2.1 hkj) ?_⟩) h2
      · by_cases hjx : j = x
        · subst hjx; exact hjun
        · rwa [getD_set_ne true hjx] at hxu
      · rw [Array.setIfInBounds_comm _ _ hji]
        exact h3.2.2
end
section
variable {X : Cx} {ops : Array Oper} {Q : Exit → Act → World → Prop} {ρ : Env} {A A0 B : List HA} {d : Tmp} {op : Op} {ty : TypeId} {ps : String} {af : Array Edge} {v : Value} {fuel k : Nat} {listed : Array Bool}
def WE (X : Cx) (A0 : List HA) (k : Nat) (ops : Array Oper) (Q : Exit → Act → World → Prop) (fuel : Nat) (listed : Array Bool) (ρ : Env) (A : List HA) : Prop :=
  Shut ops listed → ∀ a w, Fr X.n ρ a → St X.w0 X.S A w → wpAnyL X.P ops Q (St X.w0 X.S A0) k fuel listed a w
theorem WC.regionE (A0 : List HA) (k : Nat) {id : Nat} {l : List Oper} (hm : X.P.follows .mixedOrders = true) (h : WE X A0 k l.toArray Q l.length (Array.replicate l.length false) ρ A) : WC X (.region id l.toArray true) Q ρ A :=
  fun a w f s => wp_region_any hm (wpAny_of_last _ _ _ _ (by simpa using h (Shut.none _ _) a _ f s.drew))
def WU (X : Cx) (A0 : List HA) (k : Nat) (ops : Array Oper) (Q : Exit → Act → World → Prop) (order : List Nat) (fuel : Nat) (listed : Array Bool) (ρ : Env) (A : List HA) : Prop :=
  Part A A0 ∧ Region.noSelect ops = true → WE X A0 k ops Q fuel listed ρ A ∧ (order = order)
theorem WE.order (order : List Nat) (hp : Part A A0) (hs : Region.noSelect ops = true) (h : WU X A0 k ops Q order fuel listed ρ A) : WE X A0 k ops Q fuel listed ρ A := (h ⟨hp, hs⟩).1
theorem WU.nil (h : WE X A0 k ops Q fuel listed ρ A) : WU X A0 k ops Q [] fuel listed ρ A := fun _ => ⟨h, rfl⟩
theorem WE.take_ {i : Nat} {o : Oper} (hi : ops[i]? = some o) (hdst : o.dst = some d) (hs : Region.noSelect ops = true)
    (hQ : ∀ c a w, Q (.panic c) (a.put (some d) v) w → Q (.panic c) a w) (hp : Part A A0) (hy : ∀ a, Fr X.n ρ a → YieldsIf X.P ops (St X.w0 X.S A0) o v a) (hd : Nat.blt d X.n = true) (hf : Region.free .any ops listed i = true) (hr : (Region.ready .any ops listed).contains i = true) (hk : waits ops 9 i k = true)
    (h : WE X A0 k ops Q fuel (listed.setIfInBounds i true) ((d, v) :: ρ) A) : WE X A0 k ops Q (fuel + 1) listed ρ A := fun sh a w f s => by
  have hr' : i ∈ Region.ready .any ops listed := by simpa using hr
  exact wpAnyL_take hi hs hk (by rw [hdst]; exact hQ) fuel listed a w sh (Region.free_spec hi hf) hr' (hy a f) (s.part hp) (by rw [hdst]; exact h (sh.set hr') _ _ (f.put (blt_lt hd) v) s)
theorem WU.take {i : Nat} {r : List Nat} {g : Option (Nat × Bool)} (hi : ops[i]? = some ⟨some d, op, ty, ps, af, g⟩) (hg : g = none)
    (hQ : ∀ c a w, Q (.panic c) (a.put (some d) v) w → Q (.panic c) a w) (hy : Yl X op ty ρ A0 v) (hd : Nat.blt d X.n = true) (hf : Region.free .any ops listed i = true) (hr : (Region.ready .any ops listed).contains i = true) (hk : waits ops 9 i k = true)
    (h : WU X A0 k ops Q r fuel (listed.setIfInBounds i true) ((d, v) :: ρ) A) : WU X A0 k ops Q (i :: r) (fuel + 1) listed ρ A := fun ⟨hp, hs⟩ => ⟨by
  subst hg
  exact WE.take_ hi rfl hs hQ hp (fun a f => .inl ⟨by simp [Region.wanted], fun w' s' => hy _ rfl rfl a w' f s'⟩) hd hf hr hk (h ⟨hp, hs⟩).1, rfl⟩
theorem WU.takeG {i j t : Nat} {r : List Nat} {b want : Bool} (hi : ops[i]? = some ⟨some d, op, ty, ps, af, some (j, want)⟩) (hj : (ops[j]?).bind (·.dst) = some t) (hv : lk ρ t = some (.bool b)) (hb : b = want)
    (hQ : ∀ c a w, Q (.panic c) (a.put (some d) v) w → Q (.panic c) a w) (hy : Yl X op ty ρ A0 v) (hd : Nat.blt d X.n = true) (hf : Region.free .any ops listed i = true) (hr : (Region.ready .any ops listed).contains i = true) (hk : waits ops 9 i k = true)
    (h : WU X A0 k ops Q r fuel (listed.setIfInBounds i true) ((d, v) :: ρ) A) : WU X A0 k ops Q (i :: r) (fuel + 1) listed ρ A := fun ⟨hp, hs⟩ =>
  ⟨WE.take_ hi rfl hs hQ hp (fun a f => .inl ⟨by rw [wanted_eq (o := ⟨some d, op, ty, ps, af, some (j, want)⟩) rfl hj f hv]; simp [hb], fun w' s' => hy _ rfl rfl a w' f s'⟩) hd hf hr hk (h ⟨hp, hs⟩).1, rfl⟩
theorem WU.passG {i j t : Nat} {r : List Nat} {b want : Bool} (hi : ops[i]? = some ⟨some d, op, ty, ps, af, some (j, want)⟩) (hj : (ops[j]?).bind (·.dst) = some t) (hv : lk ρ t = some (.bool b)) (hb : b = !want)
    (hQ : ∀ c a w, Q (.panic c) (a.put (some d) undef) w → Q (.panic c) a w) (hd : Nat.blt d X.n = true) (hf : Region.free .any ops listed i = true) (hr : (Region.ready .any ops listed).contains i = true) (hk : waits ops 9 i k = true)
    (h : WU X A0 k ops Q r fuel (listed.setIfInBounds i true) ((d, undef) :: ρ) A) : WU X A0 k ops Q (i :: r) (fuel + 1) listed ρ A := fun ⟨hp, hs⟩ =>
  ⟨WE.take_ hi rfl hs hQ hp (fun a f => .inr ⟨by rw [wanted_eq (o := ⟨some d, op, ty, ps, af, some (j, want)⟩) rfl hj f hv]; simp [hb], rfl⟩) hd hf hr hk (h ⟨hp, hs⟩).1, rfl⟩
theorem WU.passU {i j t : Nat} {r : List Nat} {want : Bool} (hi : ops[i]? = some ⟨some d, op, ty, ps, af, some (j, want)⟩) (hj : (ops[j]?).bind (·.dst) = some t) (hv : lk ρ t = some undef)
    (hQ : ∀ c a w, Q (.panic c) (a.put (some d) undef) w → Q (.panic c) a w) (hd : Nat.blt d X.n = true) (hf : Region.free .any ops listed i = true) (hr : (Region.ready .any ops listed).contains i = true) (hk : waits ops 9 i k = true)
    (h : WU X A0 k ops Q r fuel (listed.setIfInBounds i true) ((d, undef) :: ρ) A) : WU X A0 k ops Q (i :: r) (fuel + 1) listed ρ A := fun ⟨hp, hs⟩ =>
  ⟨WE.take_ hi rfl hs hQ hp (fun a f => by
    have h1 := f.get t _ hv
    have h3 : yielded ops a.tmps j = none := by
      unfold yielded
      rw [hj]
      rw [Array.getD_eq_getD_getElem?] at h1
      cases h4 : a.tmps[t]? with
      | none => simp [h4]
      | some u => rw [h4] at h1; simp at h1; subst h1; simp [h4, undef]
    exact .inr ⟨by simp [Region.wanted, h3], rfl⟩) hd hf hr hk (h ⟨hp, hs⟩).1, rfl⟩
theorem WU.kg {i : Nat} {r : List Nat} {dd : Option Tmp} {j : Nat × Bool} (_ : ops[i]? = some ⟨dd, op, ty, ps, af, some j⟩) (h : WU X A0 k ops Q (i :: r) fuel listed ρ A) : WU X A0 k ops Q (i :: r) fuel listed ρ A := h
theorem WU.kn {i : Nat} {r : List Nat} {dd : Option Tmp} (_ : ops[i]? = some ⟨dd, op, ty, ps, af, none⟩) (h : WU X A0 k ops Q (i :: r) fuel listed ρ A) : WU X A0 k ops Q (i :: r) fuel listed ρ A := h
theorem WU.k_move {i : Nat} {r : List Nat} {dd : Option Tmp} {g : Option (Nat × Bool)} {x : Operand} (_ : ops[i]? = some ⟨dd, .move x, ty, ps, af, g⟩) (h : WU X A0 k ops Q (i :: r) fuel listed ρ A) : WU X A0 k ops Q (i :: r) fuel listed ρ A := h
theorem WU.k_assign {i : Nat} {r : List Nat} {dd : Option Tmp} {g : Option (Nat × Bool)} {x : Operand} (_ : ops[i]? = some ⟨dd, .assign x, ty, ps, af, g⟩) (h : WU X A0 k ops Q (i :: r) fuel listed ρ A) : WU X A0 k ops Q (i :: r) fuel listed ρ A := h
theorem WU.k_extract {i : Nat} {r : List Nat} {dd : Option Tmp} {g : Option (Nat × Bool)} {x : Operand} {j : Nat} (_ : ops[i]? = some ⟨dd, .extract x j, ty, ps, af, g⟩) (h : WU X A0 k ops Q (i :: r) fuel listed ρ A) : WU X A0 k ops Q (i :: r) fuel listed ρ A := h
theorem WU.k_pick {i : Nat} {r : List Nat} {dd : Option Tmp} {g : Option (Nat × Bool)} {c x y : Operand} (_ : ops[i]? = some ⟨dd, .pick c x y, ty, ps, af, g⟩) (h : WU X A0 k ops Q (i :: r) fuel listed ρ A) : WU X A0 k ops Q (i :: r) fuel listed ρ A := h
theorem WU.k_unop {i : Nat} {r : List Nat} {dd : Option Tmp} {g : Option (Nat × Bool)} {o : UnOp} {t : TypeId} {x : Operand} (_ : ops[i]? = some ⟨dd, .unOp o t x, ty, ps, af, g⟩) (h : WU X A0 k ops Q (i :: r) fuel listed ρ A) : WU X A0 k ops Q (i :: r) fuel listed ρ A := h
theorem WU.k_conv {i : Nat} {r : List Nat} {dd : Option Tmp} {g : Option (Nat × Bool)} {s t : TypeId} {x : Operand} (_ : ops[i]? = some ⟨dd, .convert s t x, ty, ps, af, g⟩) (h : WU X A0 k ops Q (i :: r) fuel listed ρ A) : WU X A0 k ops Q (i :: r) fuel listed ρ A := h
theorem WU.k_idxa {i : Nat} {r : List Nat} {dd : Option Tmp} {g : Option (Nat × Bool)} {t : TypeId} {x y : Operand} (_ : ops[i]? = some ⟨dd, .indexAddr t x y, ty, ps, af, g⟩) (h : WU X A0 k ops Q (i :: r) fuel listed ρ A) : WU X A0 k ops Q (i :: r) fuel listed ρ A := h
theorem WU.k_load {i : Nat} {r : List Nat} {dd : Option Tmp} {g : Option (Nat × Bool)} {t : TypeId} {x : Operand} (_ : ops[i]? = some ⟨dd, .load t x, ty, ps, af, g⟩) (h : WU X A0 k ops Q (i :: r) fuel listed ρ A) : WU X A0 k ops Q (i :: r) fuel listed ρ A := h
theorem WU.k_slice {i : Nat} {r : List Nat} {dd : Option Tmp} {g : Option (Nat × Bool)} {t : TypeId} {x : Operand} {l u m : Option Operand} (_ : ops[i]? = some ⟨dd, .slice t x l u m, ty, ps, af, g⟩) (h : WU X A0 k ops Q (i :: r) fuel listed ρ A) : WU X A0 k ops Q (i :: r) fuel listed ρ A := h
theorem WU.k_fld {i : Nat} {r : List Nat} {dd : Option Tmp} {g : Option (Nat × Bool)} {t : TypeId} {x : Operand} {j : Nat} (_ : ops[i]? = some ⟨dd, .fieldAddr t x j, ty, ps, af, g⟩) (h : WU X A0 k ops Q (i :: r) fuel listed ρ A) : WU X A0 k ops Q (i :: r) fuel listed ρ A := h
theorem WU.k_index {i : Nat} {r : List Nat} {dd : Option Tmp} {g : Option (Nat × Bool)} {t : TypeId} {x y : Operand} (_ : ops[i]? = some ⟨dd, .index t x y, ty, ps, af, g⟩) (h : WU X A0 k ops Q (i :: r) fuel listed ρ A) : WU X A0 k ops Q (i :: r) fuel listed ρ A := h
theorem WU.k_build {i : Nat} {r : List Nat} {dd : Option Tmp} {g : Option (Nat × Bool)} {t : TypeId} {l : Array (Nat × Operand)} (_ : ops[i]? = some ⟨dd, .build t l, ty, ps, af, g⟩) (h : WU X A0 k ops Q (i :: r) fuel listed ρ A) : WU X A0 k ops Q (i :: r) fuel listed ρ A := h
theorem WU.k_nilc {i : Nat} {r : List Nat} {dd : Option Tmp} {g : Option (Nat × Bool)} {x : Operand} (_ : ops[i]? = some ⟨dd, .nilCheck x, ty, ps, af, g⟩) (h : WU X A0 k ops Q (i :: r) fuel listed ρ A) : WU X A0 k ops Q (i :: r) fuel listed ρ A := h
theorem WU.k_s2a {i : Nat} {r : List Nat} {dd : Option Tmp} {g : Option (Nat × Bool)} {t : TypeId} {x : Operand} (_ : ops[i]? = some ⟨dd, .sliceToArrayPointer t x, ty, ps, af, g⟩) (h : WU X A0 k ops Q (i :: r) fuel listed ρ A) : WU X A0 k ops Q (i :: r) fuel listed ρ A := h
theorem WU.k_bin (o : BinOp) {i : Nat} {r : List Nat} {dd : Option Tmp} {g : Option (Nat × Bool)} {t u : TypeId} {x y : Operand} (_ : ops[i]? = some ⟨dd, .binOp o t x y u, ty, ps, af, g⟩) (h : WU X A0 k ops Q (i :: r) fuel listed ρ A) : WU X A0 k ops Q (i :: r) fuel listed ρ A := h
theorem WU.k_bi (f : Builtin) {i : Nat} {r : List Nat} {dd : Option Tmp} {g : Option (Nat × Bool)} {xs ts} (_ : ops[i]? = some ⟨dd, .call { callee := .builtin f, args := xs, argTypes := ts }, ty, ps, af, g⟩) (h : WU X A0 k ops Q (i :: r) fuel listed ρ A) : WU X A0 k ops Q (i :: r) fuel listed ρ A := h
def ENext (X : Cx) (A0 : List HA) (k i : Nat) (ops : Array Oper) (Q : Exit → Act → World → Prop) (fuel : Nat) (listed : Array Bool) (a : Act) (w : World) : Prop :=
  (listed.getD k false = false → St X.w0 X.S A0 w) ∧ wpAnyL X.P ops Q (St X.w0 X.S A0) k fuel listed a w
theorem WL.wpOpE {i : Nat} {o : Oper} (hi : ops[i]? = some o) (h : WL X ops (Exit.then (ENext X A0 k i ops Q fuel (listed.setIfInBounds i true)) Q) [o] ρ A) {a : Act} {w : World} (f : Fr X.n ρ a) (s : St X.w0 X.S A w) :
    Go.wpOp X.P ops Q i (fun a' w' => ((listed.setIfInBounds i true).getD k false = false → St X.w0 X.S A0 w') ∧ wpAnyL X.P ops Q (St X.w0 X.S A0) k fuel (listed.setIfInBounds i true) a' w') a w := by
  have h1 := h a w f s
  unfold wpList at h1
  unfold Go.wpOp
  simp only [hi]
  split
  · rename_i hw
    rw [if_pos hw] at h1
    refine h1.imp (fun h1 => Oper.wp_then (Oper.wp_mono (Q := Exit.then (ENext X A0 k i ops Q fuel (listed.setIfInBounds i true)) Q) (fun a w hk => ?_) h1)) (fun h1 => ⟨h1.1, ?_⟩)
    · unfold wpList at hk; exact hk
    · exact h1.2
  · rename_i hw
    rw [if_neg hw] at h1
    unfold wpList at h1
    exact h1
theorem WE.only {i : Nat} {o : Oper} (hr : Region.ready .any ops listed = [i]) (hi : ops[i]? = some o)
    (h : Shut ops (listed.setIfInBounds i true) → WL X ops (Exit.then (ENext X A0 k i ops Q fuel (listed.setIfInBounds i true)) Q) [o] ρ A) : WE X A0 k ops Q (fuel + 1) listed ρ A := fun sh a w f s =>
  ⟨fun h0 => (by rw [hr] at h0; cases h0), fun j hj => by
    have hj2 := hj
    rw [hr] at hj2
    obtain rfl : j = i := by simpa using hj2
    exact (h (sh.set hj)).wpOpE hi f s⟩
theorem WE.two {i j : Nat} {o o2 : Oper} (hr : Region.ready .any ops listed = [i, j]) (hi : ops[i]? = some o) (hj : ops[j]? = some o2)
    (h : Shut ops (listed.setIfInBounds i true) → WL X ops (Exit.then (ENext X A0 k i ops Q fuel (listed.setIfInBounds i true)) Q) [o] ρ A)
    (h2 : Shut ops (listed.setIfInBounds j true) → WL X ops (Exit.then (ENext X A0 k j ops Q fuel (listed.setIfInBounds j true)) Q) [o2] ρ A) : WE X A0 k ops Q (fuel + 1) listed ρ A := fun sh a w f s =>
  ⟨fun h0 => (by rw [hr] at h0; cases h0), fun x hx => by
    have hx2 := hx
    rw [hr] at hx2
    simp at hx2
    rcases hx2 with rfl | rfl
    · exact (h (sh.set hx)).wpOpE hi f s
    · exact (h2 (sh.set hx)).wpOpE hj f s⟩
theorem WN.nextE {i : Nat} (sh : Shut ops listed) (hp : Part A A0) (h : WE X A0 k ops Q fuel listed ρ A) : WN X (Exit.then (ENext X A0 k i ops Q fuel listed) Q) .normal ρ A := fun a w f s => ⟨fun _ => s.part hp, h sh a w f s⟩
theorem WN.lastE {i : Nat} (hl : listed.getD k false = true) (sh : Shut ops listed) (h : WE X A0 k ops Q fuel listed ρ A) : WN X (Exit.then (ENext X A0 k i ops Q fuel listed) Q) .normal ρ A := fun a w f s => ⟨fun h0 => (by rw [hl] at h0; cases h0), h sh a w f s⟩
theorem WE.done (hr : Region.ready .any ops listed = []) (h : WN X Q .normal ρ A) : WE X A0 k ops Q fuel listed ρ A := fun _ a w f s => by
  cases fuel with
  | zero => exact ⟨hr, h a w f s⟩
  | succ n => exact ⟨fun _ => h a w f s, by rw [hr]; simp⟩
end
end Go.Proofs.YtbkdjfgkebkknaaGreatDoor
namespace Go.Proofs.YtbkdjfgkebkknaaGreatDoor
set_option linter.unusedVariables false
set_option linter.unusedSimpArgs false
open Go Go.RowKit
def wpAnyM (P : Program) (ops : Array Oper) (Q : Exit → Act → World → Prop) (S : Bool → World → Prop) (k : Nat) : Nat → Array Bool → Act → World → Prop
  | 0, l, a, w => Region.ready .any ops l = [] ∧ Q .normal a w
  | f + 1, l, a, w => (Region.ready .any ops l = [] → Q .normal a w) ∧ ∀ i ∈ Region.ready .any ops l, wpOp P ops Q i (fun a' w' => S ((l.setIfInBounds i true).getD k false) w' ∧ wpAnyM P ops Q S k f (l.setIfInBounds i true) a' w') a w
section
variable {P : Program} {ops : Array Oper} {Q : Exit → Act → World → Prop} {S : Bool → World → Prop} {T : World → Prop} {k : Nat}
theorem wpAnyM_take {i n : Nat} {oi : Oper} {v : Value} (hi : ops[i]? = some oi) (hsel : Region.noSelect ops = true) (hik : i ≠ k) (h0 : ∀ w, S false w → T w) (hk : waits ops n i k = true ∨ ∀ w, S true w → T w)
    (hQ : ∀ c a w, Q (.panic c) (a.put oi.dst v) w → Q (.panic c) a w) :
    ∀ (f : Nat) (l : Array Bool) (a : Act) (w : World), Shut ops l →
      (∀ j oj, ops[j]? = some oj → j ≠ i → l.getD j true = false → (∀ e ∈ oj.after, Region.binds .any e = true → e.on ≠ i) → oi.apart ops oj = true) →
      i ∈ Region.ready .any ops l → YieldsIf P ops T oi v a → S (l.getD k false) w → wpAnyM P ops Q S k f (l.setIfInBounds i true) (a.put oi.dst v) w → wpAnyM P ops Q S k (f + 1) l a w := by
  have key : ∀ (l : Array Bool) (w : World), Shut ops l → i ∈ Region.ready .any ops l → S (l.getD k false) w → T w := fun l w hs hr h => by
    cases e : l.getD k false with
    | false => rw [e] at h; exact h0 w h
    | true =>
      rw [e] at h
      rcases hk with hk | hk
      · exact (not_both (mem_ready.1 hr).1 (waits_listed hs hk fun o ho => hs k o ho e)).elim
      · exact hk w h
  intro f
  induction f with
  | zero =>
    intro l a w hs _ hr hy hS H
    refine ⟨fun h => (by rw [h] at hr; cases hr), fun j hj => ?_⟩
    by_cases hji : j = i
    · subst hji; exact hy.wpOp hi (key l w hs hr hS) ⟨by rw [getD_set_ne false hik]; exact hS, H⟩
    · have := ready_mono hj hji
      rw [H.1] at this
      cases this
  | succ f ih =>
    intro l a w hs hfree hr hy hS H
    refine ⟨fun h => (by rw [h] at hr; cases hr), fun j hj => ?_⟩
    have hun : l.getD i true = false := (mem_ready.1 hr).1
    by_cases hji : j = i
    · subst hji; exact hy.wpOp hi (key l w hs hr hS) ⟨by rw [getD_set_ne false hik]; exact hS, H⟩
    · have h1 := H.2 j (ready_mono hj hji)
      obtain ⟨hjun, oj, hoj, hall⟩ := mem_ready.1 hj
      have hnot : ∀ e ∈ oj.after, Region.binds .any e = true → e.on ≠ i := fun e he hb heq => not_both hun (by have := hall e he hb; rwa [heq] at this)
      have h2 := wpOp_putIf hoj (hfree j oj hoj hji hjun hnot) (fun cs b => Region.noSelect_spec hsel i oi cs b hi) (fun cs b => Region.noSelect_spec hsel j oj cs b hoj) hQ hy h1
      have e : ((l.setIfInBounds i true).setIfInBounds j true).getD k false = (l.setIfInBounds j true).getD k false := by rw [← Array.setIfInBounds_comm _ _ hji, getD_set_ne false hik]
      refine wpOp_mono (fun a' w' h3 => ?_) h2
      have h4 := h3.2.1
      rw [e] at h4
      refine ⟨h4, ih (l.setIfInBounds j true) a' w' (hs.set hj) (fun x ox hx hxi hxu hno => hfree x ox hx hxi ?_ hno) (ready_mono hr (Ne.symm hji)) h3.1 h4 ?_⟩
      · by_cases hjx : j = x
        · subst hjx; exact hjun
        · rwa [getD_set_ne true hjx] at hxu
      · rw [Array.setIfInBounds_comm _ _ hji]
        exact h3.2.2
end
section
variable {X : Cx} {ops : Array Oper} {Q : Exit → Act → World → Prop} {ρ : Env} {A A0 A1 B : List HA} {d : Tmp} {op : Op} {ty : TypeId} {ps : String} {af : Array Edge} {v : Value} {fuel k : Nat} {listed : Array Bool}
def Two (X : Cx) (A1 A0 : List HA) (b : Bool) (w : World) : Prop := St X.w0 X.S (if b then A1 else A0) w
def WV (X : Cx) (A1 A0 : List HA) (k : Nat) (ops : Array Oper) (Q : Exit → Act → World → Prop) (fuel : Nat) (listed : Array Bool) (ρ : Env) (A : List HA) : Prop :=
  Shut ops listed → ∀ a w, Fr X.n ρ a → St X.w0 X.S A w → wpAnyM X.P ops Q (Two X A1 A0) k fuel listed a w
theorem WV.take {i : Nat} {g : Option (Nat × Bool)} (hi : ops[i]? = some ⟨some d, op, ty, ps, af, g⟩) (hg : g = none) (hs : Region.noSelect ops = true) (hb : listed.getD k false = false) (hik : Nat.beq i k = false)
    (hQ : ∀ c a w, Q (.panic c) (a.put (some d) v) w → Q (.panic c) a w) (hp : Part A A0) (hy : Yl X op ty ρ A0 v) (hk : waits ops 9 i k = true ∨ Yl X op ty ρ A1 v) (hd : Nat.blt d X.n = true) (hf : Region.free .any ops listed i = true) (hr : (Region.ready .any ops listed).contains i = true)
    (h : WV X A1 A0 k ops Q fuel (listed.setIfInBounds i true) ((d, v) :: ρ) A) : WV X A1 A0 k ops Q (fuel + 1) listed ρ A := fun sh a w f s => by
  subst hg
  have hr' : i ∈ Region.ready .any ops listed := by simpa using hr
  have hik' : i ≠ k := fun e => by rw [e, Nat.beq_refl] at hik; cases hik
  have hS : Two X A1 A0 (listed.getD k false) w := by rw [hb]; exact s.part hp
  have H := h (sh.set hr') _ _ (f.put (blt_lt hd) v) s
  rcases hk with hk | hy1
  · exact wpAnyM_take (T := Two X A1 A0 false) hi hs hik' (fun _ h => h) (.inl hk) hQ fuel listed a w sh (Region.free_spec hi hf) hr' (.inl ⟨by simp [Region.wanted], fun w' s' => hy _ rfl rfl a w' f s'⟩) hS H
  · exact wpAnyM_take (n := 9) (T := fun w => Two X A1 A0 false w ∨ Two X A1 A0 true w) hi hs hik' (fun _ h => .inl h) (.inr fun _ h => .inr h) hQ fuel listed a w sh (Region.free_spec hi hf) hr' (.inl ⟨by simp [Region.wanted], fun w' s' => s'.elim (fun s' => hy _ rfl rfl a w' f s') (fun s' => hy1 _ rfl rfl a w' f s')⟩) hS H
def VNext (X : Cx) (A1 A0 : List HA) (k : Nat) (ops : Array Oper) (Q : Exit → Act → World → Prop) (fuel : Nat) (listed : Array Bool) (a : Act) (w : World) : Prop :=
  Two X A1 A0 (listed.getD k false) w ∧ wpAnyM X.P ops Q (Two X A1 A0) k fuel listed a w
theorem WL.wpOpV {i : Nat} {o : Oper} (hi : ops[i]? = some o) (h : WL X ops (Exit.then (VNext X A1 A0 k ops Q fuel (listed.setIfInBounds i true)) Q) [o] ρ A) {a : Act} {w : World} (f : Fr X.n ρ a) (s : St X.w0 X.S A w) :
    Go.wpOp X.P ops Q i (fun a' w' => Two X A1 A0 ((listed.setIfInBounds i true).getD k false) w' ∧ wpAnyM X.P ops Q (Two X A1 A0) k fuel (listed.setIfInBounds i true) a' w') a w := by
  have h1 := h a w f s
  unfold wpList at h1
  unfold Go.wpOp
  simp only [hi]
  split
  · rename_i hw
    rw [if_pos hw] at h1
    refine h1.imp (fun h1 => Oper.wp_then (Oper.wp_mono (Q := Exit.then (VNext X A1 A0 k ops Q fuel (listed.setIfInBounds i true)) Q) (fun a w hk => ?_) h1)) (fun h1 => ⟨h1.1, ?_⟩)
    · unfold wpList at hk; exact hk
    · exact h1.2
  · rename_i hw
    rw [if_neg hw] at h1
    unfold wpList at h1
    exact h1
theorem WV.only {i : Nat} {o : Oper} (hr : Region.ready .any ops listed = [i]) (hi : ops[i]? = some o)
    (h : Shut ops (listed.setIfInBounds i true) → WL X ops (Exit.then (VNext X A1 A0 k ops Q fuel (listed.setIfInBounds i true)) Q) [o] ρ A) : WV X A1 A0 k ops Q (fuel + 1) listed ρ A := fun sh a w f s =>
  ⟨fun h0 => (by rw [hr] at h0; cases h0), fun j hj => by
    have hj2 := hj
    rw [hr] at hj2
    obtain rfl : j = i := by simpa using hj2
    exact (h (sh.set hj)).wpOpV hi f s⟩
theorem WV.two {i j : Nat} {o o2 : Oper} (hr : Region.ready .any ops listed = [i, j]) (hi : ops[i]? = some o) (hj : ops[j]? = some o2)
    (h : Shut ops (listed.setIfInBounds i true) → WL X ops (Exit.then (VNext X A1 A0 k ops Q fuel (listed.setIfInBounds i true)) Q) [o] ρ A)
    (h2 : Shut ops (listed.setIfInBounds j true) → WL X ops (Exit.then (VNext X A1 A0 k ops Q fuel (listed.setIfInBounds j true)) Q) [o2] ρ A) : WV X A1 A0 k ops Q (fuel + 1) listed ρ A := fun sh a w f s =>
  ⟨fun h0 => (by rw [hr] at h0; cases h0), fun x hx => by
    have hx2 := hx
    rw [hr] at hx2
    simp at hx2
    rcases hx2 with rfl | rfl
    · exact (h (sh.set hx)).wpOpV hi f s
    · exact (h2 (sh.set hx)).wpOpV hj f s⟩
theorem WV.done (hr : Region.ready .any ops listed = []) (h : WN X Q .normal ρ A) : WV X A1 A0 k ops Q fuel listed ρ A := fun _ a w f s => by
  cases fuel with
  | zero => exact ⟨hr, h a w f s⟩
  | succ n => exact ⟨fun _ => h a w f s, by rw [hr]; simp⟩
end
end Go.Proofs.YtbkdjfgkebkknaaGreatDoor
namespace Go.Proofs.YtbkdjfgkebkknaaGreatDoor
set_option linter.unusedVariables false
set_option linter.unusedSimpArgs false
open Go Go.RowKit
def fence (ro : Option Nat) : Fence := { Fence.wide with round := ro }
theorem room_fence (ro : Option Nat) (n : Nat) : (fence ro).room n := fun _ h => (by cases h)
def sd (ds : List Deferred) (a : Act) : Act := { a with defers := a.defers ++ ds }
theorem sd_put (ds : List Deferred) (a : Act) (d : Option Tmp) (v : Value) : sd ds (a.put d v) = (sd ds a).put d v := by cases d <;> rfl
theorem sd_nil {a : Act} (h : a.defers = []) : sd [] a = a := by
  cases a
  simp only at h
  subst h
  rfl
def Post (ds : List Deferred) (Q : Exit → Act → World → Prop) : Exit → Act → World → Prop := fun e a w => Q e (sd ds a) w
def plainOp (o : Oper) : Bool := match o.op with
  | .defer _ => false
  | _ => true
theorem plainOp_ne {o : Oper} (h : plainOp o = true) : ∀ c, o.op ≠ .defer c := fun c e => by simp [plainOp, e] at h
theorem wpIn_any {ro : Option Nat} {n m : Nat} {P : Program} {c : Code} {Q : Exit → Act → World → Prop} {a : Act} {w : World} (h : c.wpIn (fence ro) n P Q a w) : c.wpIn (fence ro) m P Q a w :=
  fun b k cs hro hb _ => h b k cs hro hb (room_fence _ _)
theorem calls_fence {ro : Option Nat} {n : Nat} {P : Program} {f : FuncId} {args : Array Value} {w : World} {R : Ending → World → Prop} (h : Calls P f args w R) : CallsIn (fence ro) n P f args w R :=
  (callsIn_wide.2 h : CallsIn Fence.wide n P f args w R)
theorem rows_fence {ro : Option Nat} {n : Nat} {P : Program} {row : String} {args : Array Value} {w : World} {R : Value → World → Prop} (h : Rows P row args w R) : RowsIn (fence ro) n P row args w R :=
  fun c cs _ => let ⟨v, w', r, s⟩ := h c cs; ⟨v, w', r, stepsIn_wide.2 s⟩
section
variable {P : Program} {Q : Exit → Act → World → Prop} {ds : List Deferred} {ro : Option Nat} {ops : Array Oper}
theorem upon_in {o : Oper} {a : Act} {next : Act → World → Prop} {r : Result Go.Next} (h : o.upon P a (fun a w => next (sd ds a) w) (Post ds Q) r) : o.uponIn (fence ro) 0 P (sd ds a) next Q r := by
  cases r with
  | halt x w => cases x <;> first | exact h | exact h.elim
  | ok x w =>
    cases x with
    | value v => rw [Oper.uponIn_value, ← sd_put]; exact h
    | skip => rw [Oper.uponIn_skip, ← sd_put]; exact h
    | defer d =>
      rw [Oper.uponIn_defer]
      have h1 : next (sd ds ({ a with defers := d :: a.defers }.put o.dst undef)) w := h
      rw [sd_put] at h1
      exact h1
    | enter f args =>
      rw [Oper.uponIn_enter]
      refine ⟨fun hd => (by cases hd), calls_fence (Calls.mono (show Calls P f args w _ from h) ?_)⟩
      intro e w' hq
      cases e with
      | returned v => simp only at hq ⊢; rw [← sd_put]; exact hq
      | panicked ch => exact hq
      | outgrown => obtain ⟨a, w, hq⟩ := hq; exact ⟨_, _, hq⟩
    | row row args =>
      rw [Oper.uponIn_row]
      refine ⟨fun hd => (by cases hd), rows_fence (Rows.mono (show Rows P row args w _ from h) ?_)⟩
      intro v w' hq
      rw [← sd_put]; exact hq
    | _ => exact False.elim h
theorem wpOp_in {o : Oper} {a : Act} {w : World} {K K' : Act → World → Prop} (hpl : ro = none ∨ plainOp o = true) (hK : ∀ a w, K a w → K' (sd ds a) w) (h : o.wp P a w K (Post ds Q)) : o.wpIn (fence ro) 0 P (sd ds a) w K' Q := by
  refine ⟨fun _ _ => trivial, ?_⟩
  have e : o.semAt (fence ro).round (sd ds a).eval = execOp a.eval o := by
    rcases hpl with rfl | hpl
    · rfl
    · exact Oper.semAt_eq _ _ _ (plainOp_ne hpl)
  rw [e]
  exact upon_in (Oper.wp_mono (o := o) (K' := fun a w => K' (sd ds a) w) hK h)
theorem wpList_in (hno : ∀ a w, ¬ Q .outgrown a w) : ∀ {rest : List Oper} {a : Act} {w : World}, (ro = none ∨ rest.all plainOp = true) → wpList P ops (Post ds Q) rest a w → wpListIn (fence ro) 0 P ops Q rest (sd ds a) w
  | [], _, _, _, h => h
  | o :: rest, a, w, hpl, h => by
    have hr : ro = none ∨ rest.all plainOp = true := hpl.imp id fun h => by simp only [List.all_cons, Bool.and_eq_true] at h; exact h.2
    have ho : ro = none ∨ plainOp o = true := hpl.imp id fun h => by simp only [List.all_cons, Bool.and_eq_true] at h; exact h.1
    unfold wpList at h
    unfold wpListIn
    show if Region.wanted o (yielded ops a.tmps) then _ else _
    split
    · rename_i hw
      rw [if_pos hw] at h
      rcases h with h | ⟨_, a', w', hq⟩
      · exact wpOp_in ho (fun a w hk => wpList_in hno hr hk) h
      · exact absurd hq (hno _ _)
    · rename_i hw
      rw [if_neg hw] at h
      refine ⟨fun _ _ => trivial, ?_⟩
      rw [← sd_put]
      exact wpList_in hno hr h
theorem wpAny_in (hno : ∀ a w, ¬ Q .outgrown a w) (hpl : ro = none ∨ ops.all plainOp = true) : ∀ {fuel : Nat} {listed : Array Bool} {a : Act} {w : World}, wpAny P .any ops (Post ds Q) fuel listed a w → wpAnyIn (fence ro) 0 P .any ops Q fuel listed (sd ds a) w
  | 0, _, _, _, h => h
  | fuel + 1, listed, a, w, h => by
    refine ⟨h.1, fun i hi => ?_⟩
    have h1 := h.2 i hi
    unfold wpOp at h1
    unfold wpOpIn
    cases e : ops[i]? with
    | none => rw [e] at h1; exact wpAny_in hno hpl h1
    | some o =>
      rw [e] at h1
      simp only at h1 ⊢
      show if Region.wanted o (yielded ops a.tmps) then _ else _
      split
      · rename_i hw
        rw [if_pos hw] at h1
        rcases h1 with h1 | ⟨_, a', w', hq⟩
        · refine wpOp_in (hpl.imp id fun h => ?_) (fun a w hk => wpAny_in hno hpl hk) h1
          exact Array.all_eq_true'.1 h o (Array.mem_of_getElem? e)
        · exact absurd hq (hno _ _)
      · rename_i hw
        rw [if_neg hw] at h1
        refine ⟨fun _ _ => trivial, ?_⟩
        rw [← sd_put]
        exact wpAny_in hno hpl h1
end
def WG (X : Cx) (ro : Option Nat) (ds : List Deferred) (c : Code) (Q : Exit → Act → World → Prop) (ρ : Env) (A : List HA) : Prop :=
  ∀ a w, Fr X.n ρ a → St X.w0 X.S A w → c.wpIn (fence ro) 0 X.P Q (sd ds a) w
section
variable {X : Cx} {ro : Option Nat} {ds : List Deferred} {Q : Exit → Act → World → Prop} {ρ ρ' : Env} {A B : List HA}
theorem WG.intro {c : Code} (h : ∀ a w, Fr X.n ρ a → St X.w0 X.S A w → c.wpIn (fence ro) 0 X.P Q (sd ds a) w) : WG X ro ds c Q ρ A := h
theorem WG.elim {c : Code} (h : WG X ro ds c Q ρ A) : ∀ a w, Fr X.n ρ a → St X.w0 X.S A w → c.wpIn (fence ro) 0 X.P Q (sd ds a) w := h
theorem WG.seq {x y : Code} (h : WG X ro ds x (Exit.then (y.wpIn (fence ro) 0 X.P Q) Q) ρ A) : WG X ro ds (.seq x y) Q ρ A := fun a w f s => wpIn_seq (h a w f s)
theorem WG.region {id : Nat} {l : List Oper} (hno : ∀ a w, Q .outgrown a w → False) (hpl : (ro.isNone || l.all plainOp) = true) (h : WL X l.toArray (Post ds Q) l ρ A) : WG X ro ds (.region id l.toArray false) Q ρ A := fun a w f s =>
  wpIn_region_lit (wpList_in hno (by cases ro <;> simp_all) (h a w f s))
theorem WG.regionE (A0 : List HA) (k : Nat) {id : Nat} {l : List Oper} (hm : X.P.follows .mixedOrders = true) (hno : ∀ a w, Q .outgrown a w → False) (hpl : (ro.isNone || l.all plainOp) = true) (h : WE X A0 k l.toArray (Post ds Q) l.length (Array.replicate l.length false) ρ A) : WG X ro ds (.region id l.toArray true) Q ρ A :=
  fun a w f s => wpIn_region_any hm (wpAny_in hno (by cases ro <;> simp_all) (wpAny_of_last _ _ _ _ (by simpa using h (Shut.none _ _) a _ f s.drew)))
theorem WG.regionH (A0 : List HA) {id : Nat} {l : List Oper} (hm : X.P.follows .mixedOrders = true) (hno : ∀ a w, Q .outgrown a w → False) (hpl : (ro.isNone || l.all plainOp) = true) (h : WH X A0 l.toArray (Post ds Q) l.length (Array.replicate l.length false) ρ A) : WG X ro ds (.region id l.toArray true) Q ρ A :=
  fun a w f s => wpIn_region_any hm (wpAny_in hno (by cases ro <;> simp_all) (wpAny_of_held (S := St X.w0 X.S A0) _ _ _ _ (by simpa using h a _ f s.drew)))
theorem WG.cond {c : Operand} {x y : Code} {b : Bool} (hc : ev ρ c = some (.bool b)) (ht : b = true → WG X ro ds x Q ρ A) (hf : b = false → WG X ro ds y Q ρ A) : WG X ro ds (.cond c x y) Q ρ A :=
  fun a w f s => wpIn_cond_split (t := b) (f.ev hc : a.eval c = _) (fun h => ht h a w f s) (fun h => hf h a w f s)
theorem WG.cond_true {c : Operand} {x y : Code} {b : Bool} (hc : ev ρ c = some (.bool b)) (hb : b = true) (ht : WG X ro ds x Q ρ A) : WG X ro ds (.cond c x y) Q ρ A :=
  WG.cond hc (fun _ => ht) (fun h => by rw [hb] at h; cases h)
theorem WG.cond_false {c : Operand} {x y : Code} {b : Bool} (hc : ev ρ c = some (.bool b)) (hb : b = false) (hf : WG X ro ds y Q ρ A) : WG X ro ds (.cond c x y) Q ρ A :=
  WG.cond hc (fun h => by rw [hb] at h; cases h) (fun _ => hf)
theorem WG.ite {c : Operand} {x y : Code} {p : Prop} [Decidable p] (hc : ev ρ c = some (.bool (decide p))) (ht : p → WG X ro ds x Q ρ A) (hf : ¬ p → WG X ro ds y Q ρ A) : WG X ro ds (.cond c x y) Q ρ A :=
  WG.cond hc (fun h => ht (of_decide_eq_true h)) (fun h => hf (of_decide_eq_false h))
theorem WG.block {id : Nat} {c : Code} (h : WG X ro ds c (Exit.inBlock id Q) ρ A) : WG X ro ds (.block id c) Q ρ A := fun a w f s => wpIn_block (h a w f s)
theorem WG.skip (h : WN X (Post ds Q) .normal ρ A) : WG X ro ds .skip Q ρ A := fun a w f s => wpIn_skip (h a w f s)
theorem WG.exit {id : Nat} (h : WN X (Post ds Q) (.exit id) ρ A) : WG X ro ds (.exit id) Q ρ A := fun a w f s => wpIn_exit (h a w f s)
theorem WG.ret (h : WN X (Post ds Q) .ret ρ A) : WG X ro ds .ret Q ρ A := fun a w f s => wpIn_ret (h a w f s)
theorem WG.weak {c : Code} (hs : Sub ρ ρ') (hp : Part A B) (h : WG X ro ds c Q ρ' B) : WG X ro ds c Q ρ A := fun a w f s => h a w (f.of_sub hs) (s.part hp)
theorem WN.first {e : Exit} {x : HA} {A' : List HA} (hD : Pick x A A') (h : WN X Q e ρ (x :: A')) : WN X Q e ρ A := fun a w f s => h a w f (s.pick hD)
theorem WN.g_then {y : Code} (h : WG X ro ds y Q ρ A) : WN X (Post ds (Exit.then (y.wpIn (fence ro) 0 X.P Q) Q)) .normal ρ A := h
theorem WN.g_done {K : Act → World → Prop} (h : ∀ a w, Fr X.n ρ a → St X.w0 X.S A w → K (sd ds a) w) : WN X (Post ds (Exit.then K Q)) .normal ρ A := h
theorem WN.g_exit {K : Act → World → Prop} {id : Nat} (h : WN X (Post ds Q) (.exit id) ρ A) : WN X (Post ds (Exit.then K Q)) (.exit id) ρ A := h
theorem WN.g_ret {K : Act → World → Prop} (h : WN X (Post ds Q) .ret ρ A) : WN X (Post ds (Exit.then K Q)) .ret ρ A := h
theorem WN.g_bnormal {id : Nat} (h : WN X (Post ds Q) .normal ρ A) : WN X (Post ds (Exit.inBlock id Q)) .normal ρ A := h
theorem WN.g_bret {id : Nat} (h : WN X (Post ds Q) .ret ρ A) : WN X (Post ds (Exit.inBlock id Q)) .ret ρ A := h
theorem WN.g_bhere {id : Nat} (h : WN X (Post ds Q) .normal ρ A) : WN X (Post ds (Exit.inBlock id Q)) (.exit id) ρ A := fun a w f s => by
  show (if id = id then Q .normal (sd ds a) w else _)
  rw [if_pos rfl]; exact h a w f s
def GJoin {α : Type} (X : Cx) (ds : List Deferred) (E : α → Env) (B : α → List HA) (H : α → Prop) (a : Act) (w : World) : Prop := ∃ i b, H i ∧ a = sd ds b ∧ Fr X.n (E i) b ∧ St X.w0 X.S (B i) w
theorem WG.join {α : Type} (E : α → Env) (B : α → List HA) (H : α → Prop) {c z : Code} (h : WG X ro ds c (Exit.then (GJoin X ds E B H) Q) ρ A) (hz : ∀ i, H i → WG X ro ds z Q (E i) (B i)) : WG X ro ds c (Exit.then (z.wpIn (fence ro) 0 X.P Q) Q) ρ A := fun a w f s =>
  wpIn_mono (h a w f s) fun e a' w' hq => by
    cases e with
    | normal => obtain ⟨i, b, hi, rfl, f', s'⟩ := hq; exact hz i hi b w' f' s'
    | exit id => exact hq
    | goto l => exact hq
    | ret => exact hq
    | panic ch => exact hq
    | outgrown => exact hq
end
def endM (P : Program) (fn : Func) (R : Ending → World → Prop) : Exit → Act → World → Prop
  | .normal, a, w | .ret, a, w => LeavesInM (fence none) 0 P fn a.tmps R a.defers .returning w
  | _, _, _ => False
def mark (D : Nat) : Deferred := { target := .collected D, args := #[] }
theorem enterG {P : Program} {g : FuncId} {fn : Func} {c : Code} {args : List Value} {w : World} {R : Ending → World → Prop} {n : Nat} {S : List Nat} {A : List HA} (hf : P.funcs[g]? = some fn) (hn : fn.ntmps = n) (hb : fn.body = some c) (hl : Nat.ble args.length n = true)
    (s : St w S A w) (h : WG ⟨P, n, w, S⟩ none [] c (endM P fn R) (argEnv 0 args) A) : Calls P g args.toArray w R := by
  have hle : args.length ≤ n := Nat.le_of_ble_eq_true hl
  refine (callsIn_wide (n := 0)).1 (callsIn_of_wp_marks hf hb trivial ?_ rfl)
  have h1 := h { tmps := args.toArray ++ Array.replicate (fn.ntmps - args.toArray.size) undef, defers := [] } w ⟨?_, rfl, fun t v ht => ?_⟩ s
  rw [sd_nil rfl] at h1
  refine wpIn_mono (Q := endM P fn R) h1 fun e a w hq => ?_
  rotate_left
  · simp [hn]; omega
  · obtain ⟨j, hj, hv⟩ := lk_argEnv args 0 t v ht
    have hj' : t = j := by omega
    subst hj'
    have hlt : t < args.length := (List.getElem?_eq_some_iff.1 hv).1
    have h2 : args[t] = v := (List.getElem?_eq_some_iff.1 hv).2
    simp [Array.getD_eq_getD_getElem?, Array.getElem?_append, hlt, h2]
  cases e with
  | normal => exact hq
  | ret => exact hq
  | _ => exact hq.elim
section
variable {P : Program} {fn : Func} {R : Value → List HA → Prop} {ρ : Env} {A A' B : List HA} {n : Nat} {w0 : World} {S : List Nat} {v : Value}
theorem St.unmark {w : World} {D : Nat} {o o' : Obj} (s : St w0 S (.blk D o :: A) w) : St w0 S A (w.putObj D o') := by
  have hD : D ∈ S ∨ w0.heap.size ≤ D := s.mine _ (.head _) D rfl
  have ha : D ∉ A.filterMap HA.foot := by
    have := s.apart
    simp only [List.filterMap_cons, HA.foot] at this
    exact (List.nodup_cons.1 this).1
  have hk : Kept w [D] (w.putObj D o') := ⟨rfl, rfl, rfl, by simp [World.putObj], fun k hk hne => World.putObj_heap_other (by simp at hne; exact hne)⟩
  refine ⟨s.kept.trans hk (fun b hb => by simp at hb; subst hb; exact hD), fun h hh => HA.keep (s.holds h (.tail _ hh)) fun b hb => ?_, ?_, fun h hh => s.mine h (.tail _ hh)⟩
  · have hne : b ≠ D := fun e => ha (by rw [← e]; exact List.mem_filterMap.2 ⟨h, hh, hb⟩)
    exact World.putObj_heap_other hne
  · have := s.apart
    simp only [List.filterMap_cons, HA.foot] at this
    exact (List.nodup_cons.1 this).2
theorem leave_mark {D : Nat} {a : Act} {w : World} {u : Value} (hD : HA.blk D (.deferred (some [])) ∈ A) (s : St w0 S A w) (f : a.defers = [])
    (h : ∃ v, (results fn a.tmps).run P (w.putObj D (.deferred none)) = .ok v (w.putObj D (.deferred none)) ∧ GivesS S R w0 (.returned v) (w.putObj D (.deferred none))) :
    endM P fn (GivesS S R w0) .ret (sd [mark D] a) w := by
  have e : (sd [mark D] a).defers = [mark D] := by simp [sd, f]
  show LeavesInM (fence none) 0 P fn a.tmps _ (sd [mark D] a).defers .returning w
  rw [e]
  have hh : w.heap[D]? = some (.deferred (some [])) := s.holds _ hD
  exact ⟨by simp, .inl ⟨D, _, rfl, run_takeDeferred hh, h⟩⟩
theorem WN.ret1M {D : Nat} {t : Tmp} (hr : fn.results = #[.tmp t]) (hv : lk ρ t = some v) (hR : R v B) (hp : Part A B) :
    WN ⟨P, n, w0, S⟩ (Post [mark D] (endM P fn (GivesS S R w0))) .ret ρ (.blk D (.deferred (some [])) :: A) := fun a w f s =>
  leave_mark (u := v) (.head _) s f.defers ⟨v, by rw [results_tmp hr _ _ _, f.get t v hv], v, B, rfl, hR, s.unmark.part hp⟩
theorem WN.ret1N {t : Tmp} (hr : fn.results = #[.tmp t]) (hv : lk ρ t = some v) (hR : R v B) (hp : Part A B) :
    WN ⟨P, n, w0, S⟩ (Post [] (endM P fn (GivesS S R w0))) .ret ρ A := fun a w f s => by
  have e : (sd [] a).defers = [] := by simp [sd, f.defers]
  show LeavesInM (fence none) 0 P fn a.tmps _ (sd [] a).defers .returning w
  rw [e]
  exact ⟨v, by rw [results_tmp hr _ _ _, f.get t v hv], v, B, rfl, hR, s.part hp⟩
end
structure Kp (B : Nat) (W W' : World) : Prop where
  size : W.heap.size ≤ W'.heap.size
  cells : ∀ k o, B ≤ k → W.heap[k]? = some o → o.isCells = true → W'.heap[k]? = some o
theorem Kp.trans {B : Nat} {U V W : World} (h : Kp B U V) (k : Kp B V W) : Kp B U W := ⟨Nat.le_trans h.size k.size, fun i o hB hi ho => k.cells i o hB (h.cells i o hB hi ho) ho⟩
theorem Kp.put {B : Nat} (W : World) (l : Nat) (o o' : Obj) (hl : W.heap[l]? = some o) (ho : o.isCells = false) : Kp B W (W.putObj l o') :=
  ⟨by simp [World.putObj], fun k x _ hk hx => by
    have hne : k ≠ l := fun e => by subst e; rw [hl] at hk; cases hk; rw [ho] at hx; cases hx
    rw [World.putObj_heap_other hne]; exact hk⟩
theorem St.grownBy {w0 w w' : World} {S : List Nat} {A : List HA} {row : Option Nat} {B : Nat} (s : St w0 S A w) (hg : w.grownBy w' row) (hr : ∀ r, row = some r → B ≤ r) (h0 : w0.heap.size ≤ B) (hA : ∀ x ∈ A, ∀ b, x.foot = some b → b < B) : St w0 S A w' :=
  ⟨⟨hg.os.trans s.kept.os, hg.tape.trans s.kept.tape, hg.output.trans s.kept.output, Nat.le_trans s.kept.size hg.size, fun k hk hS => by
    rw [hg.block k (Nat.lt_of_lt_of_le hk s.kept.size) (fun e => by have := hr k e.symm; omega)]
    exact s.kept.block k hk hS⟩, fun x hx => HA.keep (s.holds x hx) fun b hb => hg.block b (HA.lt (s.holds x hx) hb) (fun e => by have := hr b e.symm; have := hA x hx b hb; omega), s.apart, s.mine⟩
def RPost {α : Type} (w : World) (S : List Nat) (H : List α → Prop) (B : List α → List HA) (Hx : Code → List α → Prop) (Bx : Code → List α → List HA) (xs : List α) : Exit → Act → World → Prop
  | .normal, _, W => H xs ∧ St w S (B xs) W
  | .ret, _, W => Hx .ret xs ∧ St w S (Bx .ret xs) W
  | .exit id, _, W => Hx (.exit id) xs ∧ St w S (Bx (.exit id) xs) W
  | _, _, _ => False
section
variable {α : Type} {P : Program} {n : Nat} {w : World} {S : List Nat} {ρ : Env} {A : List HA} {ds : List Deferred} {H : List α → Prop} {B : List α → List HA} {Hx : Code → List α → Prop} {Bx : Code → List α → List HA} {xs : List α}
theorem WN.rnext (h : H xs) (hp : Part A (B xs)) : WN ⟨P, n, w, S⟩ (Post ds (RPost w S H B Hx Bx xs)) .normal ρ A := fun _ _ _ s => ⟨h, s.part hp⟩
end
section
variable {X : Cx} {Q : Exit → Act → World → Prop} {ρ : Env} {A : List HA}
theorem feet_mem {A : List HA} {b : Nat} : b ∈ A.filterMap HA.foot ↔ ∃ x ∈ A, x.foot = some b := List.mem_filterMap
theorem round_st {w W W' : World} {F : List Nat} {B B' : List HA} {w0 : World} {S : List Nat} (s0 : St w0 S B W) (hF : F = B.filterMap HA.foot) (s : St W F B' W') (hB : ∀ b ∈ B'.filterMap HA.foot, b ∈ F) : St w0 S B' W' := by
  have hm : ∀ b ∈ F, b ∈ S ∨ w0.heap.size ≤ b := fun b hb => by
    rw [hF] at hb
    obtain ⟨x, hx, hf⟩ := feet_mem.1 hb
    exact s0.mine x hx b hf
  exact ⟨s0.kept.trans s.kept hm, s.holds, s.apart, fun x hx b hb => hm b (hB b (feet_mem.2 ⟨x, hx, hb⟩))⟩
theorem round_start {W : World} {B : List HA} {w0 : World} {S : List Nat} (s : St w0 S B W) : St W (B.filterMap HA.foot) B W :=
  ⟨Kept.refl' , s.holds, s.apart, fun x hx b hb => .inl (feet_mem.2 ⟨x, hx, hb⟩)⟩
where Kept.refl' : Kept W (B.filterMap HA.foot) W := ⟨rfl, rfl, rfl, Nat.le_refl _, fun _ _ _ => rfl⟩
theorem WG.rangeF {α : Type} {g : Operand} {p t : Tmp} {id : Nat} {ty : TypeId} {ps : String} {af : Array Edge} {body : Code} {gf : Nat} {lb : List Value} {enc : α → Value} {S Sp : List α → Prop} {N : Nat}
    (hg : ev ρ g = some (.func (.func gf) #[] lb.toArray)) (eg : ∀ args w, (callFunc gf args).run X.P w = .ok (.enter gf args) w)
    (hpn : Nat.blt p X.n = true) (htn : Nat.blt t X.n = true)
    (hseq : ∀ w, St X.w0 X.S A w → SeqStopsK (fence none) 1 X.P gf lb.toArray (fun x => #[enc x]) (Kp w.heap.size) S Sp N w)
    (B : List α → List HA) (Bx : Code → List α → List HA) (H : List α → Prop) (Hx : Code → List α → Prop) (hB0 : Part A (B [])) (hH0 : H [])
    (hft : ∀ pre, (B pre).filterMap HA.foot = (B []).filterMap HA.foot) (hfx : ∀ c pre, (Bx c pre).filterMap HA.foot = (B []).filterMap HA.foot)
    (hbody : ∀ (l : Nat) (pre : List α) (x : α) (w : World), H pre → pre.length < N → St X.w0 X.S (B pre) w →
      WG ⟨X.P, X.n, w, (B []).filterMap HA.foot⟩ (some l) [] body (RPost w ((B []).filterMap HA.foot) H B Hx Bx (pre ++ [x])) ((t, enc x) :: (p, enc x) :: ρ) (B pre))
    (hdone : ∀ D xs, S xs → H xs → WN X (Post [mark D] Q) .normal ρ (.blk D (.deferred (some [])) :: B xs))
    (hstop : ∀ D c pre, Sp pre → Hx c pre → WG X none [mark D] c Q ρ (.blk D (.deferred (some [])) :: Bx c pre)) :
    WG X none [] (.rangeFunc g #[p] (.region id [⟨some t, .assign (.tmp p), ty, ps, af, none⟩].toArray false) body) Q ρ A := fun a w f s => by
  have ea : sd [] a = a := sd_nil f.defers
  rw [ea]
  have hfd := f.defers
  have s0 := s.part hB0
  have hlow : ∀ b ∈ (B []).filterMap HA.foot, b < w.heap.size := fun b hb => by
    obtain ⟨x, hx, hf⟩ := feet_mem.1 hb
    exact HA.lt (s0.holds x hx) hf
  have hw0 := s.kept.size
  have hown : ∀ {C : List HA}, (C.filterMap HA.foot = (B []).filterMap HA.foot) → ∀ x ∈ C, ∀ b, x.foot = some b → b < w.heap.size := fun hC x hx b hb => hlow b (by rw [← hC]; exact feet_mem.2 ⟨x, hx, hb⟩)
  have f1 : ∀ x, Fr X.n ((t, enc x) :: (p, enc x) :: ρ) ((a.put (some p) (enc x)).put (some t) (enc x)) := fun x => (f.put (blt_lt hpn) (enc x)).put (blt_lt htn) (enc x)
  refine wpIn_any (n := 2) (wpIn_rangeFunc_ownG (F := fence none) (n := 2) rfl (by omega) (gf := gf) (lb := lb.toArray) (f.ev hg) trivial eg (hseq w s) (fun h k => h.trans k) (fun W l o o' _ hl ho _ => Kp.put W l o o' hl ho) (Below.refl _ _) (fun _ => rfl)
    (fun pre W => H pre ∧ St X.w0 X.S (B pre) W) (fun c pre W => Hx c pre ∧ St X.w0 X.S (Bx c pre) W)
    (fun pre W W' row hs hg hr => ⟨hs.1, hs.2.grownBy hg (fun r e => (hr r e).1) hw0 (hown (hft pre))⟩) (fun c pre W W' row hs hg hr => ⟨hs.1, hs.2.grownBy hg (fun r e => (hr r e).1) hw0 (hown (hfx c pre))⟩)
    ⟨hH0, s0⟩ (fun x => (a.put (some p) (enc x)).put (some t) (enc x)) ?_ ?_ ?_ ?_)
  · intro l x W K hK
    refine wpIn_region_lit ?_
    have fp : Fr X.n ((p, enc x) :: ρ) (a.put (some p) (enc x)) := f.put (blt_lt hpn) (enc x)
    have e1 : ({ tmps := (#[p].zip #[enc x]).foldl (fun t (p, v) => t.setIfInBounds p v) a.tmps, defers := [] } : Act) = a.put (some p) (enc x) := by
      obtain ⟨tm, df⟩ := a
      simp only at hfd
      subst hfd
      simp [Act.put]
    rw [e1]
    have hv := fp.get p (enc x) (by simp [lk, Nat.beq_refl])
    refine wpListIn_plain rfl fun K' hK' => ⟨fun _ _ => trivial, ?_⟩
    rw [Oper.semAt_eq _ _ _ (fun c e => by cases e)]
    have hx : (a.put (some p) (enc x)).eval (.tmp p) = enc x := hv
    simp only [execOp, hx, Sem.run_pure]
    rw [Oper.uponIn_value]
    exact hK' _ _ hK
  · intro l pre x W ⟨hi, hs⟩ hlen
    have hb := hbody l pre x W hi hlen hs _ W (f1 x) (by have := round_start hs; rwa [hft pre] at this)
    have e2 : sd [] ((a.put (some p) (enc x)).put (some t) (enc x)) = (a.put (some p) (enc x)).put (some t) (enc x) := sd_nil (f1 x).defers
    rw [e2] at hb
    have kf : ∀ {C : List HA} {W' : World}, St W ((B []).filterMap HA.foot) C W' → KeepsFrom w.heap.size W W' ∧ Kp w.heap.size W W' := fun s' =>
      have hk : ∀ k o, w.heap.size ≤ k → W.heap[k]? = some o → _ := fun k o hB hk => (s'.kept.block k (lt_of_heap hk) (fun hm => by have := hlow k hm; omega)).trans hk
      ⟨⟨s'.kept.size, fun k o hB h _ => hk k o hB h⟩, ⟨s'.kept.size, fun k o hB h _ => hk k o hB h⟩⟩
    have hF : (B []).filterMap HA.foot = (B pre).filterMap HA.foot := (hft pre).symm
    refine wpIn_mono (wpIn_any hb) fun e a' W' hq => ?_
    cases e with
    | normal => exact ⟨(kf hq.2).1, (kf hq.2).2, hq.1, round_st (w := w) hs hF hq.2 (fun b hb => by rw [hft] at hb; exact hb)⟩
    | ret => exact ⟨(kf hq.2).1, hq.1, round_st (w := w) hs hF hq.2 (fun b hb => by rw [hfx] at hb; exact hb)⟩
    | exit id => exact ⟨(kf hq.2).1, hq.1, round_st (w := w) hs hF hq.2 (fun b hb => by rw [hfx] at hb; exact hb)⟩
    | goto l => exact hq.elim
    | panic ch => exact hq.elim
    | outgrown => exact hq.elim
  all_goals
    have mk : ∀ {C : List HA} {W : World} {D : Nat}, (C.filterMap HA.foot = (B []).filterMap HA.foot) → w.heap.size ≤ D → W.heap[D]? = some (.deferred (some [])) → St X.w0 X.S C W → St X.w0 X.S (.blk D (.deferred (some [])) :: C) W := fun hC hD hK sC =>
      ⟨sC.kept, fun x hx => by rcases List.mem_cons.1 hx with rfl | hx; exact hK; exact sC.holds x hx, by
        simp only [List.filterMap_cons, HA.foot]
        exact List.nodup_cons.2 ⟨fun hm => by rw [hC] at hm; have := hlow _ hm; omega, sC.apart⟩, fun x hx b hb => by
        rcases List.mem_cons.1 hx with rfl | hx
        · simp only [HA.foot, Option.some.injEq] at hb; subst hb; exact .inr (by omega)
        · exact sC.mine x hx b hb⟩
    have e3 : ∀ D, ({ a with defers := { target := .collected D, args := #[] } :: a.defers } : Act) = sd [mark D] a := fun D => by simp [sd, hfd, mark]
  · intro D xs W hD hS ⟨hi, hs⟩ hK
    rw [e3]
    exact hdone D xs hS hi a W f (mk (hft xs) hD hK hs)
  · intro D c pre W hD hS ⟨hi, hs⟩ hK
    rw [e3]
    exact wpIn_any (hstop D c pre hS hi a W f (mk (hfx c pre) hD hK hs))
end
end Go.Proofs.YtbkdjfgkebkknaaGreatDoor
