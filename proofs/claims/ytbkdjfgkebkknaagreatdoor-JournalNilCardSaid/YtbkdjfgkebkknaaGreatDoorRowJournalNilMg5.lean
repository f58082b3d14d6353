import Derived.Test.YtbkdjfgkebkknaaGreatDoorRowJournalNilMg4
/- Ways that come together again behind a branch or a loop; several results of several cells. -/
namespace Go.Proofs.YtbkdjfgkebkknaaGreatDoor
set_option linter.unusedVariables false
set_option linter.unusedSimpArgs false
open Go Go.RowKit
/-- What is handed on behind a piece of code: the state for some ghost. -/
def Join {α : Type} (X : Cx) (E : α → Env) (B : α → List HA) (H : α → Prop) (a : Act) (w : World) : Prop := ∃ j, H j ∧ Fr X.n (E j) a ∧ St X.w0 X.S (B j) w
section
variable {X : Cx} {Q : Exit → Act → World → Prop} {ρ : Env} {A : List HA}
theorem join_mono {α : Type} {E : α → Env} {B : α → List HA} {H : α → Prop} {z : Code} (hz : ∀ i, H i → WC X z Q (E i) (B i)) (e : Exit) (a : Act) (w : World) (hq : Exit.then (Join X E B H) Q e a w) : Exit.then (z.wp X.P Q) Q e a w := by
  cases e with
  | normal => obtain ⟨i, hi, f', s'⟩ := hq; exact hz i hi a w f' s'
  | exit id => exact hq
  | goto l => exact hq
  | ret => exact hq
  | panic ch => exact hq
  | outgrown => exact hq
theorem WC.join {α : Type} (E : α → Env) (B : α → List HA) (H : α → Prop) {c z : Code} (h : WC X c (Exit.then (Join X E B H) Q) ρ A) (hz : ∀ i, H i → WC X z Q (E i) (B i)) : WC X c (Exit.then (z.wp X.P Q) Q) ρ A := fun a w f s =>
  wp_mono (h a w f s) fun e a' w' hq => join_mono hz e a' w' hq
/-- The same within a block. -/
theorem WC.joinB {α : Type} (E : α → Env) (B : α → List HA) (H : α → Prop) {id : Nat} {c z : Code} (h : WC X c (Exit.inBlock id (Exit.then (Join X E B H) Q)) ρ A) (hz : ∀ i, H i → WC X z Q (E i) (B i)) : WC X c (Exit.inBlock id (Exit.then (z.wp X.P Q) Q)) ρ A := fun a w f s =>
  wp_mono (h a w f s) fun e a' w' hq => by
    cases e with
    | exit n =>
      simp only [Exit.inBlock] at hq ⊢
      split
      · rename_i hn; rw [if_pos hn] at hq; exact join_mono hz _ a' w' hq
      · rename_i hn; rw [if_neg hn] at hq; exact join_mono hz _ a' w' hq
    | normal => exact join_mono hz (.normal) a' w' hq
    | goto l => exact join_mono hz (.goto l) a' w' hq
    | ret => exact join_mono hz (.ret) a' w' hq
    | panic ch => exact join_mono hz (.panic ch) a' w' hq
    | outgrown => exact join_mono hz (.outgrown) a' w' hq
theorem WN.join {α : Type} {E : α → Env} {B : α → List HA} {H : α → Prop} (j : α) (hj : H j) (hs : Sub ρ (E j)) (hp : Part A (B j)) : WN X (Exit.then (Join X E B H) Q) .normal ρ A := fun _ _ f s => ⟨j, hj, f.of_sub hs, s.part hp⟩
/-- A function value with what it has captured. -/
theorem Yl.capFunc {ty : TypeId} {g : FuncId} {xs : List Operand} {vs : List Value} (hx : evs ρ xs = some vs) : Yl X (.makeFunc (.func g) #[] xs.toArray) ty ρ A (.func (.func g) #[] vs.toArray) := Yl.intro fun o ho _ a w f _ => by
  have e := evs_map f hx
  simp [execOp, ho, Instr.makeFunc, e]
theorem WC.shrink {c : Code} {B : List HA} {a : Option Addr} {cap : Nat} {T : TypeId} {k : Nat} {vs : List Value} (m : Nat) (hp : Pick (.row a cap T k vs) A B) (h : WC X c Q ρ (.row a cap T k (vs.take m) :: B)) : WC X c Q ρ A :=
  fun w f hw s => h w f hw ((s.pick hp).shrink m)
end
section
variable {P : Program} {fn : Func} {R : Value → List HA → Prop} {ρ : Env} {A B : List HA} {n : Nat} {w0 : World}
/-- Two results, the first in a variable of several cells. -/
theorem WN.ret2C {t t2 : Tmp} {T T' : TypeId} {b k : Nat} {us : Array Value} {fr : Nat × Nat} {v2 : Value} (hr : fn.results = #[.cell t T, .tmp t2]) (hg : ∀ w, (isAgg T).run P w = .ok true w) (hk : ∀ w, (sizeOf T).run P w = .ok k w)
    (hv : lk ρ t = some (.pointer (some ⟨b, 0, none⟩))) (hv2 : lk ρ t2 = some v2) (hm : HA.blk b (.cells us T' fr) ∈ A) (hl : Nat.beq us.size k = true) (hR : R (.tuple #[.agg us, v2]) B) (hp : Part A B) :
    WN ⟨P, n, w0, []⟩ (bodyPost P fn (Gives R w0)) .ret ρ A :=
  fun a w f s => by
    have hc := cell_run hg hk hm hl s
    have h1 := f.get t _ hv
    have h2 := f.get t2 _ hv2
    refine bodyPost_ret (v := .tuple #[.agg us, v2]) ?_ f.defers ⟨_, B, rfl, hR, s.part hp⟩
    rw [Array.getD_eq_getD_getElem?] at h1 h2
    simp [results, hr, h1, h2, asAddr, hc]
/-- Four results, three of them in variables of several cells. -/
theorem WN.ret4C {t1 t2 t3 t4 : Tmp} {T1 T2 T3 U1 U2 U3 : TypeId} {b1 b2 b3 k1 k2 k3 : Nat} {u1 u2 u3 : Array Value} {f1 f2 f3 : Nat × Nat} {v4 : Value} (hr : fn.results = #[.cell t1 T1, .cell t2 T2, .cell t3 T3, .tmp t4])
    (hg1 : ∀ w, (isAgg T1).run P w = .ok true w) (hk1 : ∀ w, (sizeOf T1).run P w = .ok k1 w) (hg2 : ∀ w, (isAgg T2).run P w = .ok true w) (hk2 : ∀ w, (sizeOf T2).run P w = .ok k2 w) (hg3 : ∀ w, (isAgg T3).run P w = .ok true w) (hk3 : ∀ w, (sizeOf T3).run P w = .ok k3 w)
    (hv1 : lk ρ t1 = some (.pointer (some ⟨b1, 0, none⟩))) (hv2 : lk ρ t2 = some (.pointer (some ⟨b2, 0, none⟩))) (hv3 : lk ρ t3 = some (.pointer (some ⟨b3, 0, none⟩))) (hv4 : lk ρ t4 = some v4)
    (hm1 : HA.blk b1 (.cells u1 U1 f1) ∈ A) (hm2 : HA.blk b2 (.cells u2 U2 f2) ∈ A) (hm3 : HA.blk b3 (.cells u3 U3 f3) ∈ A) (hl1 : Nat.beq u1.size k1 = true) (hl2 : Nat.beq u2.size k2 = true) (hl3 : Nat.beq u3.size k3 = true)
    (hR : R (.tuple #[.agg u1, .agg u2, .agg u3, v4]) B) (hp : Part A B) : WN ⟨P, n, w0, []⟩ (bodyPost P fn (Gives R w0)) .ret ρ A :=
  fun a w f s => by
    have c1 := cell_run hg1 hk1 hm1 hl1 s
    have c2 := cell_run hg2 hk2 hm2 hl2 s
    have c3 := cell_run hg3 hk3 hm3 hl3 s
    have h1 := f.get t1 _ hv1
    have h2 := f.get t2 _ hv2
    have h3 := f.get t3 _ hv3
    have h4 := f.get t4 _ hv4
    refine bodyPost_ret (v := .tuple #[.agg u1, .agg u2, .agg u3, v4]) ?_ f.defers ⟨_, B, rfl, hR, s.part hp⟩
    rw [Array.getD_eq_getD_getElem?] at h1 h2 h3 h4
    simp [results, hr, h1, h2, h3, h4, asAddr, c1, c2, c3]
end
end Go.Proofs.YtbkdjfgkebkknaaGreatDoor
/- Regions that draw their order, whose last operation alters what the others read: one operation, k, for which all those that are taken first must have come up, owes nothing. -/
namespace Go.Proofs.YtbkdjfgkebkknaaGreatDoor
set_option linter.unusedVariables false
set_option linter.unusedSimpArgs false
open Go Go.RowKit
/-- Operation k waits for operation i, over some steps. -/
def waits (ops : Array Oper) : Nat → Nat → Nat → Bool
  | 0, _, _ => false
  | f + 1, i, k => match ops[k]? with
    | some o => o.after.any fun e => Region.binds .any e && (Nat.beq e.on i || waits ops f i e.on)
    | none => false
/-- Whatever has come up, all that it waits for has come up. -/
def Shut (ops : Array Oper) (l : Array Bool) : Prop := ∀ j o, ops[j]? = some o → l.getD j false = true → ∀ e ∈ o.after, Region.binds .any e = true → l.getD e.on false = true
theorem waits_listed {ops : Array Oper} {l : Array Bool} (hs : Shut ops l) : ∀ {n i k : Nat}, waits ops n i k = true → (∀ o, ops[k]? = some o → ∀ e ∈ o.after, Region.binds .any e = true → l.getD e.on false = true) → l.getD i false = true
  | 0, _, _, h, _ => by cases h
  | n + 1, i, k, h, hk => by
    unfold waits at h
    split at h
    · rename_i o ho
      obtain ⟨e, he, hb⟩ := Array.any_eq_true'.1 h
      simp only [Bool.and_eq_true, Bool.or_eq_true] at hb
      have h1 := hk o ho e he hb.1
      rcases hb.2 with h2 | h2
      · rwa [Nat.eq_of_beq_eq_true h2] at h1
      · exact waits_listed hs h2 fun o2 ho2 => hs _ o2 ho2 h1
    · cases h
theorem Shut.set {ops : Array Oper} {l : Array Bool} {j : Nat} (hs : Shut ops l) (hj : j ∈ Region.ready .any ops l) : Shut ops (l.setIfInBounds j true) := fun x o ho hx e he hb => by
  by_cases hxj : j = x
  · subst hxj
    obtain ⟨_, o2, ho2, hall⟩ := mem_ready.1 hj
    rw [ho] at ho2
    cases ho2
    exact getD_set_true (hall e he hb)
  · rw [getD_set_ne false hxj] at hx
    exact getD_set_true (hs x o ho hx e he hb)
theorem Shut.none (ops : Array Oper) (n : Nat) : Shut ops (Array.replicate n false) := fun j o _ h => by
  rw [Array.getD_eq_getD_getElem?] at h
  by_cases hj : j < n
  · simp [hj] at h
  · simp [hj] at h
theorem not_both {l : Array Bool} {i : Nat} (h : l.getD i true = false) (h2 : l.getD i false = true) : False := by
  rw [Array.getD_eq_getD_getElem?] at h h2
  cases e : l[i]? with
  | none => simp [e] at h
  | some b => simp [e] at h h2; rw [h] at h2; cases h2
def wpAnyL (P : Program) (ops : Array Oper) (Q : Exit → Act → World → Prop) (S : World → Prop) (k : Nat) : Nat → Array Bool → Act → World → Prop
  | 0, l, a, w => Region.ready .any ops l = [] ∧ Q .normal a w
  | f + 1, l, a, w => (Region.ready .any ops l = [] → Q .normal a w) ∧ ∀ i ∈ Region.ready .any ops l, wpOp P ops Q i (fun a' w' => ((l.setIfInBounds i true).getD k false = false → S w') ∧ wpAnyL P ops Q S k f (l.setIfInBounds i true) a' w') a w
section
variable {P : Program} {ops : Array Oper} {Q : Exit → Act → World → Prop} {S : World → Prop} {k : Nat}
theorem wpAny_of_last : ∀ (f : Nat) (l : Array Bool) (a : Act) (w : World), wpAnyL P ops Q S k f l a w → wpAny P .any ops Q f l a w
  | 0, _, _, _, h => h
  | f + 1, _, _, _, h => ⟨h.1, fun i hi => wpOp_mono (fun a' w' h' => wpAny_of_last f _ a' w' h'.2) (h.2 i hi)⟩
theorem wpAnyL_take {i n : Nat} {oi : Oper} {v : Value} (hi : ops[i]? = some oi) (hsel : Region.noSelect ops = true) (hk : waits ops n i k = true)
    (hQ : ∀ c a w, Q (.panic c) (a.put oi.dst v) w → Q (.panic c) a w) :
    ∀ (f : Nat) (l : Array Bool) (a : Act) (w : World), Shut ops l →
      (∀ j oj, ops[j]? = some oj → j ≠ i → l.getD j true = false → (∀ e ∈ oj.after, Region.binds .any e = true → e.on ≠ i) → oi.apart ops oj = true) →
      i ∈ Region.ready .any ops l → YieldsIf P ops S oi v a → S w → wpAnyL P ops Q S k f (l.setIfInBounds i true) (a.put oi.dst v) w → wpAnyL P ops Q S k (f + 1) l a w
  | 0, l, a, w, _, _, hr, hy, hS, H => by
    refine ⟨fun h => (by rw [h] at hr; cases hr), fun j hj => ?_⟩
    by_cases hji : j = i
    · subst hji; exact hy.wpOp hi hS ⟨fun _ => hS, H⟩
    · have := ready_mono hj hji
      rw [H.1] at this
      cases this
  | f + 1, l, a, w, hs, hfree, hr, hy, hS, H => by
    refine ⟨fun h => (by rw [h] at hr; cases hr), fun j hj => ?_⟩
    have hun : l.getD i true = false := (mem_ready.1 hr).1
    by_cases hji : j = i
    · subst hji; exact hy.wpOp hi hS ⟨fun _ => hS, H⟩
    · have h1 := H.2 j (ready_mono hj hji)
      obtain ⟨hjun, oj, hoj, hall⟩ := mem_ready.1 hj
      have hjk : j ≠ k := by
        rintro rfl
        exact not_both hun (waits_listed hs hk fun o ho e he hb => by rw [hoj] at ho; cases ho; exact hall e he hb)
      have hik : i ≠ k := by
        rintro rfl
        obtain ⟨_, o2, ho2, hall2⟩ := mem_ready.1 hr
        exact not_both hun (waits_listed hs hk fun o ho e he hb => by rw [ho2] at ho; cases ho; exact hall2 e he hb)
      have hkl : l.getD k false = false := by
        cases e : l.getD k false with
        | false => rfl
        | true => exact (not_both hun (waits_listed hs hk fun o ho => hs k o ho e)).elim
      have hkj : ((l.setIfInBounds i true).setIfInBounds j true).getD k false = false := by rw [getD_set_ne false hjk, getD_set_ne false hik]; exact hkl
      have hnot : ∀ e ∈ oj.after, Region.binds .any e = true → e.on ≠ i := fun e he hb heq => not_both hun (by have := hall e he hb; rwa [heq] at this)
      have h2 := wpOp_putIf hoj (hfree j oj hoj hji hjun hnot) (fun cs b => Region.noSelect_spec hsel i oi cs b hi) (fun cs b => Region.noSelect_spec hsel j oj cs b hoj) hQ hy h1
      refine wpOp_mono (fun a' w' h3 => ⟨fun _ => h3.2.1 hkj, wpAnyL_take hi hsel hk hQ f (l.setIfInBounds j true) a' w' (hs.set hj) (fun x ox hx hxi hxu hno => hfree x ox hx hxi ?_ hno) (ready_mono hr (Ne.symm hji)) h3.1 (h3.2.1 hkj) ?_⟩) h2
      · by_cases hjx : j = x
        · subst hjx; exact hjun
        · rwa [getD_set_ne true hjx] at hxu
      · rw [Array.setIfInBounds_comm _ _ hji]
        exact h3.2.2
end
section
variable {X : Cx} {ops : Array Oper} {Q : Exit → Act → World → Prop} {ρ : Env} {A A0 B : List HA} {d : Tmp} {op : Op} {ty : TypeId} {ps : String} {af : Array Edge} {v : Value} {fuel k : Nat} {listed : Array Bool}
def WE (X : Cx) (A0 : List HA) (k : Nat) (ops : Array Oper) (Q : Exit → Act → World → Prop) (fuel : Nat) (listed : Array Bool) (ρ : Env) (A : List HA) : Prop :=
  Shut ops listed → ∀ a w, Fr X.n ρ a → St X.w0 X.S A w → wpAnyL X.P ops Q (St X.w0 X.S A0) k fuel listed a w
theorem WC.regionE (A0 : List HA) (k : Nat) {id : Nat} {l : List Oper} (hm : X.P.follows .mixedOrders = true) (h : WE X A0 k l.toArray Q l.length (Array.replicate l.length false) ρ A) : WC X (.region id l.toArray true) Q ρ A :=
  fun a w f s => wp_region_any hm (wpAny_of_last _ _ _ _ (by simpa using h (Shut.none _ _) a _ f s.drew))
/-- In this order, as far as it goes. -/
def WU (X : Cx) (A0 : List HA) (k : Nat) (ops : Array Oper) (Q : Exit → Act → World → Prop) (order : List Nat) (fuel : Nat) (listed : Array Bool) (ρ : Env) (A : List HA) : Prop :=
  Part A A0 ∧ Region.noSelect ops = true → WE X A0 k ops Q fuel listed ρ A ∧ (order = order)
theorem WE.order (order : List Nat) (hp : Part A A0) (hs : Region.noSelect ops = true) (h : WU X A0 k ops Q order fuel listed ρ A) : WE X A0 k ops Q fuel listed ρ A := (h ⟨hp, hs⟩).1
theorem WU.nil (h : WE X A0 k ops Q fuel listed ρ A) : WU X A0 k ops Q [] fuel listed ρ A := fun _ => ⟨h, rfl⟩
theorem WE.take_ {i : Nat} {o : Oper} (hi : ops[i]? = some o) (hdst : o.dst = some d) (hs : Region.noSelect ops = true)
    (hQ : ∀ c a w, Q (.panic c) (a.put (some d) v) w → Q (.panic c) a w) (hp : Part A A0) (hy : ∀ a, Fr X.n ρ a → YieldsIf X.P ops (St X.w0 X.S A0) o v a) (hd : Nat.blt d X.n = true) (hf : Region.free .any ops listed i = true) (hr : (Region.ready .any ops listed).contains i = true) (hk : waits ops 9 i k = true)
    (h : WE X A0 k ops Q fuel (listed.setIfInBounds i true) ((d, v) :: ρ) A) : WE X A0 k ops Q (fuel + 1) listed ρ A := fun sh a w f s => by
  have hr' : i ∈ Region.ready .any ops listed := by simpa using hr
  exact wpAnyL_take hi hs hk (by rw [hdst]; exact hQ) fuel listed a w sh (Region.free_spec hi hf) hr' (hy a f) (s.part hp) (by rw [hdst]; exact h (sh.set hr') _ _ (f.put (blt_lt hd) v) s)
theorem WU.take {i : Nat} {r : List Nat} {g : Option (Nat × Bool)} (hi : ops[i]? = some ⟨some d, op, ty, ps, af, g⟩) (hg : g = none)
    (hQ : ∀ c a w, Q (.panic c) (a.put (some d) v) w → Q (.panic c) a w) (hy : Yl X op ty ρ A0 v) (hd : Nat.blt d X.n = true) (hf : Region.free .any ops listed i = true) (hr : (Region.ready .any ops listed).contains i = true) (hk : waits ops 9 i k = true)
    (h : WU X A0 k ops Q r fuel (listed.setIfInBounds i true) ((d, v) :: ρ) A) : WU X A0 k ops Q (i :: r) (fuel + 1) listed ρ A := fun ⟨hp, hs⟩ => ⟨by
  subst hg
  exact WE.take_ hi rfl hs hQ hp (fun a f => .inl ⟨by simp [Region.wanted], fun w' s' => hy _ rfl rfl a w' f s'⟩) hd hf hr hk (h ⟨hp, hs⟩).1, rfl⟩
theorem WU.takeG {i j t : Nat} {r : List Nat} {b want : Bool} (hi : ops[i]? = some ⟨some d, op, ty, ps, af, some (j, want)⟩) (hj : (ops[j]?).bind (·.dst) = some t) (hv : lk ρ t = some (.bool b)) (hb : b = want)
    (hQ : ∀ c a w, Q (.panic c) (a.put (some d) v) w → Q (.panic c) a w) (hy : Yl X op ty ρ A0 v) (hd : Nat.blt d X.n = true) (hf : Region.free .any ops listed i = true) (hr : (Region.ready .any ops listed).contains i = true) (hk : waits ops 9 i k = true)
    (h : WU X A0 k ops Q r fuel (listed.setIfInBounds i true) ((d, v) :: ρ) A) : WU X A0 k ops Q (i :: r) (fuel + 1) listed ρ A := fun ⟨hp, hs⟩ =>
  ⟨WE.take_ hi rfl hs hQ hp (fun a f => .inl ⟨by rw [wanted_eq (o := ⟨some d, op, ty, ps, af, some (j, want)⟩) rfl hj f hv]; simp [hb], fun w' s' => hy _ rfl rfl a w' f s'⟩) hd hf hr hk (h ⟨hp, hs⟩).1, rfl⟩
theorem WU.passG {i j t : Nat} {r : List Nat} {b want : Bool} (hi : ops[i]? = some ⟨some d, op, ty, ps, af, some (j, want)⟩) (hj : (ops[j]?).bind (·.dst) = some t) (hv : lk ρ t = some (.bool b)) (hb : b = !want)
    (hQ : ∀ c a w, Q (.panic c) (a.put (some d) undef) w → Q (.panic c) a w) (hd : Nat.blt d X.n = true) (hf : Region.free .any ops listed i = true) (hr : (Region.ready .any ops listed).contains i = true) (hk : waits ops 9 i k = true)
    (h : WU X A0 k ops Q r fuel (listed.setIfInBounds i true) ((d, undef) :: ρ) A) : WU X A0 k ops Q (i :: r) (fuel + 1) listed ρ A := fun ⟨hp, hs⟩ =>
  ⟨WE.take_ hi rfl hs hQ hp (fun a f => .inr ⟨by rw [wanted_eq (o := ⟨some d, op, ty, ps, af, some (j, want)⟩) rfl hj f hv]; simp [hb], rfl⟩) hd hf hr hk (h ⟨hp, hs⟩).1, rfl⟩
theorem WU.passU {i j t : Nat} {r : List Nat} {want : Bool} (hi : ops[i]? = some ⟨some d, op, ty, ps, af, some (j, want)⟩) (hj : (ops[j]?).bind (·.dst) = some t) (hv : lk ρ t = some undef)
    (hQ : ∀ c a w, Q (.panic c) (a.put (some d) undef) w → Q (.panic c) a w) (hd : Nat.blt d X.n = true) (hf : Region.free .any ops listed i = true) (hr : (Region.ready .any ops listed).contains i = true) (hk : waits ops 9 i k = true)
    (h : WU X A0 k ops Q r fuel (listed.setIfInBounds i true) ((d, undef) :: ρ) A) : WU X A0 k ops Q (i :: r) (fuel + 1) listed ρ A := fun ⟨hp, hs⟩ =>
  ⟨WE.take_ hi rfl hs hQ hp (fun a f => by
    have h1 := f.get t _ hv
    have h3 : yielded ops a.tmps j = none := by
      unfold yielded
      rw [hj]
      rw [Array.getD_eq_getD_getElem?] at h1
      cases h4 : a.tmps[t]? with
      | none => simp [h4]
      | some u => rw [h4] at h1; simp at h1; subst h1; simp [h4, undef]
    exact .inr ⟨by simp [Region.wanted, h3], rfl⟩) hd hf hr hk (h ⟨hp, hs⟩).1, rfl⟩
theorem WU.kg {i : Nat} {r : List Nat} {dd : Option Tmp} {j : Nat × Bool} (_ : ops[i]? = some ⟨dd, op, ty, ps, af, some j⟩) (h : WU X A0 k ops Q (i :: r) fuel listed ρ A) : WU X A0 k ops Q (i :: r) fuel listed ρ A := h
theorem WU.kn {i : Nat} {r : List Nat} {dd : Option Tmp} (_ : ops[i]? = some ⟨dd, op, ty, ps, af, none⟩) (h : WU X A0 k ops Q (i :: r) fuel listed ρ A) : WU X A0 k ops Q (i :: r) fuel listed ρ A := h
theorem WU.k_move {i : Nat} {r : List Nat} {dd : Option Tmp} {g : Option (Nat × Bool)} {x : Operand} (_ : ops[i]? = some ⟨dd, .move x, ty, ps, af, g⟩) (h : WU X A0 k ops Q (i :: r) fuel listed ρ A) : WU X A0 k ops Q (i :: r) fuel listed ρ A := h
theorem WU.k_assign {i : Nat} {r : List Nat} {dd : Option Tmp} {g : Option (Nat × Bool)} {x : Operand} (_ : ops[i]? = some ⟨dd, .assign x, ty, ps, af, g⟩) (h : WU X A0 k ops Q (i :: r) fuel listed ρ A) : WU X A0 k ops Q (i :: r) fuel listed ρ A := h
theorem WU.k_extract {i : Nat} {r : List Nat} {dd : Option Tmp} {g : Option (Nat × Bool)} {x : Operand} {j : Nat} (_ : ops[i]? = some ⟨dd, .extract x j, ty, ps, af, g⟩) (h : WU X A0 k ops Q (i :: r) fuel listed ρ A) : WU X A0 k ops Q (i :: r) fuel listed ρ A := h
theorem WU.k_pick {i : Nat} {r : List Nat} {dd : Option Tmp} {g : Option (Nat × Bool)} {c x y : Operand} (_ : ops[i]? = some ⟨dd, .pick c x y, ty, ps, af, g⟩) (h : WU X A0 k ops Q (i :: r) fuel listed ρ A) : WU X A0 k ops Q (i :: r) fuel listed ρ A := h
theorem WU.k_unop {i : Nat} {r : List Nat} {dd : Option Tmp} {g : Option (Nat × Bool)} {o : UnOp} {t : TypeId} {x : Operand} (_ : ops[i]? = some ⟨dd, .unOp o t x, ty, ps, af, g⟩) (h : WU X A0 k ops Q (i :: r) fuel listed ρ A) : WU X A0 k ops Q (i :: r) fuel listed ρ A := h
theorem WU.k_conv {i : Nat} {r : List Nat} {dd : Option Tmp} {g : Option (Nat × Bool)} {s t : TypeId} {x : Operand} (_ : ops[i]? = some ⟨dd, .convert s t x, ty, ps, af, g⟩) (h : WU X A0 k ops Q (i :: r) fuel listed ρ A) : WU X A0 k ops Q (i :: r) fuel listed ρ A := h
theorem WU.k_idxa {i : Nat} {r : List Nat} {dd : Option Tmp} {g : Option (Nat × Bool)} {t : TypeId} {x y : Operand} (_ : ops[i]? = some ⟨dd, .indexAddr t x y, ty, ps, af, g⟩) (h : WU X A0 k ops Q (i :: r) fuel listed ρ A) : WU X A0 k ops Q (i :: r) fuel listed ρ A := h
theorem WU.k_load {i : Nat} {r : List Nat} {dd : Option Tmp} {g : Option (Nat × Bool)} {t : TypeId} {x : Operand} (_ : ops[i]? = some ⟨dd, .load t x, ty, ps, af, g⟩) (h : WU X A0 k ops Q (i :: r) fuel listed ρ A) : WU X A0 k ops Q (i :: r) fuel listed ρ A := h
theorem WU.k_slice {i : Nat} {r : List Nat} {dd : Option Tmp} {g : Option (Nat × Bool)} {t : TypeId} {x : Operand} {l u m : Option Operand} (_ : ops[i]? = some ⟨dd, .slice t x l u m, ty, ps, af, g⟩) (h : WU X A0 k ops Q (i :: r) fuel listed ρ A) : WU X A0 k ops Q (i :: r) fuel listed ρ A := h
theorem WU.k_fld {i : Nat} {r : List Nat} {dd : Option Tmp} {g : Option (Nat × Bool)} {t : TypeId} {x : Operand} {j : Nat} (_ : ops[i]? = some ⟨dd, .fieldAddr t x j, ty, ps, af, g⟩) (h : WU X A0 k ops Q (i :: r) fuel listed ρ A) : WU X A0 k ops Q (i :: r) fuel listed ρ A := h
theorem WU.k_index {i : Nat} {r : List Nat} {dd : Option Tmp} {g : Option (Nat × Bool)} {t : TypeId} {x y : Operand} (_ : ops[i]? = some ⟨dd, .index t x y, ty, ps, af, g⟩) (h : WU X A0 k ops Q (i :: r) fuel listed ρ A) : WU X A0 k ops Q (i :: r) fuel listed ρ A := h
theorem WU.k_build {i : Nat} {r : List Nat} {dd : Option Tmp} {g : Option (Nat × Bool)} {t : TypeId} {l : Array (Nat × Operand)} (_ : ops[i]? = some ⟨dd, .build t l, ty, ps, af, g⟩) (h : WU X A0 k ops Q (i :: r) fuel listed ρ A) : WU X A0 k ops Q (i :: r) fuel listed ρ A := h
theorem WU.k_func {i : Nat} {r : List Nat} {dd : Option Tmp} {g : Option (Nat × Bool)} {f : Fn} {l l2 : Array Operand} (_ : ops[i]? = some ⟨dd, .makeFunc f l l2, ty, ps, af, g⟩) (h : WU X A0 k ops Q (i :: r) fuel listed ρ A) : WU X A0 k ops Q (i :: r) fuel listed ρ A := h
theorem WU.k_nilc {i : Nat} {r : List Nat} {dd : Option Tmp} {g : Option (Nat × Bool)} {x : Operand} (_ : ops[i]? = some ⟨dd, .nilCheck x, ty, ps, af, g⟩) (h : WU X A0 k ops Q (i :: r) fuel listed ρ A) : WU X A0 k ops Q (i :: r) fuel listed ρ A := h
theorem WU.k_s2a {i : Nat} {r : List Nat} {dd : Option Tmp} {g : Option (Nat × Bool)} {t : TypeId} {x : Operand} (_ : ops[i]? = some ⟨dd, .sliceToArrayPointer t x, ty, ps, af, g⟩) (h : WU X A0 k ops Q (i :: r) fuel listed ρ A) : WU X A0 k ops Q (i :: r) fuel listed ρ A := h
theorem WU.k_bin (o : BinOp) {i : Nat} {r : List Nat} {dd : Option Tmp} {g : Option (Nat × Bool)} {t u : TypeId} {x y : Operand} (_ : ops[i]? = some ⟨dd, .binOp o t x y u, ty, ps, af, g⟩) (h : WU X A0 k ops Q (i :: r) fuel listed ρ A) : WU X A0 k ops Q (i :: r) fuel listed ρ A := h
theorem WU.k_bi (f : Builtin) {i : Nat} {r : List Nat} {dd : Option Tmp} {g : Option (Nat × Bool)} {xs ts} (_ : ops[i]? = some ⟨dd, .call { callee := .builtin f, args := xs, argTypes := ts }, ty, ps, af, g⟩) (h : WU X A0 k ops Q (i :: r) fuel listed ρ A) : WU X A0 k ops Q (i :: r) fuel listed ρ A := h
/-- What is asked behind an operation. -/
def ENext (X : Cx) (A0 : List HA) (k i : Nat) (ops : Array Oper) (Q : Exit → Act → World → Prop) (fuel : Nat) (listed : Array Bool) (a : Act) (w : World) : Prop :=
  (listed.getD k false = false → St X.w0 X.S A0 w) ∧ wpAnyL X.P ops Q (St X.w0 X.S A0) k fuel listed a w
theorem WL.wpOpE {i : Nat} {o : Oper} (hi : ops[i]? = some o) (h : WL X ops (Exit.then (ENext X A0 k i ops Q fuel (listed.setIfInBounds i true)) Q) [o] ρ A) {a : Act} {w : World} (f : Fr X.n ρ a) (s : St X.w0 X.S A w) :
    Go.wpOp X.P ops Q i (fun a' w' => ((listed.setIfInBounds i true).getD k false = false → St X.w0 X.S A0 w') ∧ wpAnyL X.P ops Q (St X.w0 X.S A0) k fuel (listed.setIfInBounds i true) a' w') a w := by
  have h1 := h a w f s
  unfold wpList at h1
  unfold Go.wpOp
  simp only [hi]
  split
  · rename_i hw
    rw [if_pos hw] at h1
    refine h1.imp (fun h1 => Oper.wp_then (Oper.wp_mono (Q := Exit.then (ENext X A0 k i ops Q fuel (listed.setIfInBounds i true)) Q) (fun a w hk => ?_) h1)) (fun h1 => ⟨h1.1, ?_⟩)
    · unfold wpList at hk; exact hk
    · exact h1.2
  · rename_i hw
    rw [if_neg hw] at h1
    unfold wpList at h1
    exact h1
/-- What is owed with what has come up known to be shut. -/
theorem WE.only {i : Nat} {o : Oper} (hr : Region.ready .any ops listed = [i]) (hi : ops[i]? = some o)
    (h : Shut ops (listed.setIfInBounds i true) → WL X ops (Exit.then (ENext X A0 k i ops Q fuel (listed.setIfInBounds i true)) Q) [o] ρ A) : WE X A0 k ops Q (fuel + 1) listed ρ A := fun sh a w f s =>
  ⟨fun h0 => (by rw [hr] at h0; cases h0), fun j hj => by
    have hj2 := hj
    rw [hr] at hj2
    obtain rfl : j = i := by simpa using hj2
    exact (h (sh.set hj)).wpOpE hi f s⟩
theorem WE.two {i j : Nat} {o o2 : Oper} (hr : Region.ready .any ops listed = [i, j]) (hi : ops[i]? = some o) (hj : ops[j]? = some o2)
    (h : Shut ops (listed.setIfInBounds i true) → WL X ops (Exit.then (ENext X A0 k i ops Q fuel (listed.setIfInBounds i true)) Q) [o] ρ A)
    (h2 : Shut ops (listed.setIfInBounds j true) → WL X ops (Exit.then (ENext X A0 k j ops Q fuel (listed.setIfInBounds j true)) Q) [o2] ρ A) : WE X A0 k ops Q (fuel + 1) listed ρ A := fun sh a w f s =>
  ⟨fun h0 => (by rw [hr] at h0; cases h0), fun x hx => by
    have hx2 := hx
    rw [hr] at hx2
    simp at hx2
    rcases hx2 with rfl | rfl
    · exact (h (sh.set hx)).wpOpE hi f s
    · exact (h2 (sh.set hx)).wpOpE hj f s⟩
theorem WN.nextE {i : Nat} (sh : Shut ops listed) (hp : Part A A0) (h : WE X A0 k ops Q fuel listed ρ A) : WN X (Exit.then (ENext X A0 k i ops Q fuel listed) Q) .normal ρ A := fun a w f s => ⟨fun _ => s.part hp, h sh a w f s⟩
/-- Behind operation k itself, and behind all that comes later. -/
theorem WN.lastE {i : Nat} (hl : listed.getD k false = true) (sh : Shut ops listed) (h : WE X A0 k ops Q fuel listed ρ A) : WN X (Exit.then (ENext X A0 k i ops Q fuel listed) Q) .normal ρ A := fun a w f s => ⟨fun h0 => (by rw [hl] at h0; cases h0), h sh a w f s⟩
theorem WE.done (hr : Region.ready .any ops listed = []) (h : WN X Q .normal ρ A) : WE X A0 k ops Q fuel listed ρ A := fun _ a w f s => by
  cases fuel with
  | zero => exact ⟨hr, h a w f s⟩
  | succ n => exact ⟨fun _ => h a w f s, by rw [hr]; simp⟩
end
end Go.Proofs.YtbkdjfgkebkknaaGreatDoor
/- Drawn regions with held memory that changes when operation k has come up: A0 before, A1 after. -/
namespace Go.Proofs.YtbkdjfgkebkknaaGreatDoor
set_option linter.unusedVariables false
set_option linter.unusedSimpArgs false
open Go Go.RowKit
def wpAnyM (P : Program) (ops : Array Oper) (Q : Exit → Act → World → Prop) (S : Bool → World → Prop) (k : Nat) : Nat → Array Bool → Act → World → Prop
  | 0, l, a, w => Region.ready .any ops l = [] ∧ Q .normal a w
  | f + 1, l, a, w => (Region.ready .any ops l = [] → Q .normal a w) ∧ ∀ i ∈ Region.ready .any ops l, wpOp P ops Q i (fun a' w' => S ((l.setIfInBounds i true).getD k false) w' ∧ wpAnyM P ops Q S k f (l.setIfInBounds i true) a' w') a w
section
variable {P : Program} {ops : Array Oper} {Q : Exit → Act → World → Prop} {S : Bool → World → Prop} {T : World → Prop} {k : Nat}
theorem wpAny_of_two : ∀ (f : Nat) (l : Array Bool) (a : Act) (w : World), wpAnyM P ops Q S k f l a w → wpAny P .any ops Q f l a w
  | 0, _, _, _, h => h
  | f + 1, _, _, _, h => ⟨h.1, fun i hi => wpOp_mono (fun a' w' h' => wpAny_of_two f _ a' w' h'.2) (h.2 i hi)⟩
theorem wpAnyM_take {i n : Nat} {oi : Oper} {v : Value} (hi : ops[i]? = some oi) (hsel : Region.noSelect ops = true) (hik : i ≠ k) (h0 : ∀ w, S false w → T w) (hk : waits ops n i k = true ∨ ∀ w, S true w → T w)
    (hQ : ∀ c a w, Q (.panic c) (a.put oi.dst v) w → Q (.panic c) a w) :
    ∀ (f : Nat) (l : Array Bool) (a : Act) (w : World), Shut ops l →
      (∀ j oj, ops[j]? = some oj → j ≠ i → l.getD j true = false → (∀ e ∈ oj.after, Region.binds .any e = true → e.on ≠ i) → oi.apart ops oj = true) →
      i ∈ Region.ready .any ops l → YieldsIf P ops T oi v a → S (l.getD k false) w → wpAnyM P ops Q S k f (l.setIfInBounds i true) (a.put oi.dst v) w → wpAnyM P ops Q S k (f + 1) l a w := by
  have key : ∀ (l : Array Bool) (w : World), Shut ops l → i ∈ Region.ready .any ops l → S (l.getD k false) w → T w := fun l w hs hr h => by
    cases e : l.getD k false with
    | false => rw [e] at h; exact h0 w h
    | true =>
      rw [e] at h
      rcases hk with hk | hk
      · exact (not_both (mem_ready.1 hr).1 (waits_listed hs hk fun o ho => hs k o ho e)).elim
      · exact hk w h
  intro f
  induction f with
  | zero =>
    intro l a w hs _ hr hy hS H
    refine ⟨fun h => (by rw [h] at hr; cases hr), fun j hj => ?_⟩
    by_cases hji : j = i
    · subst hji; exact hy.wpOp hi (key l w hs hr hS) ⟨by rw [getD_set_ne false hik]; exact hS, H⟩
    · have := ready_mono hj hji
      rw [H.1] at this
      cases this
  | succ f ih =>
    intro l a w hs hfree hr hy hS H
    refine ⟨fun h => (by rw [h] at hr; cases hr), fun j hj => ?_⟩
    have hun : l.getD i true = false := (mem_ready.1 hr).1
    by_cases hji : j = i
    · subst hji; exact hy.wpOp hi (key l w hs hr hS) ⟨by rw [getD_set_ne false hik]; exact hS, H⟩
    · have h1 := H.2 j (ready_mono hj hji)
      obtain ⟨hjun, oj, hoj, hall⟩ := mem_ready.1 hj
      have hnot : ∀ e ∈ oj.after, Region.binds .any e = true → e.on ≠ i := fun e he hb heq => not_both hun (by have := hall e he hb; rwa [heq] at this)
      have h2 := wpOp_putIf hoj (hfree j oj hoj hji hjun hnot) (fun cs b => Region.noSelect_spec hsel i oi cs b hi) (fun cs b => Region.noSelect_spec hsel j oj cs b hoj) hQ hy h1
      have e : ((l.setIfInBounds i true).setIfInBounds j true).getD k false = (l.setIfInBounds j true).getD k false := by rw [← Array.setIfInBounds_comm _ _ hji, getD_set_ne false hik]
      refine wpOp_mono (fun a' w' h3 => ?_) h2
      have h4 := h3.2.1
      rw [e] at h4
      refine ⟨h4, ih (l.setIfInBounds j true) a' w' (hs.set hj) (fun x ox hx hxi hxu hno => hfree x ox hx hxi ?_ hno) (ready_mono hr (Ne.symm hji)) h3.1 h4 ?_⟩
      · by_cases hjx : j = x
        · subst hjx; exact hjun
        · rwa [getD_set_ne true hjx] at hxu
      · rw [Array.setIfInBounds_comm _ _ hji]
        exact h3.2.2
end
section
variable {X : Cx} {ops : Array Oper} {Q : Exit → Act → World → Prop} {ρ : Env} {A A0 A1 B : List HA} {d : Tmp} {op : Op} {ty : TypeId} {ps : String} {af : Array Edge} {v : Value} {fuel k : Nat} {listed : Array Bool}
def Two (X : Cx) (A1 A0 : List HA) (b : Bool) (w : World) : Prop := St X.w0 X.S (if b then A1 else A0) w
def WV (X : Cx) (A1 A0 : List HA) (k : Nat) (ops : Array Oper) (Q : Exit → Act → World → Prop) (fuel : Nat) (listed : Array Bool) (ρ : Env) (A : List HA) : Prop :=
  Shut ops listed → ∀ a w, Fr X.n ρ a → St X.w0 X.S A w → wpAnyM X.P ops Q (Two X A1 A0) k fuel listed a w
theorem WC.regionV (A1 A0 : List HA) (k : Nat) {id : Nat} {l : List Oper} (hm : X.P.follows .mixedOrders = true) (h : WV X A1 A0 k l.toArray Q l.length (Array.replicate l.length false) ρ A) : WC X (.region id l.toArray true) Q ρ A :=
  fun a w f s => wp_region_any hm (wpAny_of_two _ _ _ _ (by simpa using h (Shut.none _ _) a _ f s.drew))
/-- What waits, and what reads the same before and after. -/
theorem WV.take {i : Nat} {g : Option (Nat × Bool)} (hi : ops[i]? = some ⟨some d, op, ty, ps, af, g⟩) (hg : g = none) (hs : Region.noSelect ops = true) (hb : listed.getD k false = false) (hik : Nat.beq i k = false)
    (hQ : ∀ c a w, Q (.panic c) (a.put (some d) v) w → Q (.panic c) a w) (hp : Part A A0) (hy : Yl X op ty ρ A0 v) (hk : waits ops 9 i k = true ∨ Yl X op ty ρ A1 v) (hd : Nat.blt d X.n = true) (hf : Region.free .any ops listed i = true) (hr : (Region.ready .any ops listed).contains i = true)
    (h : WV X A1 A0 k ops Q fuel (listed.setIfInBounds i true) ((d, v) :: ρ) A) : WV X A1 A0 k ops Q (fuel + 1) listed ρ A := fun sh a w f s => by
  subst hg
  have hr' : i ∈ Region.ready .any ops listed := by simpa using hr
  have hik' : i ≠ k := fun e => by rw [e, Nat.beq_refl] at hik; cases hik
  have hS : Two X A1 A0 (listed.getD k false) w := by rw [hb]; exact s.part hp
  have H := h (sh.set hr') _ _ (f.put (blt_lt hd) v) s
  rcases hk with hk | hy1
  · exact wpAnyM_take (T := Two X A1 A0 false) hi hs hik' (fun _ h => h) (.inl hk) hQ fuel listed a w sh (Region.free_spec hi hf) hr' (.inl ⟨by simp [Region.wanted], fun w' s' => hy _ rfl rfl a w' f s'⟩) hS H
  · exact wpAnyM_take (n := 9) (T := fun w => Two X A1 A0 false w ∨ Two X A1 A0 true w) hi hs hik' (fun _ h => .inl h) (.inr fun _ h => .inr h) hQ fuel listed a w sh (Region.free_spec hi hf) hr' (.inl ⟨by simp [Region.wanted], fun w' s' => s'.elim (fun s' => hy _ rfl rfl a w' f s') (fun s' => hy1 _ rfl rfl a w' f s')⟩) hS H
/-- What is asked behind an operation. -/
def VNext (X : Cx) (A1 A0 : List HA) (k : Nat) (ops : Array Oper) (Q : Exit → Act → World → Prop) (fuel : Nat) (listed : Array Bool) (a : Act) (w : World) : Prop :=
  Two X A1 A0 (listed.getD k false) w ∧ wpAnyM X.P ops Q (Two X A1 A0) k fuel listed a w
theorem WL.wpOpV {i : Nat} {o : Oper} (hi : ops[i]? = some o) (h : WL X ops (Exit.then (VNext X A1 A0 k ops Q fuel (listed.setIfInBounds i true)) Q) [o] ρ A) {a : Act} {w : World} (f : Fr X.n ρ a) (s : St X.w0 X.S A w) :
    Go.wpOp X.P ops Q i (fun a' w' => Two X A1 A0 ((listed.setIfInBounds i true).getD k false) w' ∧ wpAnyM X.P ops Q (Two X A1 A0) k fuel (listed.setIfInBounds i true) a' w') a w := by
  have h1 := h a w f s
  unfold wpList at h1
  unfold Go.wpOp
  simp only [hi]
  split
  · rename_i hw
    rw [if_pos hw] at h1
    refine h1.imp (fun h1 => Oper.wp_then (Oper.wp_mono (Q := Exit.then (VNext X A1 A0 k ops Q fuel (listed.setIfInBounds i true)) Q) (fun a w hk => ?_) h1)) (fun h1 => ⟨h1.1, ?_⟩)
    · unfold wpList at hk; exact hk
    · exact h1.2
  · rename_i hw
    rw [if_neg hw] at h1
    unfold wpList at h1
    exact h1
theorem WV.only {i : Nat} {o : Oper} (hr : Region.ready .any ops listed = [i]) (hi : ops[i]? = some o)
    (h : Shut ops (listed.setIfInBounds i true) → WL X ops (Exit.then (VNext X A1 A0 k ops Q fuel (listed.setIfInBounds i true)) Q) [o] ρ A) : WV X A1 A0 k ops Q (fuel + 1) listed ρ A := fun sh a w f s =>
  ⟨fun h0 => (by rw [hr] at h0; cases h0), fun j hj => by
    have hj2 := hj
    rw [hr] at hj2
    obtain rfl : j = i := by simpa using hj2
    exact (h (sh.set hj)).wpOpV hi f s⟩
theorem WV.two {i j : Nat} {o o2 : Oper} (hr : Region.ready .any ops listed = [i, j]) (hi : ops[i]? = some o) (hj : ops[j]? = some o2)
    (h : Shut ops (listed.setIfInBounds i true) → WL X ops (Exit.then (VNext X A1 A0 k ops Q fuel (listed.setIfInBounds i true)) Q) [o] ρ A)
    (h2 : Shut ops (listed.setIfInBounds j true) → WL X ops (Exit.then (VNext X A1 A0 k ops Q fuel (listed.setIfInBounds j true)) Q) [o2] ρ A) : WV X A1 A0 k ops Q (fuel + 1) listed ρ A := fun sh a w f s =>
  ⟨fun h0 => (by rw [hr] at h0; cases h0), fun x hx => by
    have hx2 := hx
    rw [hr] at hx2
    simp at hx2
    rcases hx2 with rfl | rfl
    · exact (h (sh.set hx)).wpOpV hi f s
    · exact (h2 (sh.set hx)).wpOpV hj f s⟩
theorem WN.nextV {b : Bool} (hl : listed.getD k false = b) (sh : Shut ops listed) (hp : Part A (if b then A1 else A0)) (h : WV X A1 A0 k ops Q fuel listed ρ A) : WN X (Exit.then (VNext X A1 A0 k ops Q fuel listed) Q) .normal ρ A := fun a w f s => ⟨by rw [hl]; exact s.part hp, h sh a w f s⟩
theorem WV.done (hr : Region.ready .any ops listed = []) (h : WN X Q .normal ρ A) : WV X A1 A0 k ops Q fuel listed ρ A := fun _ a w f s => by
  cases fuel with
  | zero => exact ⟨hr, h a w f s⟩
  | succ n => exact ⟨fun _ => h a w f s, by rw [hr]; simp⟩
end
end Go.Proofs.YtbkdjfgkebkknaaGreatDoor
