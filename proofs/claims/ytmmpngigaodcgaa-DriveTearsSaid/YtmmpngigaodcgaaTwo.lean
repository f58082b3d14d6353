/- Drawn regions with held memory that changes when operation k has come up: A0 before, A1 after. -/
import Derived.Test.YtmmpngigaodcgaaEnd
namespace Go.Proofs.Ytmmpngigaodcgaa
set_option linter.unusedVariables false
set_option linter.unusedSimpArgs false
open Go Go.RowKit
def wpAnyM (P : Program) (ops : Array Oper) (Q : Exit → Act → World → Prop) (S : Bool → World → Prop) (k : Nat) : Nat → Array Bool → Act → World → Prop
  | 0, l, a, w => Region.ready .any ops l = [] ∧ Q .normal a w
  | f + 1, l, a, w => (Region.ready .any ops l = [] → Q .normal a w) ∧ ∀ i ∈ Region.ready .any ops l, wpOp P ops Q i (fun a' w' => S ((l.setIfInBounds i true).getD k false) w' ∧ wpAnyM P ops Q S k f (l.setIfInBounds i true) a' w') a w
section
variable {P : Program} {ops : Array Oper} {Q : Exit → Act → World → Prop} {S : Bool → World → Prop} {T : World → Prop} {k : Nat}
theorem wpAny_of_two : ∀ (f : Nat) (l : Array Bool) (a : Act) (w : World), wpAnyM P ops Q S k f l a w → wpAny P .any ops Q f l a w
  | 0, _, _, _, h => h
  | f + 1, _, _, _, h => ⟨h.1, fun i hi => wpOp_mono (fun a' w' h' => wpAny_of_two f _ a' w' h'.2) (h.2 i hi)⟩
theorem wpAnyM_take {i n : Nat} {oi : Oper} {v : Value} (hi : ops[i]? = some oi) (hsel : Region.noSelect ops = true) (hik : i ≠ k) (h0 : ∀ w, S false w → T w) (hk : waits ops n i k = true ∨ ∀ w, S true w → T w)
    (hQ : ∀ c a w, Q (.panic c) (a.put oi.dst v) w → Q (.panic c) a w) :
    ∀ (f : Nat) (l : Array Bool) (a : Act) (w : World), Shut ops l →
      (∀ j oj, ops[j]? = some oj → j ≠ i → l.getD j true = false → (∀ e ∈ oj.after, Region.binds .any e = true → e.on ≠ i) → oi.apart ops oj = true) →
      i ∈ Region.ready .any ops l → YieldsIf P ops T oi v a → S (l.getD k false) w → wpAnyM P ops Q S k f (l.setIfInBounds i true) (a.put oi.dst v) w → wpAnyM P ops Q S k (f + 1) l a w := by
  have key : ∀ (l : Array Bool) (w : World), Shut ops l → i ∈ Region.ready .any ops l → S (l.getD k false) w → T w := fun l w hs hr h => by
    cases e : l.getD k false with
    | false => rw [e] at h; exact h0 w h
    | true =>
      rw [e] at h
      rcases hk with hk | hk
      · exact (not_both (mem_ready.1 hr).1 (waits_listed hs hk fun o ho => hs k o ho e)).elim
      · exact hk w h
  intro f
  induction f with
  | zero =>
    intro l a w hs _ hr hy hS H
    refine ⟨fun h => (by rw [h] at hr; cases hr), fun j hj => ?_⟩
    by_cases hji : j = i
    · subst hji; exact hy.wpOp hi (key l w hs hr hS) ⟨by rw [getD_set_ne false hik]; exact hS, H⟩
    · have := ready_mono hj hji
      rw [H.1] at this
      cases this
  | succ f ih =>
    intro l a w hs hfree hr hy hS H
    refine ⟨fun h => (by rw [h] at hr; cases hr), fun j hj => ?_⟩
    have hun : l.getD i true = false := (mem_ready.1 hr).1
    by_cases hji : j = i
    · subst hji; exact hy.wpOp hi (key l w hs hr hS) ⟨by rw [getD_set_ne false hik]; exact hS, H⟩
    · have h1 := H.2 j (ready_mono hj hji)
      obtain ⟨hjun, oj, hoj, hall⟩ := mem_ready.1 hj
      have hnot : ∀ e ∈ oj.after, Region.binds .any e = true → e.on ≠ i := fun e he hb heq => not_both hun (by have := hall e he hb; rwa [heq] at this)
      have h2 := wpOp_putIf hoj (hfree j oj hoj hji hjun hnot) (fun cs b => Region.noSelect_spec hsel i oi cs b hi) (fun cs b => Region.noSelect_spec hsel j oj cs b hoj) hQ hy h1
      have e : ((l.setIfInBounds i true).setIfInBounds j true).getD k false = (l.setIfInBounds j true).getD k false := by rw [← Array.setIfInBounds_comm _ _ hji, getD_set_ne false hik]
      refine wpOp_mono (fun a' w' h3 => ?_) h2
      have h4 := h3.2.1
      rw [e] at h4
      refine ⟨h4, ih (l.setIfInBounds j true) a' w' (hs.set hj) (fun x ox hx hxi hxu hno => hfree x ox hx hxi ?_ hno) (ready_mono hr (Ne.symm hji)) h3.1 h4 ?_⟩
      · by_cases hjx : j = x
        · subst hjx; exact hjun
        · rwa [getD_set_ne true hjx] at hxu
      · rw [Array.setIfInBounds_comm _ _ hji]
        exact h3.2.2
end
section
variable {X : Cx} {ops : Array Oper} {Q : Exit → Act → World → Prop} {ρ : Env} {A A0 A1 B : List HA} {d : Tmp} {op : Op} {ty : TypeId} {ps : String} {af : Array Edge} {v : Value} {fuel k : Nat} {listed : Array Bool}
def Two (X : Cx) (A1 A0 : List HA) (b : Bool) (w : World) : Prop := St X.w0 X.S (if b then A1 else A0) w
def WV (X : Cx) (A1 A0 : List HA) (k : Nat) (ops : Array Oper) (Q : Exit → Act → World → Prop) (fuel : Nat) (listed : Array Bool) (ρ : Env) (A : List HA) : Prop :=
  Shut ops listed → ∀ a w, Fr X.n ρ a → St X.w0 X.S A w → wpAnyM X.P ops Q (Two X A1 A0) k fuel listed a w
theorem WC.regionV (A1 A0 : List HA) (k : Nat) {id : Nat} {l : List Oper} (hm : X.P.follows .mixedOrders = true) (h : WV X A1 A0 k l.toArray Q l.length (Array.replicate l.length false) ρ A) : WC X (.region id l.toArray true) Q ρ A :=
  fun a w f s => wp_region_any hm (wpAny_of_two _ _ _ _ (by simpa using h (Shut.none _ _) a _ f s.drew))
/-- What waits, and what reads the same before and after. -/
theorem WV.take {i : Nat} {g : Option (Nat × Bool)} (hi : ops[i]? = some ⟨some d, op, ty, ps, af, g⟩) (hg : g = none) (hs : Region.noSelect ops = true) (hb : listed.getD k false = false) (hik : Nat.beq i k = false)
    (hQ : ∀ c a w, Q (.panic c) (a.put (some d) v) w → Q (.panic c) a w) (hp : Part A A0) (hy : Yl X op ty ρ A0 v) (hk : waits ops 9 i k = true ∨ Yl X op ty ρ A1 v) (hd : Nat.blt d X.n = true) (hf : Region.free .any ops listed i = true) (hr : (Region.ready .any ops listed).contains i = true)
    (h : WV X A1 A0 k ops Q fuel (listed.setIfInBounds i true) ((d, v) :: ρ) A) : WV X A1 A0 k ops Q (fuel + 1) listed ρ A := fun sh a w f s => by
  subst hg
  have hr' : i ∈ Region.ready .any ops listed := by simpa using hr
  have hik' : i ≠ k := fun e => by rw [e, Nat.beq_refl] at hik; cases hik
  have hS : Two X A1 A0 (listed.getD k false) w := by rw [hb]; exact s.part hp
  have H := h (sh.set hr') _ _ (f.put (blt_lt hd) v) s
  rcases hk with hk | hy1
  · exact wpAnyM_take (T := Two X A1 A0 false) hi hs hik' (fun _ h => h) (.inl hk) hQ fuel listed a w sh (Region.free_spec hi hf) hr' (.inl ⟨by simp [Region.wanted], fun w' s' => hy _ rfl rfl a w' f s'⟩) hS H
  · exact wpAnyM_take (n := 9) (T := fun w => Two X A1 A0 false w ∨ Two X A1 A0 true w) hi hs hik' (fun _ h => .inl h) (.inr fun _ h => .inr h) hQ fuel listed a w sh (Region.free_spec hi hf) hr' (.inl ⟨by simp [Region.wanted], fun w' s' => s'.elim (fun s' => hy _ rfl rfl a w' f s') (fun s' => hy1 _ rfl rfl a w' f s')⟩) hS H
/-- What is asked behind an operation. -/
def VNext (X : Cx) (A1 A0 : List HA) (k : Nat) (ops : Array Oper) (Q : Exit → Act → World → Prop) (fuel : Nat) (listed : Array Bool) (a : Act) (w : World) : Prop :=
  Two X A1 A0 (listed.getD k false) w ∧ wpAnyM X.P ops Q (Two X A1 A0) k fuel listed a w
theorem WL.wpOpV {i : Nat} {o : Oper} (hi : ops[i]? = some o) (h : WL X ops (Exit.then (VNext X A1 A0 k ops Q fuel (listed.setIfInBounds i true)) Q) [o] ρ A) {a : Act} {w : World} (f : Fr X.n ρ a) (s : St X.w0 X.S A w) :
    Go.wpOp X.P ops Q i (fun a' w' => Two X A1 A0 ((listed.setIfInBounds i true).getD k false) w' ∧ wpAnyM X.P ops Q (Two X A1 A0) k fuel (listed.setIfInBounds i true) a' w') a w := by
  have h1 := h a w f s
  unfold wpList at h1
  unfold Go.wpOp
  simp only [hi]
  split
  · rename_i hw
    rw [if_pos hw] at h1
    refine h1.imp (fun h1 => Oper.wp_then (Oper.wp_mono (Q := Exit.then (VNext X A1 A0 k ops Q fuel (listed.setIfInBounds i true)) Q) (fun a w hk => ?_) h1)) (fun h1 => ⟨h1.1, ?_⟩)
    · unfold wpList at hk; exact hk
    · exact h1.2
  · rename_i hw
    rw [if_neg hw] at h1
    unfold wpList at h1
    exact h1
theorem WV.only {i : Nat} {o : Oper} (hr : Region.ready .any ops listed = [i]) (hi : ops[i]? = some o)
    (h : Shut ops (listed.setIfInBounds i true) → WL X ops (Exit.then (VNext X A1 A0 k ops Q fuel (listed.setIfInBounds i true)) Q) [o] ρ A) : WV X A1 A0 k ops Q (fuel + 1) listed ρ A := fun sh a w f s =>
  ⟨fun h0 => (by rw [hr] at h0; cases h0), fun j hj => by
    have hj2 := hj
    rw [hr] at hj2
    obtain rfl : j = i := by simpa using hj2
    exact (h (sh.set hj)).wpOpV hi f s⟩
theorem WV.two {i j : Nat} {o o2 : Oper} (hr : Region.ready .any ops listed = [i, j]) (hi : ops[i]? = some o) (hj : ops[j]? = some o2)
    (h : Shut ops (listed.setIfInBounds i true) → WL X ops (Exit.then (VNext X A1 A0 k ops Q fuel (listed.setIfInBounds i true)) Q) [o] ρ A)
    (h2 : Shut ops (listed.setIfInBounds j true) → WL X ops (Exit.then (VNext X A1 A0 k ops Q fuel (listed.setIfInBounds j true)) Q) [o2] ρ A) : WV X A1 A0 k ops Q (fuel + 1) listed ρ A := fun sh a w f s =>
  ⟨fun h0 => (by rw [hr] at h0; cases h0), fun x hx => by
    have hx2 := hx
    rw [hr] at hx2
    simp at hx2
    rcases hx2 with rfl | rfl
    · exact (h (sh.set hx)).wpOpV hi f s
    · exact (h2 (sh.set hx)).wpOpV hj f s⟩
theorem WN.nextV {b : Bool} (hl : listed.getD k false = b) (sh : Shut ops listed) (hp : Part A (if b then A1 else A0)) (h : WV X A1 A0 k ops Q fuel listed ρ A) : WN X (Exit.then (VNext X A1 A0 k ops Q fuel listed) Q) .normal ρ A := fun a w f s => ⟨by rw [hl]; exact s.part hp, h sh a w f s⟩
theorem WV.done (hr : Region.ready .any ops listed = []) (h : WN X Q .normal ρ A) : WV X A1 A0 k ops Q fuel listed ρ A := fun _ a w f s => by
  cases fuel with
  | zero => exact ⟨hr, h a w f s⟩
  | succ n => exact ⟨fun _ => h a w f s, by rw [hr]; simp⟩
end
end Go.Proofs.Ytmmpngigaodcgaa
