import Derived.Tactics
import Derived.Deep.LoopGhost
import Derived.Deep.Quiet
import Derived.Below
import Derived.Scope
import Derived.Shelf.Abstract
import Derived.Laws.BitsAllLaws
import Derived.KernelRfl
namespace Go.Proofs.YtbkdjfgkebkknaaGreatDoor
set_option linter.unusedVariables false
set_option linter.unusedSimpArgs false
open Go Go.RowKit

abbrev Env := List (Nat × Value)
def lk : Env → Nat → Option Value
  | [], _ => none
  | (s, v) :: r, t => bif Nat.beq s t then some v else lk r t
def ev (ρ : Env) : Operand → Option Value
  | .tmp t => lk ρ t
  | .const v => some v
  | .global g => some (.pointer (some ⟨g, 0, none⟩))
  | .func f => some (.func (.func f) #[] #[])

theorem beq_ne {s t : Nat} (h : s ≠ t) : Nat.beq s t = false := by
  cases e : Nat.beq s t with
  | false => rfl
  | true => exact absurd (Nat.eq_of_beq_eq_true e) h
structure Fr (n : Nat) (ρ : Env) (a : Act) : Prop where
  size : a.tmps.size = n
  defers : a.defers = []
  get : ∀ t v, lk ρ t = some v → a.tmps.getD t undef = v

theorem Fr.ev {n : Nat} {ρ : Env} {a : Act} {x : Operand} {v : Value} (h : Fr n ρ a) (hx : ev ρ x = some v) : a.eval x = v := by
  cases x with
  | tmp t => exact h.get t v hx
  | const c => exact Option.some.inj hx
  | global g => exact Option.some.inj hx
  | func f => exact Option.some.inj hx
theorem Fr.put {n d : Nat} {ρ : Env} {a : Act} (h : Fr n ρ a) (hd : d < n) (v : Value) : Fr n ((d, v) :: ρ) (a.put (some d) v) := by
  refine ⟨by simp [Act.put, h.size], h.defers, fun t u ht => ?_⟩
  simp only [lk] at ht
  by_cases e : d = t
  · subst e
    rw [show Nat.beq d d = true from Nat.beq_refl d] at ht
    obtain rfl := Option.some.inj ht
    simp [Act.put, Array.getD_eq_getD_getElem?, h.size, hd]
  · rw [show Nat.beq d t = false from beq_ne e] at ht
    have := h.get t u ht
    simp only [Act.put, Array.getD_eq_getD_getElem?] at this ⊢
    rw [Array.getElem?_setIfInBounds, if_neg e]
    exact this
theorem Fr.sub {n : Nat} {ρ ρ' : Env} {a : Act} (h : Fr n ρ a) (hs : ∀ t v, lk ρ' t = some v → lk ρ t = some v) : Fr n ρ' a :=
  ⟨h.size, h.defers, fun t v ht => h.get t v (hs t v ht)⟩
inductive Sub (ρ : Env) : Env → Prop
  | nil : Sub ρ []
  | cons {t : Nat} {v u : Value} {r : Env} : lk ρ t = some u → u = v → Sub ρ r → Sub ρ ((t, v) :: r)
theorem Sub.lk {ρ ρ' : Env} (h : Sub ρ ρ') : ∀ t v, lk ρ' t = some v → lk ρ t = some v := by
  induction h with
  | nil => intro t v h; cases h
  | @cons s v u r hs e _ ih =>
    intro t w ht
    subst e
    simp only [Go.Proofs.YtbkdjfgkebkknaaGreatDoor.lk] at ht
    by_cases e : s = t
    · subst e
      rw [show Nat.beq s s = true from Nat.beq_refl s] at ht
      obtain rfl := Option.some.inj ht
      exact hs
    · rw [show Nat.beq s t = false from beq_ne e] at ht
      exact ih t w ht
theorem Fr.of_sub {n : Nat} {ρ ρ' : Env} {a : Act} (h : Fr n ρ a) (hs : Sub ρ ρ') : Fr n ρ' a := h.sub hs.lk

inductive HA where
  | blk (b : Nat) (o : Obj)
  | row (a : Option Addr) (cap : Nat) (T : TypeId) (k : Nat) (vs : List Value)
def HA.foot : HA → Option Nat
  | .blk b _ => some b
  | .row a cap _ _ _ => if cap = 0 then none else a.map (·.block)
def HA.holds : HA → World → Prop
  | .blk b o, w => w.heap[b]? = some o
  | .row a cap T k vs, w => (cap = 0 ∧ vs = []) ∨ ∃ b cs, a = some ⟨b, 0, none⟩ ∧ w.heap[b]? = some (.cells cs T (0, 0)) ∧ cs.size = cap * k ∧ cap ≤ maxLen ∧
      vs.length ≤ cs.size ∧ cs.toList.take vs.length = vs

structure Kept (w0 : World) (S : List Nat) (w : World) : Prop where
  os : w.os = w0.os
  tape : w.tape = w0.tape
  output : w.output = w0.output
  size : w0.heap.size ≤ w.heap.size
  block : ∀ k, k < w0.heap.size → k ∉ S → w.heap[k]? = w0.heap[k]?
structure St (w0 : World) (S : List Nat) (A : List HA) (w : World) : Prop where
  kept : Kept w0 S w
  holds : ∀ h ∈ A, h.holds w
  apart : (A.filterMap HA.foot).Nodup
  mine : ∀ h ∈ A, ∀ b, h.foot = some b → b ∈ S ∨ w0.heap.size ≤ b

theorem lt_of_heap {w : World} {b : Nat} {o : Obj} (h : w.heap[b]? = some o) : b < w.heap.size := (Array.getElem?_eq_some_iff.1 h).1
theorem HA.lt {h : HA} {w : World} (hh : h.holds w) {b : Nat} (hf : h.foot = some b) : b < w.heap.size := by
  cases h with
  | blk c o => simp only [HA.foot, Option.some.injEq] at hf; subst hf; exact lt_of_heap hh
  | row a cap T k vs =>
    simp only [HA.foot] at hf
    split at hf
    · cases hf
    · rcases hh with ⟨h0, _⟩ | ⟨c, cs, rfl, hc, _⟩
      · omega
      · simp only [Option.map_some, Option.some.injEq] at hf; subst hf; exact lt_of_heap hc
theorem HA.keep {h : HA} {w w' : World} (hh : h.holds w) (hk : ∀ b, h.foot = some b → w'.heap[b]? = w.heap[b]?) : h.holds w' := by
  cases h with
  | blk c o => show w'.heap[c]? = some o; rw [hk c rfl]; exact hh
  | row a cap T k vs =>
    rcases hh with hn | ⟨c, cs, rfl, hc, r⟩
    · exact .inl hn
    · by_cases h0 : cap = 0
      · refine .inl ⟨h0, ?_⟩
        have h1 := r.1
        have h2 := r.2.2.1
        subst h0
        simp only [Nat.zero_mul] at h1
        exact List.eq_nil_of_length_eq_zero (by omega)
      · exact .inr ⟨c, cs, rfl, by rw [hk c (by simp [HA.foot, h0])]; exact hc, r⟩

theorem Kept.refl (w : World) : Kept w [] w := ⟨rfl, rfl, rfl, Nat.le_refl _, fun _ _ _ => rfl⟩
theorem Kept.trans {w0 w w' : World} {S M : List Nat} (h : Kept w0 S w) (k : Kept w M w') (hM : ∀ b ∈ M, b ∈ S ∨ w0.heap.size ≤ b) : Kept w0 S w' :=
  ⟨k.os.trans h.os, k.tape.trans h.tape, k.output.trans h.output, Nat.le_trans h.size k.size, fun b hb hS => by
    rw [k.block b (Nat.lt_of_lt_of_le hb h.size) (fun hm => by rcases hM b hm with h1 | h1; exact hS h1; omega)]
    exact h.block b hb hS⟩
theorem Kept.of_below {w w' : World} (h : Below w.heap.size w w') : Kept w [] w' := ⟨h.os, h.tape, h.output, h.size, fun b hb _ => h.block b hb⟩
theorem Kept.below {w w' : World} (h : Kept w [] w') : Below w.heap.size w w' := ⟨h.os, h.tape, h.output, h.size, fun b hb => h.block b hb (by simp)⟩
theorem St.below {w w' : World} {A : List HA} (h : St w [] A w') : Below w.heap.size w w' := h.kept.below
theorem St.start (w : World) : St w [] [] w := ⟨Kept.refl w, fun _ h => (by cases h), List.nodup_nil, fun _ h => (by cases h)⟩

theorem St.keep {w0 w w' : World} {S M : List Nat} {A : List HA} (h : St w0 S A w) (k : Kept w M w') (hM : ∀ b ∈ M, b ∈ S ∨ w0.heap.size ≤ b)
    (hA : ∀ x ∈ A, ∀ b, x.foot = some b → b ∉ M) : St w0 S A w' :=
  ⟨h.kept.trans k hM, fun x hx => HA.keep (h.holds x hx) fun b hb => k.block b (HA.lt (h.holds x hx) hb) (hA x hx b hb), h.apart, h.mine⟩
theorem St.keep0 {w0 w w' : World} {S : List Nat} {A : List HA} (h : St w0 S A w) (k : Kept w [] w') : St w0 S A w' :=
  h.keep k (by simp) (by simp)
theorem St.drew {w0 w : World} {S : List Nat} {A : List HA} (h : St w0 S A w) : St w0 S A { w with drawn := w.drawn + 1 } :=
  h.keep0 ⟨rfl, rfl, rfl, Nat.le_refl _, fun _ _ _ => rfl⟩
theorem St.perm {w0 w : World} {S : List Nat} {A B : List HA} (h : St w0 S A w) (p : A.Perm B) : St w0 S B w :=
  ⟨h.kept, fun x hx => h.holds x (p.mem_iff.2 hx), (p.filterMap HA.foot).nodup_iff.1 h.apart, fun x hx => h.mine x (p.mem_iff.2 hx)⟩
theorem St.tail {w0 w : World} {S : List Nat} {x : HA} {A : List HA} (h : St w0 S (x :: A) w) : St w0 S A w := by
  refine ⟨h.kept, fun y hy => h.holds y (.tail _ hy), ?_, fun y hy => h.mine y (.tail _ hy)⟩
  have := h.apart
  rw [List.filterMap_cons] at this
  split at this
  · exact this
  · exact (List.nodup_cons.1 this).2
inductive Pick (h : HA) : List HA → List HA → Prop
  | here {B : List HA} : Pick h (h :: B) B
  | there {x : HA} {A B : List HA} : Pick h A B → Pick h (x :: A) (x :: B)
theorem Pick.perm {h : HA} {A B : List HA} (p : Pick h A B) : A.Perm (h :: B) := by
  induction p with
  | here => exact List.Perm.refl _
  | there _ ih => exact (List.Perm.cons _ ih).trans (List.Perm.swap _ _ _)
theorem St.pick {w0 w : World} {S : List Nat} {x : HA} {A B : List HA} (h : St w0 S A w) (p : Pick x A B) : St w0 S (x :: B) w := h.perm p.perm
inductive Part : List HA → List HA → Prop
  | nil {A : List HA} : Part A []
  | cons {x : HA} {A B C : List HA} : Pick x A B → Part B C → Part A (x :: C)
  | free {a : Option Addr} {T : TypeId} {k : Nat} {A C : List HA} : Part A C → Part A (.row a 0 T k [] :: C)
theorem St.cons_of {w0 w : World} {S : List Nat} {x : HA} {B C : List HA} (h : St w0 S (x :: B) w) (hc : St w0 S C w)
    (hsub : ∀ y ∈ C.filterMap HA.foot, y ∈ B.filterMap HA.foot) : St w0 S (x :: C) w := by
  refine ⟨h.kept, fun y hy => ?_, ?_, fun y hy => ?_⟩
  · cases hy with
    | head => exact h.holds x (.head _)
    | tail _ hy => exact hc.holds y hy
  · have := h.apart
    rw [List.filterMap_cons] at this ⊢
    split
    · exact hc.apart
    · rename_i b hb
      rw [hb] at this
      exact List.nodup_cons.2 ⟨fun hm => (List.nodup_cons.1 this).1 (hsub b hm), hc.apart⟩
  · cases hy with
    | head => exact h.mine x (.head _)
    | tail _ hy => exact hc.mine y hy
theorem Part.spec {w0 w : World} {S : List Nat} {A B : List HA} (p : Part A B) (h : St w0 S A w) : St w0 S B w ∧ ∀ y ∈ B.filterMap HA.foot, y ∈ A.filterMap HA.foot := by
  induction p with
  | nil => exact ⟨⟨h.kept, fun _ h => (by cases h), List.nodup_nil, fun _ h => (by cases h)⟩, fun _ h => (by cases h)⟩
  | @cons x A B C hp _ ih =>
    have h1 := h.pick hp
    obtain ⟨h2, h3⟩ := ih h1.tail
    have hm : ∀ y, y ∈ (x :: B).filterMap HA.foot ↔ y ∈ A.filterMap HA.foot := fun y => (hp.perm.filterMap HA.foot).mem_iff.symm
    refine ⟨h1.cons_of h2 h3, fun y hy => (hm y).1 ?_⟩
    rw [List.filterMap_cons] at hy ⊢
    split
    · rename_i hb
      rw [hb] at hy
      exact h3 y hy
    · rename_i b hb
      rw [hb] at hy
      cases hy with
      | head => exact .head _
      | tail _ hy => exact .tail _ (h3 y hy)
  | @free a T k A C _ ih =>
    obtain ⟨h2, h3⟩ := ih h
    have e : (HA.row a 0 T k [] :: C).filterMap HA.foot = C.filterMap HA.foot := by simp [HA.foot]
    refine ⟨⟨h.kept, fun x hx => ?_, by rw [e]; exact h2.apart, fun x hx b hb => ?_⟩, by rw [e]; exact h3⟩
    · cases hx with
      | head => exact .inl ⟨rfl, rfl⟩
      | tail _ hx => exact h2.holds x hx
    · cases hx with
      | head => simp [HA.foot] at hb
      | tail _ hx => exact h2.mine x hx b hb
theorem St.part {w0 w : World} {S : List Nat} {A B : List HA} (h : St w0 S A w) (p : Part A B) : St w0 S B w := (p.spec h).1

theorem St.put {w0 w w' : World} {S : List Nat} {x y : HA} {A : List HA} {b : Nat} (h : St w0 S (x :: A) w) (hx : x.foot = some b) (hy : y.foot = some b)
    (k : Kept w [b] w') (hh : y.holds w') : St w0 S (y :: A) w' := by
  have hap := h.apart
  rw [List.filterMap_cons, hx] at hap
  have hnb := (List.nodup_cons.1 hap).1
  have hb := h.mine x (.head _) b hx
  have ht : St w0 S A w' := h.tail.keep k (fun c hc => by simp at hc; subst hc; exact hb) (fun z hz c hc hm => by
    simp at hm; subst hm
    exact hnb (List.mem_filterMap.2 ⟨z, hz, hc⟩))
  refine ⟨ht.kept, fun z hz => ?_, ?_, fun z hz c hc => ?_⟩
  · cases hz with
    | head => exact hh
    | tail _ hz => exact ht.holds z hz
  · rw [List.filterMap_cons, hy]
    exact hap
  · cases hz with
    | head => rw [hy] at hc; obtain rfl := Option.some.inj hc; exact hb
    | tail _ hz => exact ht.mine z hz c hc
theorem St.new {w0 w w' : World} {S : List Nat} {y : HA} {A : List HA} (h : St w0 S A w) (k : Kept w [] w') (hh : y.holds w')
    (hf : ∀ b, y.foot = some b → w.heap.size ≤ b) : St w0 S (y :: A) w' := by
  have ht := h.keep0 k
  refine ⟨ht.kept, fun z hz => ?_, ?_, fun z hz c hc => ?_⟩
  · cases hz with
    | head => exact hh
    | tail _ hz => exact ht.holds z hz
  · rw [List.filterMap_cons]
    split
    · exact ht.apart
    · rename_i b hb
      refine List.nodup_cons.2 ⟨fun hm => ?_, ht.apart⟩
      obtain ⟨z, hz, hzb⟩ := List.mem_filterMap.1 hm
      have := HA.lt (h.holds z hz) hzb
      have := hf b hb
      omega
  · cases hz with
    | head => exact .inr (Nat.le_trans h.kept.size (hf c hc))
    | tail _ hz => exact ht.mine z hz c hc
theorem Kept.alloc (w : World) (o : Obj) : Kept w [] { w with heap := w.heap.push o } :=
  ⟨rfl, rfl, rfl, by simp, fun b hb _ => by
    show (w.heap.push o)[b]? = _
    rw [Array.getElem?_push, if_neg (by omega)]⟩
theorem St.alloc {w0 w : World} {S : List Nat} {A : List HA} (h : St w0 S A w) (o : Obj) : St w0 S (.blk w.heap.size o :: A) { w with heap := w.heap.push o } :=
  h.new (Kept.alloc w o) (by show (w.heap.push o)[w.heap.size]? = _; simp) (fun b hb => by simp [HA.foot] at hb; omega)
theorem St.join {w0 w w' : World} {S S' : List Nat} {A0 A A1 : List HA} (h : St w0 S (A0 ++ A) w) (hS : ∀ b ∈ S', ∃ x ∈ A0, x.foot = some b) (h1 : St w S' A1 w') : St w0 S (A1 ++ A) w' := by
  have hap := h.apart
  rw [List.filterMap_append, List.nodup_append] at hap
  have hmem : ∀ b ∈ S', b ∈ A0.filterMap HA.foot := fun b hb => by
    obtain ⟨x, hx, hf⟩ := hS b hb
    exact List.mem_filterMap.2 ⟨x, hx, hf⟩
  have hok : ∀ b ∈ S', b ∈ S ∨ w0.heap.size ≤ b := fun b hb => by
    obtain ⟨x, hx, hf⟩ := hS b hb
    exact h.mine x (List.mem_append_left _ hx) b hf
  have hA : ∀ x ∈ A, ∀ b, x.foot = some b → b ∉ S' := fun x hx b hb hm => hap.2.2 b (hmem b hm) b (List.mem_filterMap.2 ⟨x, hx, hb⟩) rfl
  refine ⟨h.kept.trans h1.kept hok, fun x hx => ?_, ?_, fun x hx b hb => ?_⟩
  · rcases List.mem_append.1 hx with hx | hx
    · exact h1.holds x hx
    · have hh := h.holds x (List.mem_append_right _ hx)
      exact HA.keep hh fun b hb => h1.kept.block b (HA.lt hh hb) (hA x hx b hb)
  · rw [List.filterMap_append, List.nodup_append]
    refine ⟨h1.apart, hap.2.1, fun b hb c hc e => ?_⟩
    subst e
    obtain ⟨x, hx, hxb⟩ := List.mem_filterMap.1 hb
    obtain ⟨y, hy, hyb⟩ := List.mem_filterMap.1 hc
    rcases h1.mine x hx b hxb with hm | hm
    · exact hA y hy b hyb hm
    · have := HA.lt (h.holds y (List.mem_append_right _ hy)) hyb
      omega
  · rcases List.mem_append.1 hx with hx | hx
    · rcases h1.mine x hx b hb with hm | hm
      · exact hok b hm
      · exact .inr (Nat.le_trans h.kept.size hm)
    · exact h.mine x (List.mem_append_right _ hx) b hb
theorem St.join0 {w0 w w' : World} {S : List Nat} {A A1 : List HA} (h : St w0 S A w) (h1 : St w [] A1 w') : St w0 S (A1 ++ A) w' :=
  St.join (A0 := []) h (by simp) h1

def CellsAt (w : World) (a : Option Addr) (vs : List Value) : Prop :=
  vs = [] ∨ ∃ b off, a = some ⟨b, off, none⟩ ∧ ∀ i v, vs[i]? = some v → w.cell? ⟨b, off + i, none⟩ = some v
theorem CellsAt.nil (w : World) (a : Option Addr) : CellsAt w a [] := .inl rfl
theorem CellsAt.keep {w w' : World} {a : Option Addr} {vs : List Value} (h : CellsAt w a vs) (k : Kept w [] w') : CellsAt w' a vs := by
  rcases h with h | ⟨b, off, rfl, h⟩
  · exact .inl h
  · refine .inr ⟨b, off, rfl, fun i v hv => ?_⟩
    have h1 := h i v hv
    have hlt := World.block_lt_of_cell? w ⟨b, off + i, none⟩ h1
    rw [World.cell?_of_block (w := w) (a := ⟨b, off + i, none⟩) (k.block b hlt (by simp))]
    exact h1
structure Cx where
  P : Program
  n : Nat
  w0 : World
  S : List Nat
def Rd (X : Cx) (A : List HA) (a : Option Addr) (vs : List Value) : Prop := ∀ w, St X.w0 X.S A w → CellsAt w a vs
theorem Rd.old {P : Program} {n : Nat} {w0 : World} {A : List HA} {a : Option Addr} {vs : List Value} (h : CellsAt w0 a vs) : Rd ⟨P, n, w0, []⟩ A a vs := fun _ s => h.keep s.kept
theorem Rd.nil {X : Cx} {A : List HA} {a : Option Addr} : Rd X A a [] := fun w _ => CellsAt.nil w a
theorem Rd.row {X : Cx} {A : List HA} {a : Option Addr} {cap : Nat} {T : TypeId} {k : Nat} {vs : List Value} (hm : HA.row a cap T k vs ∈ A) : Rd X A a vs := fun w s => by
  rcases s.holds _ hm with ⟨_, h⟩ | ⟨b, cs, rfl, hc, _, _, hl, ht⟩
  · exact .inl h
  · refine .inr ⟨b, 0, rfl, fun i v hv => ?_⟩
    rw [← ht, List.getElem?_take] at hv
    split at hv
    · simp only [World.cell?, hc, Nat.zero_add]
      simpa using hv
    · cases hv
theorem Rd.blk {X : Cx} {A : List HA} {b off : Nat} {cs : Array Value} {T : TypeId} {fr : Nat × Nat} {vs : List Value} (hm : HA.blk b (.cells cs T fr) ∈ A)
    (hv : ∀ i v, vs[i]? = some v → cs[off + i]? = some v) : Rd X A (some ⟨b, off, none⟩) vs := fun w s => .inr ⟨b, off, rfl, fun i v hi => by
  have hb : w.heap[b]? = some (.cells cs T fr) := s.holds _ hm
  simp only [World.cell?, hb]
  simpa using hv i v hi⟩
def el (a : Option Addr) (i : Nat) : Option Addr := a.map (·.add i)
def cutA (a : Option Addr) (lo cap k : Nat) : Option Addr := if cap = lo then a else a.map (·.add (lo * k))
theorem Rd.at_ {X : Cx} {A : List HA} {a : Option Addr} {vs : List Value} (h : Rd X A a vs) {i : Nat} {v : Value} (hv : vs[i]? = some v) {w : World} (s : St X.w0 X.S A w) :
    ∃ ad, el a i = some ad ∧ w.cell? ad = some v := by
  rcases h w s with h2 | ⟨b, off, rfl, h2⟩
  · subst h2; simp at hv
  · exact ⟨⟨b, off + i, none⟩, by simp only [el, Option.map_some, Addr.add]; split <;> simp_all, h2 i v hv⟩
theorem Rd.cut {X : Cx} {A : List HA} {a : Option Addr} {vs : List Value} (h : Rd X A a vs) {lo cap k m : Nat} (hl : vs.length ≤ cap * k) :
    Rd X A (cutA a lo cap k) ((vs.drop (lo * k)).take m) := fun w s => by
  rcases h w s with h2 | ⟨b, off, rfl, h2⟩
  · subst h2; exact .inl (by simp)
  · by_cases hc : cap = lo
    · subst hc
      refine .inl ?_
      rw [List.drop_eq_nil_of_le hl]; simp
    · refine .inr ⟨b, off + lo * k, by simp only [cutA, if_neg hc, Option.map_some, Addr.add]; split <;> simp_all, fun i v hv => ?_⟩
      rw [List.getElem?_take] at hv
      split at hv
      · rw [List.getElem?_drop] at hv
        rw [Nat.add_assoc]
        exact h2 _ v hv
      · cases hv

section
variable (X : Cx)
def WL (ops : Array Oper) (Q : Exit → Act → World → Prop) (l : List Oper) (ρ : Env) (A : List HA) : Prop :=
  ∀ a w, Fr X.n ρ a → St X.w0 X.S A w → wpList X.P ops Q l a w
def WC (c : Code) (Q : Exit → Act → World → Prop) (ρ : Env) (A : List HA) : Prop :=
  ∀ a w, Fr X.n ρ a → St X.w0 X.S A w → c.wp X.P Q a w
def WN (Q : Exit → Act → World → Prop) (e : Exit) (ρ : Env) (A : List HA) : Prop :=
  ∀ a w, Fr X.n ρ a → St X.w0 X.S A w → Q e a w
end
section
variable {X : Cx} {ops : Array Oper} {Q : Exit → Act → World → Prop} {ρ ρ' : Env} {A B : List HA}
theorem WL.intro {l : List Oper} (h : ∀ a w, Fr X.n ρ a → St X.w0 X.S A w → wpList X.P ops Q l a w) : WL X ops Q l ρ A := h
theorem WL.elim {l : List Oper} (h : WL X ops Q l ρ A) : ∀ a w, Fr X.n ρ a → St X.w0 X.S A w → wpList X.P ops Q l a w := h
theorem WC.intro {c : Code} (h : ∀ a w, Fr X.n ρ a → St X.w0 X.S A w → c.wp X.P Q a w) : WC X c Q ρ A := h
theorem WC.elim {c : Code} (h : WC X c Q ρ A) : ∀ a w, Fr X.n ρ a → St X.w0 X.S A w → c.wp X.P Q a w := h
theorem WN.intro {e : Exit} (h : ∀ a w, Fr X.n ρ a → St X.w0 X.S A w → Q e a w) : WN X Q e ρ A := h
theorem WN.elim {e : Exit} (h : WN X Q e ρ A) : ∀ a w, Fr X.n ρ a → St X.w0 X.S A w → Q e a w := h
theorem WC.seq {x y : Code} (h : WC X x (Exit.then (y.wp X.P Q) Q) ρ A) : WC X (.seq x y) Q ρ A := fun a w f s => wp_seq (h a w f s)
theorem WC.region {id : Nat} {l : List Oper} (h : WL X l.toArray Q l ρ A) : WC X (.region id l.toArray false) Q ρ A := fun a w f s => wp_region_lit (h a w f s)
theorem WC.cond {c : Operand} {x y : Code} {b : Bool} (hc : ev ρ c = some (.bool b)) (ht : b = true → WC X x Q ρ A) (hf : b = false → WC X y Q ρ A) : WC X (.cond c x y) Q ρ A :=
  fun a w f s => wp_cond_split (t := b) (f.ev hc) (fun h => ht h a w f s) (fun h => hf h a w f s)
theorem WC.cond_true {c : Operand} {x y : Code} {b : Bool} (hc : ev ρ c = some (.bool b)) (hb : b = true) (ht : WC X x Q ρ A) : WC X (.cond c x y) Q ρ A :=
  WC.cond hc (fun _ => ht) (fun h => by rw [hb] at h; cases h)
theorem WC.cond_false {c : Operand} {x y : Code} {b : Bool} (hc : ev ρ c = some (.bool b)) (hb : b = false) (hf : WC X y Q ρ A) : WC X (.cond c x y) Q ρ A :=
  WC.cond hc (fun h => by rw [hb] at h; cases h) (fun _ => hf)
theorem WC.ite {c : Operand} {x y : Code} {p : Prop} [Decidable p] (hc : ev ρ c = some (.bool (decide p))) (ht : p → WC X x Q ρ A) (hf : ¬ p → WC X y Q ρ A) : WC X (.cond c x y) Q ρ A :=
  WC.cond hc (fun h => ht (of_decide_eq_true h)) (fun h => hf (of_decide_eq_false h))
theorem WC.ite_true {c : Operand} {x y : Code} {p : Prop} [Decidable p] (hc : ev ρ c = some (.bool (decide p))) (hp : p) (ht : WC X x Q ρ A) : WC X (.cond c x y) Q ρ A :=
  WC.ite hc (fun _ => ht) (fun h => absurd hp h)
theorem WC.ite_false {c : Operand} {x y : Code} {p : Prop} [Decidable p] (hc : ev ρ c = some (.bool (decide p))) (hp : ¬ p) (hf : WC X y Q ρ A) : WC X (.cond c x y) Q ρ A :=
  WC.ite hc (fun h => absurd h hp) (fun _ => hf)
theorem WC.label {l : Nat} (h : WN X Q .normal ρ A) : WC X (.label l) Q ρ A := fun a w f s => wp_label (h a w f s)
theorem WC.block {id : Nat} {c : Code} (h : WC X c (Exit.inBlock id Q) ρ A) : WC X (.block id c) Q ρ A := fun a w f s => wp_block (h a w f s)
theorem WC.skip (h : WN X Q .normal ρ A) : WC X .skip Q ρ A := fun a w f s => wp_skip (h a w f s)
theorem WC.exit {id : Nat} (h : WN X Q (.exit id) ρ A) : WC X (.exit id) Q ρ A := fun a w f s => wp_exit (h a w f s)
theorem WC.ret (h : WN X Q .ret ρ A) : WC X .ret Q ρ A := fun a w f s => wp_ret (h a w f s)
theorem WC.scope {c : Code} (h : WC X c (Exit.noGoto Q) ρ A) : WC X (.scope c) Q ρ A := fun a w f s => wp_scope_straight (h a w f s)
theorem WN.then_normal {y : Code} (h : WC X y Q ρ A) : WN X (Exit.then (y.wp X.P Q) Q) .normal ρ A := h
theorem WN.then_exit {K : Act → World → Prop} {id : Nat} (h : WN X Q (.exit id) ρ A) : WN X (Exit.then K Q) (.exit id) ρ A := h
theorem WN.then_ret {K : Act → World → Prop} (h : WN X Q .ret ρ A) : WN X (Exit.then K Q) .ret ρ A := h
theorem WN.block_normal {id : Nat} (h : WN X Q .normal ρ A) : WN X (Exit.inBlock id Q) .normal ρ A := h
theorem WN.block_ret {id : Nat} (h : WN X Q .ret ρ A) : WN X (Exit.inBlock id Q) .ret ρ A := h
theorem WN.block_here {id : Nat} (h : WN X Q .normal ρ A) : WN X (Exit.inBlock id Q) (.exit id) ρ A := fun a w f s => by
  show (if id = id then Q .normal a w else _)
  rw [if_pos rfl]; exact h a w f s
theorem WN.scope_ret (h : WN X Q .ret ρ A) : WN X (Exit.noGoto Q) .ret ρ A := h
theorem WL.nil (h : WN X Q .normal ρ A) : WL X ops Q [] ρ A := fun a w f s => wpList_nil (h a w f s)
theorem WC.weak {c : Code} (hs : Sub ρ ρ') (hp : Part A B) (h : WC X c Q ρ' B) : WC X c Q ρ A := fun a w f s => h a w (f.of_sub hs) (s.part hp)
def Next {α : Type} (X : Cx) (E : α → Env) (B : α → List HA) (H : α → Prop) (μ : α → Nat) (i : α) (a : Act) (w : World) : Prop :=
  ∃ j, H j ∧ μ j < μ i ∧ Fr X.n (E j) a ∧ St X.w0 X.S (B j) w
theorem WC.loop {α : Type} (E : α → Env) (B : α → List HA) (H : α → Prop) (μ : α → Nat) (i₀ : α) {c : Code} (hs : Sub ρ (E i₀)) (hp : Part A (B i₀)) (h0 : H i₀)
    (round : ∀ i, H i → WC X c (Exit.then (Next X E B H μ i) Q) (E i) (B i)) : WC X (.loop c) Q ρ A := fun a w f s =>
  wp_loop_ghost (fun n a w => ∃ i, μ i = n ∧ H i ∧ Fr X.n (E i) a ∧ St X.w0 X.S (B i) w) (μ i₀) ⟨i₀, rfl, h0, f.of_sub hs, s.part hp⟩
    fun n a w ⟨i, hn, hi, f, s⟩ => wp_mono (round i hi a w f s) fun e a' w' hq => by
      cases e with
      | normal => obtain ⟨j, hj, hlt, f', s'⟩ := hq; exact ⟨μ j, by omega, j, rfl, hj, f', s'⟩
      | exit id => exact hq
      | goto l => exact hq
      | ret => exact hq
      | panic ch => exact hq
      | outgrown => exact hq
theorem WN.next {α : Type} {E : α → Env} {B' : α → List HA} {H : α → Prop} {μ : α → Nat} {i : α} (j : α) (hj : H j) (hm : μ j < μ i) (hs : Sub ρ (E j)) (hp : Part A (B' j)) :
    WN X (Exit.then (Next X E B' H μ i) Q) .normal ρ A := fun _ _ f s => ⟨j, hj, hm, f.of_sub hs, s.part hp⟩
end

section
variable {X : Cx} {ops : Array Oper} {Q : Exit → Act → World → Prop} {ρ : Env} {A : List HA} {rest : List Oper} {dd : Option Tmp} {op : Op} {ty : TypeId} {ps : String} {af : Array Edge} {g : Option (Nat × Bool)}
theorem WL.kG {j : Nat × Bool} (h : WL X ops Q (⟨dd, op, ty, ps, af, some j⟩ :: rest) ρ A) : WL X ops Q (⟨dd, op, ty, ps, af, some j⟩ :: rest) ρ A := h
theorem WL.k_move {x : Operand} (h : WL X ops Q (⟨dd, .move x, ty, ps, af, g⟩ :: rest) ρ A) : WL X ops Q (⟨dd, .move x, ty, ps, af, g⟩ :: rest) ρ A := h
theorem WL.k_assign {x : Operand} (h : WL X ops Q (⟨dd, .assign x, ty, ps, af, g⟩ :: rest) ρ A) : WL X ops Q (⟨dd, .assign x, ty, ps, af, g⟩ :: rest) ρ A := h
theorem WL.k_extract {x : Operand} {i : Nat} (h : WL X ops Q (⟨dd, .extract x i, ty, ps, af, g⟩ :: rest) ρ A) : WL X ops Q (⟨dd, .extract x i, ty, ps, af, g⟩ :: rest) ρ A := h
theorem WL.k_pick {c x y : Operand} (h : WL X ops Q (⟨dd, .pick c x y, ty, ps, af, g⟩ :: rest) ρ A) : WL X ops Q (⟨dd, .pick c x y, ty, ps, af, g⟩ :: rest) ρ A := h
theorem WL.k_unop {o : UnOp} {t : TypeId} {x : Operand} (h : WL X ops Q (⟨dd, .unOp o t x, ty, ps, af, g⟩ :: rest) ρ A) : WL X ops Q (⟨dd, .unOp o t x, ty, ps, af, g⟩ :: rest) ρ A := h
theorem WL.k_conv {s t : TypeId} {x : Operand} (h : WL X ops Q (⟨dd, .convert s t x, ty, ps, af, g⟩ :: rest) ρ A) : WL X ops Q (⟨dd, .convert s t x, ty, ps, af, g⟩ :: rest) ρ A := h
theorem WL.k_idxa {t : TypeId} {x y : Operand} (h : WL X ops Q (⟨dd, .indexAddr t x y, ty, ps, af, g⟩ :: rest) ρ A) : WL X ops Q (⟨dd, .indexAddr t x y, ty, ps, af, g⟩ :: rest) ρ A := h
theorem WL.k_load {t : TypeId} {x : Operand} (h : WL X ops Q (⟨dd, .load t x, ty, ps, af, g⟩ :: rest) ρ A) : WL X ops Q (⟨dd, .load t x, ty, ps, af, g⟩ :: rest) ρ A := h
theorem WL.k_slice {t : TypeId} {x : Operand} {l u m : Option Operand} (h : WL X ops Q (⟨dd, .slice t x l u m, ty, ps, af, g⟩ :: rest) ρ A) : WL X ops Q (⟨dd, .slice t x l u m, ty, ps, af, g⟩ :: rest) ρ A := h
theorem WL.k_fld {t : TypeId} {x : Operand} {i : Nat} (h : WL X ops Q (⟨dd, .fieldAddr t x i, ty, ps, af, g⟩ :: rest) ρ A) : WL X ops Q (⟨dd, .fieldAddr t x i, ty, ps, af, g⟩ :: rest) ρ A := h
theorem WL.k_index {t : TypeId} {x y : Operand} (h : WL X ops Q (⟨dd, .index t x y, ty, ps, af, g⟩ :: rest) ρ A) : WL X ops Q (⟨dd, .index t x y, ty, ps, af, g⟩ :: rest) ρ A := h
theorem WL.k_build {t : TypeId} {l : Array (Nat × Operand)} (h : WL X ops Q (⟨dd, .build t l, ty, ps, af, g⟩ :: rest) ρ A) : WL X ops Q (⟨dd, .build t l, ty, ps, af, g⟩ :: rest) ρ A := h
theorem WL.k_nilc {x : Operand} (h : WL X ops Q (⟨dd, .nilCheck x, ty, ps, af, g⟩ :: rest) ρ A) : WL X ops Q (⟨dd, .nilCheck x, ty, ps, af, g⟩ :: rest) ρ A := h
theorem WL.k_s2a {t : TypeId} {x : Operand} (h : WL X ops Q (⟨dd, .sliceToArrayPointer t x, ty, ps, af, g⟩ :: rest) ρ A) : WL X ops Q (⟨dd, .sliceToArrayPointer t x, ty, ps, af, g⟩ :: rest) ρ A := h
theorem WL.k_bin (o : BinOp) {t u : TypeId} {x y : Operand} (h : WL X ops Q (⟨dd, .binOp o t x y u, ty, ps, af, g⟩ :: rest) ρ A) : WL X ops Q (⟨dd, .binOp o t x y u, ty, ps, af, g⟩ :: rest) ρ A := h
theorem WL.k_call (f : FuncId) {xs ts} (h : WL X ops Q (⟨dd, .call { callee := .value (.func f), args := xs, argTypes := ts }, ty, ps, af, g⟩ :: rest) ρ A) : WL X ops Q (⟨dd, .call { callee := .value (.func f), args := xs, argTypes := ts }, ty, ps, af, g⟩ :: rest) ρ A := h
theorem WL.k_callt {t : Nat} {xs ts} (h : WL X ops Q (⟨dd, .call { callee := .value (.tmp t), args := xs, argTypes := ts }, ty, ps, af, g⟩ :: rest) ρ A) : WL X ops Q (⟨dd, .call { callee := .value (.tmp t), args := xs, argTypes := ts }, ty, ps, af, g⟩ :: rest) ρ A := h
theorem WL.k_bi (f : Builtin) {xs ts} (h : WL X ops Q (⟨dd, .call { callee := .builtin f, args := xs, argTypes := ts }, ty, ps, af, g⟩ :: rest) ρ A) : WL X ops Q (⟨dd, .call { callee := .builtin f, args := xs, argTypes := ts }, ty, ps, af, g⟩ :: rest) ρ A := h
end
theorem zH {x : HA} {A : List HA} (h : x ∈ A := by repeat (first | exact .head _ | refine .tail _ ?_)) : x ∈ A := h
theorem zK {x : HA} {A B : List HA} (h : Pick x A B := by repeat (first | exact Pick.here | apply Pick.there)) : Pick x A B := h
theorem zS {ρ ρ' : Env} (h : Sub ρ ρ' := by repeat (first | exact Sub.nil | refine Sub.cons rfl rfl ?_)) : Sub ρ ρ' := h
theorem zP {A B : List HA} (h : ∀ [BEq HA] [LawfulBEq HA] (u : HA), A.count u = B.count u := by intros; simp only [List.count_append, List.count_cons, List.count_nil]; omega) : A.Perm B := by
  classical
  exact List.perm_iff_count.2 fun u => h u
theorem zM {A B : List HA} (h : ∀ x, x ∈ A → x ∈ B := by intro x h; simp only [List.mem_cons, List.mem_append, h, true_or, or_true]) : ∀ x ∈ A, x ∈ B := h
end Go.Proofs.YtbkdjfgkebkknaaGreatDoor
namespace Go.Proofs.YtbkdjfgkebkknaaGreatDoor
set_option linter.unusedVariables false
set_option linter.unusedSimpArgs false
open Go Go.RowKit
section
variable {X : Cx} {ops : Array Oper} {Q : Exit → Act → World → Prop} {ρ : Env} {A B : List HA} {rest : List Oper} {d : Tmp} {op : Op} {ty : TypeId} {ps : String} {af : Array Edge} {v : Value}

theorem int_beq (m n : Int) : (m == n) = decide (m = n) := by rw [Bool.eq_iff_iff]; simp
theorem blt_lt {m n : Nat} (h : Nat.blt m n = true) : m < n := by simpa [Nat.blt_eq] using h
def Yl (X : Cx) (op : Op) (ty : TypeId) (ρ : Env) (A : List HA) (v : Value) : Prop :=
  ∀ (o : Oper), o.op = op → o.type = ty → ∀ a w, Fr X.n ρ a → St X.w0 X.S A w → (execOp a.eval o).run X.P w = .ok (.value v) w

theorem Yl.intro (h : ∀ (o : Oper), o.op = op → o.type = ty → ∀ a w, Fr X.n ρ a → St X.w0 X.S A w → (execOp a.eval o).run X.P w = .ok (.value v) w) : Yl X op ty ρ A v := h
theorem Yl.elim (h : Yl X op ty ρ A v) : ∀ (o : Oper), o.op = op → o.type = ty → ∀ a w, Fr X.n ρ a → St X.w0 X.S A w → (execOp a.eval o).run X.P w = .ok (.value v) w := h
theorem WL.step (hy : Yl X op ty ρ A v) (hd : Nat.blt d X.n = true) (h : WL X ops Q rest ((d, v) :: ρ) A) : WL X ops Q (⟨some d, op, ty, ps, af, none⟩ :: rest) ρ A :=
  fun a w f s => wpList_plain rfl fun K hK => by
    unfold Oper.wp
    rw [hy _ rfl rfl a w f s]
    exact hK _ _ (h _ _ (f.put (blt_lt hd) v) s)

theorem wanted_eq {a : Act} {n j t : Nat} {b want : Bool} {o : Oper} (hg : o.guard = some (j, want)) (hj : (ops[j]?).bind (·.dst) = some t) (f : Fr n ρ a) (hv : lk ρ t = some (.bool b)) :
    Region.wanted o (yielded ops a.tmps) = (b == want) := by
  have h1 := f.get t _ hv
  have h2 : a.tmps[t]? = some (.bool b) := by
    rw [Array.getD_eq_getD_getElem?] at h1
    cases h3 : a.tmps[t]? with
    | none => rw [h3] at h1; simp [undef] at h1
    | some u => rw [h3] at h1; simpa using h1
  have h3 : yielded ops a.tmps j = some b := by
    unfold yielded
    rw [hj]
    simp [h2]
  simp only [Region.wanted, hg, h3]
  cases b <;> cases want <;> rfl
theorem WL.guard {j t : Nat} {b want : Bool} {dd : Option Tmp} (hj : (ops[j]?).bind (·.dst) = some t) (hv : lk ρ t = some (.bool b))
    (h1 : b = want → WL X ops Q (⟨dd, op, ty, ps, af, none⟩ :: rest) ρ A)
    (h2 : b = !want → ∀ a w, Fr X.n ρ a → St X.w0 X.S A w → wpList X.P ops Q rest (a.put dd undef) w) : WL X ops Q (⟨dd, op, ty, ps, af, some (j, want)⟩ :: rest) ρ A :=
  fun a w f s => by
    have hw := wanted_eq (o := ⟨dd, op, ty, ps, af, some (j, want)⟩) rfl hj f hv
    by_cases hb : b = want
    · have := h1 hb a w f s
      unfold wpList at this ⊢
      rw [if_pos (by simp [Region.wanted])] at this
      rw [hw, if_pos (by simp [hb])]
      exact this
    · have hb' : b = !want := by cases b <;> cases want <;> simp_all
      unfold wpList
      rw [hw, if_neg (by simp [hb])]
      exact h2 hb' a w f s
theorem WL.want {j t : Nat} {b want : Bool} {dd : Option Tmp} (hj : (ops[j]?).bind (·.dst) = some t) (hv : lk ρ t = some (.bool b)) (hb : b = want)
    (h : WL X ops Q (⟨dd, op, ty, ps, af, none⟩ :: rest) ρ A) : WL X ops Q (⟨dd, op, ty, ps, af, some (j, want)⟩ :: rest) ρ A :=
  WL.guard hj hv (fun _ => h) (fun h2 => by rw [hb] at h2; cases want <;> cases h2)
theorem WL.pass {j t : Nat} {b want : Bool} (hj : (ops[j]?).bind (·.dst) = some t) (hv : lk ρ t = some (.bool b)) (hb : b = !want) (hd : Nat.blt d X.n = true)
    (h : WL X ops Q rest ((d, undef) :: ρ) A) : WL X ops Q (⟨some d, op, ty, ps, af, some (j, want)⟩ :: rest) ρ A :=
  WL.guard hj hv (fun h2 => by rw [hb] at h2; cases want <;> cases h2) (fun _ _ w f s => h _ w (f.put (blt_lt hd) undef) s)
theorem Yl.move {x : Operand} (hx : ev ρ x = some v) : Yl X (.move x) ty ρ A v := fun o ho _ a w f _ => by
  simp [execOp, ho, f.ev hx]
theorem Yl.assign {x : Operand} (hx : ev ρ x = some v) : Yl X (.assign x) ty ρ A v := fun o ho _ a w f _ => by
  simp [execOp, ho, f.ev hx]
theorem Yl.pick_t {c x y : Operand} {b : Bool} (hc : ev ρ c = some (.bool b)) (hb : b = true) (hx : ev ρ x = some v) : Yl X (.pick c x y) ty ρ A v := fun o ho _ a w f _ => by
  simp [execOp, ho, f.ev hc, f.ev hx, asBool, hb]
theorem Yl.pick_f {c x y : Operand} {b : Bool} (hc : ev ρ c = some (.bool b)) (hb : b = false) (hy : ev ρ y = some v) : Yl X (.pick c x y) ty ρ A v := fun o ho _ a w f _ => by
  simp [execOp, ho, f.ev hc, f.ev hy, asBool, hb]
theorem Yl.extract {x : Operand} {i : Nat} {vs : Array Value} (hx : ev ρ x = some (.tuple vs)) (hi : vs[i]? = some v) : Yl X (.extract x i) ty ρ A v := fun o ho _ a w f _ => by
  simp [execOp, ho, f.ev hx, Instr.extract, hi]
theorem Yl.not {x : Operand} {t : TypeId} {b : Bool} (hx : ev ρ x = some (.bool b)) : Yl X (.unOp .not t x) ty ρ A (.bool (!b)) := fun o ho _ a w f _ => by
  simp [execOp, ho, f.ev hx, Op.unary]

section
variable {x y : Operand} {t u : TypeId} {k : IntKind} {m n : Int}
theorem Yl.lss (hx : ev ρ x = some (.int k m)) (hy : ev ρ y = some (.int k n)) : Yl X (.binOp .lss t x y u) ty ρ A (.bool (decide (m < n))) := fun o ho _ a w f _ => by
  simp [execOp, ho, f.ev hx, f.ev hy, eqGuard, binOp, Op.intCmp]
theorem Yl.leq (hx : ev ρ x = some (.int k m)) (hy : ev ρ y = some (.int k n)) : Yl X (.binOp .leq t x y u) ty ρ A (.bool (decide (m ≤ n))) := fun o ho _ a w f _ => by
  simp [execOp, ho, f.ev hx, f.ev hy, eqGuard, binOp, Op.intCmp]
theorem Yl.gtr (hx : ev ρ x = some (.int k m)) (hy : ev ρ y = some (.int k n)) : Yl X (.binOp .gtr t x y u) ty ρ A (.bool (decide (n < m))) := fun o ho _ a w f _ => by
  simp [execOp, ho, f.ev hx, f.ev hy, eqGuard, binOp, Op.intCmp]
theorem Yl.geq (hx : ev ρ x = some (.int k m)) (hy : ev ρ y = some (.int k n)) : Yl X (.binOp .geq t x y u) ty ρ A (.bool (decide (n ≤ m))) := fun o ho _ a w f _ => by
  simp [execOp, ho, f.ev hx, f.ev hy, eqGuard, binOp, Op.intCmp]
theorem Yl.eql (hx : ev ρ x = some (.int k m)) (hy : ev ρ y = some (.int k n)) : Yl X (.binOp .eql t x y u) ty ρ A (.bool (decide (m = n))) := fun o ho _ a w f _ => by
  simp [execOp, ho, f.ev hx, f.ev hy, eqGuard, binOp, Op.intCmp, int_beq]
theorem Yl.neq (hx : ev ρ x = some (.int k m)) (hy : ev ρ y = some (.int k n)) : Yl X (.binOp .neq t x y u) ty ρ A (.bool (decide (m ≠ n))) := fun o ho _ a w f _ => by
  simp [execOp, ho, f.ev hx, f.ev hy, eqGuard, binOp, Op.intCmp, bne, int_beq]
theorem Yl.eqlT (hx : ev ρ x = some (.int k m)) (hy : ev ρ y = some (.int k n)) (h : m = n) : Yl X (.binOp .eql t x y u) ty ρ A (.bool true) := by
  have := Yl.eql (X := X) (ty := ty) (A := A) (t := t) (u := u) hx hy
  rwa [decide_eq_true h] at this
theorem Yl.eqlF (hx : ev ρ x = some (.int k m)) (hy : ev ρ y = some (.int k n)) (h : m ≠ n) : Yl X (.binOp .eql t x y u) ty ρ A (.bool false) := by
  have := Yl.eql (X := X) (ty := ty) (A := A) (t := t) (u := u) hx hy
  rwa [decide_eq_false h] at this
theorem Yl.neqT (hx : ev ρ x = some (.int k m)) (hy : ev ρ y = some (.int k n)) (h : m ≠ n) : Yl X (.binOp .neq t x y u) ty ρ A (.bool true) := by
  have := Yl.neq (X := X) (ty := ty) (A := A) (t := t) (u := u) hx hy
  rwa [decide_eq_true h] at this
theorem Yl.neqF (hx : ev ρ x = some (.int k m)) (hy : ev ρ y = some (.int k n)) (h : m = n) : Yl X (.binOp .neq t x y u) ty ρ A (.bool false) := by
  have := Yl.neq (X := X) (ty := ty) (A := A) (t := t) (u := u) hx hy
  rwa [decide_eq_false (fun h2 => h2 h)] at this
theorem wrap64_fits {z : Int} (h0 : -9223372036854775808 ≤ z) (h1 : z ≤ 9223372036854775807) : IntKind.i64.wrap z = z := by
  rw [IntKind.wrap_i64]; omega
theorem Yl.add64 (hx : ev ρ x = some (.int .i64 m)) (hy : ev ρ y = some (.int .i64 n)) (h : -9223372036854775808 ≤ m + n ∧ m + n ≤ 9223372036854775807) :
    Yl X (.binOp .add t x y u) ty ρ A (.int .i64 (m + n)) := fun o ho _ a w f _ => by
  simp [execOp, ho, f.ev hx, f.ev hy, eqGuard, binOp, Op.intArith, wrap64_fits h.1 h.2]
theorem Yl.sub64 (hx : ev ρ x = some (.int .i64 m)) (hy : ev ρ y = some (.int .i64 n)) (h : -9223372036854775808 ≤ m - n ∧ m - n ≤ 9223372036854775807) :
    Yl X (.binOp .sub t x y u) ty ρ A (.int .i64 (m - n)) := fun o ho _ a w f _ => by
  simp [execOp, ho, f.ev hx, f.ev hy, eqGuard, binOp, Op.intArith, wrap64_fits h.1 h.2]
theorem Yl.mul64 (hx : ev ρ x = some (.int .i64 m)) (hy : ev ρ y = some (.int .i64 n)) (h : -9223372036854775808 ≤ m * n ∧ m * n ≤ 9223372036854775807) :
    Yl X (.binOp .mul t x y u) ty ρ A (.int .i64 (m * n)) := fun o ho _ a w f _ => by
  simp [execOp, ho, f.ev hx, f.ev hy, eqGuard, binOp, Op.intArith, wrap64_fits h.1 h.2]
theorem Yl.add (hx : ev ρ x = some (.int k m)) (hy : ev ρ y = some (.int k n)) : Yl X (.binOp .add t x y u) ty ρ A (.int k (k.wrap (m + n))) := fun o ho _ a w f _ => by
  simp [execOp, ho, f.ev hx, f.ev hy, eqGuard, binOp, Op.intArith]
theorem Yl.sub (hx : ev ρ x = some (.int k m)) (hy : ev ρ y = some (.int k n)) : Yl X (.binOp .sub t x y u) ty ρ A (.int k (k.wrap (m - n))) := fun o ho _ a w f _ => by
  simp [execOp, ho, f.ev hx, f.ev hy, eqGuard, binOp, Op.intArith]
theorem Yl.mul (hx : ev ρ x = some (.int k m)) (hy : ev ρ y = some (.int k n)) : Yl X (.binOp .mul t x y u) ty ρ A (.int k (k.wrap (m * n))) := fun o ho _ a w f _ => by
  simp [execOp, ho, f.ev hx, f.ev hy, eqGuard, binOp, Op.intArith]
theorem Yl.quo64 (hx : ev ρ x = some (.int .i64 m)) (hy : ev ρ y = some (.int .i64 n)) (h0 : 0 ≤ m) (h1 : m ≤ 9223372036854775807) (h2 : 0 < n) :
    Yl X (.binOp .quo t x y u) ty ρ A (.int .i64 (m / n)) := fun o ho _ a w f _ => by
  have e : m.tdiv n = m / n := Int.tdiv_eq_ediv_of_nonneg h0
  have e1 : 0 ≤ m / n := Int.ediv_nonneg h0 (by omega)
  have e2 : m / n ≤ m := Int.ediv_le_self n h0
  simp [execOp, ho, f.ev hx, f.ev hy, eqGuard, binOp, Op.intDiv, show n ≠ 0 by omega, e, wrap64_fits (z := m / n) (by omega) (by omega)]
theorem Yl.rem (hx : ev ρ x = some (.int k m)) (hy : ev ρ y = some (.int k n)) (h0 : 0 ≤ m) (h2 : 0 < n) :
    Yl X (.binOp .rem t x y u) ty ρ A (.int k (m % n)) := fun o ho _ a w f _ => by
  have e : m.tmod n = m % n := Int.tmod_eq_emod_of_nonneg h0
  simp [execOp, ho, f.ev hx, f.ev hy, eqGuard, binOp, Op.intDiv, show n ≠ 0 by omega, e]
end

section
variable {x y : Operand} {t u : TypeId} {k : IntKind} {m n : Nat}
theorem wrapN {k : IntKind} (hk : k.signed = false) (m : Nat) : k.wrap (m : Int) = ((m % 2 ^ k.bits : Nat) : Int) := by
  simp only [IntKind.wrap, hk, Bool.false_and, Bool.false_eq_true, if_false]
  rw [Int.natCast_emod]; congr 1
theorem wrapN_lt {k : IntKind} (hk : k.signed = false) {m : Nat} (h : m < 2 ^ k.bits) : k.wrap (m : Int) = (m : Int) := by rw [wrapN hk, Nat.mod_eq_of_lt h]
theorem ofInt_nat {b m : Nat} (hm : m < 2 ^ b) : (BitVec.ofInt b (m : Int)).toNat = m := by
  rw [BitVec.toNat_ofInt, show (((m : Int) % (2 ^ b : Nat)).toNat) = m % 2 ^ b by rw [← Int.natCast_emod]; rfl]
  exact Nat.mod_eq_of_lt hm
theorem Yl.andN (hk : k.signed = false) (hx : ev ρ x = some (.int k (m : Int))) (hy : ev ρ y = some (.int k (n : Int))) (hm : m < 2 ^ k.bits) (hn : n < 2 ^ k.bits) :
    Yl X (.binOp .and t x y u) ty ρ A (.int k ((m &&& n : Nat) : Int)) := fun o ho _ a w f _ => by
  have : m &&& n < 2 ^ k.bits := Nat.lt_of_le_of_lt Nat.and_le_left hm
  have e : (BitVec.ofInt k.bits (m : Int) &&& BitVec.ofInt k.bits (n : Int)).toNat = m &&& n := by rw [BitVec.toNat_and, ofInt_nat hm, ofInt_nat hn]
  simp only [execOp, ho, f.ev hx, f.ev hy, eqGuard, binOp, Op.intBits, e, wrapN_lt hk this]
  simp
theorem Yl.orN (hk : k.signed = false) (hx : ev ρ x = some (.int k (m : Int))) (hy : ev ρ y = some (.int k (n : Int))) (hm : m < 2 ^ k.bits) (hn : n < 2 ^ k.bits) :
    Yl X (.binOp .or t x y u) ty ρ A (.int k ((m ||| n : Nat) : Int)) := fun o ho _ a w f _ => by
  have : m ||| n < 2 ^ k.bits := Nat.or_lt_two_pow hm hn
  have e : (BitVec.ofInt k.bits (m : Int) ||| BitVec.ofInt k.bits (n : Int)).toNat = m ||| n := by rw [BitVec.toNat_or, ofInt_nat hm, ofInt_nat hn]
  simp only [execOp, ho, f.ev hx, f.ev hy, eqGuard, binOp, Op.intBits, e, wrapN_lt hk this]
  simp
theorem Yl.xorN (hk : k.signed = false) (hx : ev ρ x = some (.int k (m : Int))) (hy : ev ρ y = some (.int k (n : Int))) (hm : m < 2 ^ k.bits) (hn : n < 2 ^ k.bits) :
    Yl X (.binOp .xor t x y u) ty ρ A (.int k ((m ^^^ n : Nat) : Int)) := fun o ho _ a w f _ => by
  have : m ^^^ n < 2 ^ k.bits := Nat.xor_lt_two_pow hm hn
  have e : (BitVec.ofInt k.bits (m : Int) ^^^ BitVec.ofInt k.bits (n : Int)).toNat = m ^^^ n := by rw [BitVec.toNat_xor, ofInt_nat hm, ofInt_nat hn]
  simp only [execOp, ho, f.ev hx, f.ev hy, eqGuard, binOp, Op.intBits, e, wrapN_lt hk this]
  simp
theorem Yl.shrN {k' : IntKind} (hx : ev ρ x = some (.int k (m : Int))) (hy : ev ρ y = some (.int k' (n : Int))) (hn : n ≤ k.bits) :
    Yl X (.binOp .shr t x y u) ty ρ A (.int k ((m / 2 ^ n : Nat) : Int)) := fun o ho _ a w f _ => by
  have e : (m : Int).fdiv (2 ^ n) = ((m / 2 ^ n : Nat) : Int) := by
    rw [Int.fdiv_eq_ediv_of_nonneg _ (by exact Int.le_of_lt (Int.pow_pos (by decide)))]
    norm_cast
  simp only [execOp, ho, f.ev hx, f.ev hy, eqGuard, binOp, Op.shift]
  simp [show ¬ ((n : Int) < 0) by omega, Nat.min_eq_left hn, e]
theorem Yl.shlN {k' : IntKind} (hk : k.signed = false) (hx : ev ρ x = some (.int k (m : Int))) (hy : ev ρ y = some (.int k' (n : Int))) (hn : n ≤ k.bits) :
    Yl X (.binOp .shl t x y u) ty ρ A (.int k ((m * 2 ^ n % 2 ^ k.bits : Nat) : Int)) := fun o ho _ a w f _ => by
  have e : k.wrap ((m : Int) * 2 ^ n) = ((m * 2 ^ n % 2 ^ k.bits : Nat) : Int) := by
    rw [← wrapN hk]; norm_cast
  simp only [execOp, ho, f.ev hx, f.ev hy, eqGuard, binOp, Op.shift]
  simp [show ¬ ((n : Int) < 0) by omega, Nat.min_eq_left hn, e]
theorem Yl.addN (hk : k.signed = false) (hx : ev ρ x = some (.int k (m : Int))) (hy : ev ρ y = some (.int k (n : Int))) :
    Yl X (.binOp .add t x y u) ty ρ A (.int k (((m + n) % 2 ^ k.bits : Nat) : Int)) := fun o ho _ a w f _ => by
  have e : k.wrap ((m : Int) + n) = (((m + n) % 2 ^ k.bits : Nat) : Int) := by rw [← wrapN hk]; norm_cast
  simp [execOp, ho, f.ev hx, f.ev hy, eqGuard, binOp, Op.intArith, e]
theorem Yl.mulN (hk : k.signed = false) (hx : ev ρ x = some (.int k (m : Int))) (hy : ev ρ y = some (.int k (n : Int))) :
    Yl X (.binOp .mul t x y u) ty ρ A (.int k (((m * n) % 2 ^ k.bits : Nat) : Int)) := fun o ho _ a w f _ => by
  have e : k.wrap ((m : Int) * n) = (((m * n) % 2 ^ k.bits : Nat) : Int) := by rw [← wrapN hk]; norm_cast
  simp [execOp, ho, f.ev hx, f.ev hy, eqGuard, binOp, Op.intArith, e]
theorem Yl.remN (hx : ev ρ x = some (.int k (m : Int))) (hy : ev ρ y = some (.int k (n : Int))) (hn : 0 < n) :
    Yl X (.binOp .rem t x y u) ty ρ A (.int k ((m % n : Nat) : Int)) := fun o ho _ a w f _ => by
  have e : (m : Int).tmod n = ((m % n : Nat) : Int) := by rw [Int.tmod_eq_emod_of_nonneg (by omega), Int.natCast_emod]
  simp [execOp, ho, f.ev hx, f.ev hy, eqGuard, binOp, Op.intDiv, show ¬ n = 0 by omega, e]
theorem Yl.convN {s t : TypeId} {k' : IntKind} {du : TypeDesc} (hs : X.P.underlying s = some du) (ht : X.P.underlying t = some (.int k)) (hk : k.signed = false)
    (hx : ev ρ x = some (.int k' (m : Int))) : Yl X (.convert s t x) ty ρ A (.int k ((m % 2 ^ k.bits : Nat) : Int)) := fun o ho _ a w f _ => by
  simp [execOp, ho, f.ev hx, convert, run_underlying hs, run_underlying ht, Conv.intToInt, wrapN hk]
theorem Yl.conv64 {s t : TypeId} {k' : IntKind} {du : TypeDesc} (hs : X.P.underlying s = some du) (ht : X.P.underlying t = some (.int .i64))
    (hx : ev ρ x = some (.int k' (m : Int))) (hm : m < 9223372036854775808) : Yl X (.convert s t x) ty ρ A (.int .i64 (m : Int)) := fun o ho _ a w f _ => by
  simp [execOp, ho, f.ev hx, convert, run_underlying hs, run_underlying ht, Conv.intToInt, wrap64_fits (z := (m : Int)) (by omega) (by omega)]

section
variable {c : Nat}
theorem Yl.andC (hk : k.signed = false) (hx : ev ρ x = some (.int k (m : Int))) (hm : m < 2 ^ k.bits) (hn : (OfNat.ofNat c : Nat) < 2 ^ k.bits) :
    Yl X (.binOp .and t x (.const (.int k (OfNat.ofNat c))) u) ty ρ A (.int k ((m &&& (OfNat.ofNat c) : Nat) : Int)) := Yl.andN hk hx rfl hm hn
theorem Yl.xorC (hk : k.signed = false) (hx : ev ρ x = some (.int k (m : Int))) (hm : m < 2 ^ k.bits) (hn : (OfNat.ofNat c : Nat) < 2 ^ k.bits) :
    Yl X (.binOp .xor t x (.const (.int k (OfNat.ofNat c))) u) ty ρ A (.int k ((m ^^^ (OfNat.ofNat c) : Nat) : Int)) := Yl.xorN hk hx rfl hm hn
theorem Yl.shrC {k' : IntKind} (hx : ev ρ x = some (.int k (m : Int))) (hn : (OfNat.ofNat c : Nat) ≤ k.bits) :
    Yl X (.binOp .shr t x (.const (.int k' (OfNat.ofNat c))) u) ty ρ A (.int k ((m >>> (OfNat.ofNat c : Nat) : Nat) : Int)) := by
  rw [Nat.shiftRight_eq_div_pow]; exact Yl.shrN hx rfl hn
theorem Yl.shlC {k' : IntKind} (hk : k.signed = false) (hx : ev ρ x = some (.int k (m : Int))) (hn : (OfNat.ofNat c : Nat) ≤ k.bits) :
    Yl X (.binOp .shl t x (.const (.int k' (OfNat.ofNat c))) u) ty ρ A (.int k ((m <<< (OfNat.ofNat c : Nat) % 2 ^ k.bits : Nat) : Int)) := by
  rw [Nat.shiftLeft_eq]; exact Yl.shlN hk hx rfl hn
end

section
variable {c : Nat}
theorem Yl.add64N (hx : ev ρ x = some (.int .i64 (m : Int))) (hy : ev ρ y = some (.int .i64 (n : Int))) (h : m + n ≤ 9223372036854775807) : Yl X (.binOp .add t x y u) ty ρ A (.int .i64 ((m + n : Nat) : Int)) := by
  have := Yl.add64 (X := X) (ty := ty) (A := A) (t := t) (u := u) hx hy (by omega)
  rwa [← Int.natCast_add] at this
theorem Yl.add64C (hx : ev ρ x = some (.int .i64 (m : Int))) (h : m + (OfNat.ofNat c : Nat) ≤ 9223372036854775807) : Yl X (.binOp .add t x (.const (.int .i64 (OfNat.ofNat c))) u) ty ρ A (.int .i64 ((m + OfNat.ofNat c : Nat) : Int)) := Yl.add64N hx rfl h
theorem Yl.addC64 (hy : ev ρ y = some (.int .i64 (m : Int))) (h : (OfNat.ofNat c : Nat) + m ≤ 9223372036854775807) : Yl X (.binOp .add t (.const (.int .i64 (OfNat.ofNat c))) y u) ty ρ A (.int .i64 ((OfNat.ofNat c + m : Nat) : Int)) := Yl.add64N rfl hy h
theorem Yl.sub64N (hx : ev ρ x = some (.int .i64 (m : Int))) (hy : ev ρ y = some (.int .i64 (n : Int))) (h : n ≤ m) (h2 : m ≤ 9223372036854775807) : Yl X (.binOp .sub t x y u) ty ρ A (.int .i64 ((m - n : Nat) : Int)) := by
  have := Yl.sub64 (X := X) (ty := ty) (A := A) (t := t) (u := u) hx hy (by omega)
  rwa [← Int.natCast_sub h] at this
theorem Yl.sub64C (hx : ev ρ x = some (.int .i64 (m : Int))) (h : (OfNat.ofNat c : Nat) ≤ m) (h2 : m ≤ 9223372036854775807) : Yl X (.binOp .sub t x (.const (.int .i64 (OfNat.ofNat c))) u) ty ρ A (.int .i64 ((m - OfNat.ofNat c : Nat) : Int)) := Yl.sub64N hx rfl h h2
theorem Yl.mul64N (hx : ev ρ x = some (.int .i64 (m : Int))) (hy : ev ρ y = some (.int .i64 (n : Int))) (h : m * n ≤ 9223372036854775807) : Yl X (.binOp .mul t x y u) ty ρ A (.int .i64 ((m * n : Nat) : Int)) := by
  have h0 : (0 : Int) ≤ (m : Int) * n := Int.mul_nonneg (by omega) (by omega)
  have h1 : (m : Int) * n ≤ 9223372036854775807 := by rw [← Int.natCast_mul]; omega
  have := Yl.mul64 (X := X) (ty := ty) (A := A) (t := t) (u := u) hx hy ⟨by omega, h1⟩
  rwa [← Int.natCast_mul] at this
theorem Yl.mul64C (hx : ev ρ x = some (.int .i64 (m : Int))) (h : m * (OfNat.ofNat c : Nat) ≤ 9223372036854775807) : Yl X (.binOp .mul t x (.const (.int .i64 (OfNat.ofNat c))) u) ty ρ A (.int .i64 ((m * OfNat.ofNat c : Nat) : Int)) := Yl.mul64N hx rfl h
theorem Yl.mulC64 (hy : ev ρ y = some (.int .i64 (m : Int))) (h : (OfNat.ofNat c : Nat) * m ≤ 9223372036854775807) : Yl X (.binOp .mul t (.const (.int .i64 (OfNat.ofNat c))) y u) ty ρ A (.int .i64 ((OfNat.ofNat c * m : Nat) : Int)) := Yl.mul64N rfl hy h
theorem Yl.quo64N (hx : ev ρ x = some (.int .i64 (m : Int))) (hy : ev ρ y = some (.int .i64 (n : Int))) (h : m ≤ 9223372036854775807) (hn : 0 < n) : Yl X (.binOp .quo t x y u) ty ρ A (.int .i64 ((m / n : Nat) : Int)) := by
  have := Yl.quo64 (X := X) (ty := ty) (A := A) (t := t) (u := u) hx hy (by omega) (by omega) (by omega)
  rwa [← Int.natCast_ediv] at this
theorem Yl.quo64C (hx : ev ρ x = some (.int .i64 (m : Int))) (h : m ≤ 9223372036854775807) (hn : 0 < (OfNat.ofNat c : Nat)) : Yl X (.binOp .quo t x (.const (.int .i64 (OfNat.ofNat c))) u) ty ρ A (.int .i64 ((m / OfNat.ofNat c : Nat) : Int)) := Yl.quo64N hx rfl h hn
end
end
end
end Go.Proofs.YtbkdjfgkebkknaaGreatDoor
