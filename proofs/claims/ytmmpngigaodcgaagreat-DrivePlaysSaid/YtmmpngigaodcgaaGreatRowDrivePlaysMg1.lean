import Derived.Shelf.SlIterI.Nil
import Derived.Shelf.SortM.Plain
import Derived.Shelf.SortM.SortNone
import Derived.Shelf.SlMaps.Clone
import Derived.Test.YtmmpngigaodcgaaGreatProg
import Derived.Tactics
import Derived.Deep.LoopGhost
import Derived.Deep.Quiet
import Derived.Below
import Derived.Scope
import Derived.Shelf.Abstract
import Derived.Laws.BitsAllLaws
import Derived.KernelRfl
/- The library functions that the program calls, laid at this program (the kit's shelf_lay_g in plain words; printed by mklay.py). -/
namespace Go.Proofs.YtmmpngigaodcgaaGreat
set_option linter.unusedVariables false
set_option linter.unusedSimpArgs false
open Go Go.RowKit Go.Shelf
set_option maxRecDepth 100000
def keysL_ren : Go.Shelf.Ren := ⟨fun | 7 => 85 | 10 => 89 | n => n, fun | 23 => 74 | 26 => 3 | 3 => 83 | 28 => 95 | 0 => 0 | 27 => 94 | 33 => 86 | 4 => 4 | n => n, fun | n => n⟩
theorem keysL : Go.Proofs.SlLaysZI.n7 Tryz.prog keysL_ren := {
  mixed := by kernel_rfl,
  f7 := ⟨Tryz.f85.name, by decide, Tryz.func85.trans (congrArg some (by kernel_rfl))⟩,
  f10 := ⟨Tryz.f89.name, by decide, Tryz.func89.trans (congrArg some (by kernel_rfl))⟩,
  t0 := Tryz.underlying0,
  a0 := Tryz.isAgg0,
  z0 := Tryz.sizeOf0,
  v0 := Tryz.zeroValue0,
  t4 := Tryz.underlying4,
  a4 := Tryz.isAgg4,
  z4 := Tryz.sizeOf4,
  v4 := Tryz.zeroValue4,
  t23 := Tryz.underlying74,
  a23 := Tryz.isAgg74,
  z23 := Tryz.sizeOf74,
  v23 := Tryz.zeroValue74,
  t26 := Tryz.underlying3,
  a26 := Tryz.isAgg3,
  z26 := Tryz.sizeOf3,
  v26 := Tryz.zeroValue3,
  t27 := Tryz.underlying94,
  a27 := Tryz.isAgg94,
  z27 := Tryz.sizeOf94,
  v27 := Tryz.zeroValue94,
  t28 := Tryz.underlying95,
  a28 := Tryz.isAgg95,
  z28 := Tryz.sizeOf95,
  v28 := Tryz.zeroValue95,
  t33 := Tryz.underlying86,
  a33 := Tryz.isAgg86,
  z33 := Tryz.sizeOf86,
  v33 := Tryz.zeroValue86 }
def sortedL_ren : Go.Shelf.Ren := ⟨fun | 6 => 84 | 8 => 87 | 9 => 88 | 11 => 90 | 13 => 92 | 12 => 91 | 23 => 102 | 24 => 103 | 14 => 93 | 15 => 94 | 16 => 95 | 17 => 96 | 18 => 97 | 19 => 98 | 20 => 99 | 21 => 100 | 22 => 101 | 25 => 104 | 26 => 105 | 27 => 106 | 28 => 107 | 29 => 108 | 30 => 109 | 31 => 110 | n => n, fun | 26 => 3 | 28 => 95 | 24 => 31 | 0 => 0 | 3 => 3 | 37 => 87 | 48 => 100 | 50 => 103 | 4 => 4 | 40 => 114 | 39 => 113 | 45 => 119 | 5 => 5 | 9 => 9 | 51 => 123 | 55 => 127 | 57 => 129 | 58 => 130 | 33 => 86 | n => n, fun | n => n⟩
theorem sortedL : Go.Proofs.SlLaysZI.n6 Tryz.prog sortedL_ren := {
  mixed := by kernel_rfl,
  f6 := ⟨Tryz.f84.name, by decide, Tryz.func84.trans (congrArg some (by kernel_rfl))⟩,
  f8 := ⟨Tryz.f87.name, by decide, Tryz.func87.trans (congrArg some (by kernel_rfl))⟩,
  f11 := ⟨Tryz.f90.name, by decide, Tryz.func90.trans (congrArg some (by kernel_rfl))⟩,
  t0 := Tryz.underlying0,
  a0 := Tryz.isAgg0,
  z0 := Tryz.sizeOf0,
  v0 := Tryz.zeroValue0,
  t24 := Tryz.underlying31,
  a24 := Tryz.isAgg31,
  z24 := Tryz.sizeOf31,
  v24 := Tryz.zeroValue31,
  t26 := Tryz.underlying3,
  a26 := Tryz.isAgg3,
  z26 := Tryz.sizeOf3,
  v26 := Tryz.zeroValue3,
  t28 := Tryz.underlying95,
  a28 := Tryz.isAgg95,
  z28 := Tryz.sizeOf95,
  v28 := Tryz.zeroValue95,
  i26 := by kernel_rfl }
def sortL_ren : Go.Shelf.Ren := ⟨fun | 5 => 88 | 8 => 92 | 7 => 91 | 19 => 102 | 20 => 103 | 10 => 93 | 11 => 94 | 12 => 95 | 13 => 96 | 14 => 97 | 15 => 98 | 16 => 99 | 17 => 100 | 18 => 101 | 30 => 104 | 31 => 105 | 32 => 106 | 33 => 107 | 34 => 108 | 35 => 109 | 40 => 110 | n => n, fun | 23 => 31 | 25 => 3 | 3 => 3 | 32 => 87 | 22 => 31 | 0 => 0 | 44 => 100 | 46 => 103 | 4 => 4 | 36 => 114 | 35 => 113 | 41 => 119 | 5 => 5 | 9 => 9 | 53 => 123 | 57 => 127 | 63 => 129 | 64 => 130 | n => n, fun | n => n⟩
theorem sortL : Go.Proofs.SlLaysM.n5 Tryz.prog sortL_ren := {
  mixed := by kernel_rfl,
  f5 := ⟨Tryz.f88.name, by decide, Tryz.func88.trans (congrArg some (by kernel_rfl))⟩,
  f7 := ⟨Tryz.f91.name, by decide, Tryz.func91.trans (congrArg some (by kernel_rfl))⟩,
  f8 := Tryz.func92.trans (congrArg some (by kernel_rfl)),
  f10 := ⟨Tryz.f93.name, by decide, Tryz.func93.trans (congrArg some (by kernel_rfl))⟩,
  f11 := ⟨Tryz.f94.name, by decide, Tryz.func94.trans (congrArg some (by kernel_rfl))⟩,
  f12 := ⟨Tryz.f95.name, by decide, Tryz.func95.trans (congrArg some (by kernel_rfl))⟩,
  f13 := ⟨Tryz.f96.name, by decide, Tryz.func96.trans (congrArg some (by kernel_rfl))⟩,
  f14 := ⟨Tryz.f97.name, by decide, Tryz.func97.trans (congrArg some (by kernel_rfl))⟩,
  f15 := ⟨Tryz.f98.name, by decide, Tryz.func98.trans (congrArg some (by kernel_rfl))⟩,
  f16 := ⟨Tryz.f99.name, by decide, Tryz.func99.trans (congrArg some (by kernel_rfl))⟩,
  f17 := ⟨Tryz.f100.name, by decide, Tryz.func100.trans (congrArg some (by kernel_rfl))⟩,
  f18 := ⟨Tryz.f101.name, by decide, Tryz.func101.trans (congrArg some (by kernel_rfl))⟩,
  f19 := Tryz.func102.trans (congrArg some (by kernel_rfl)),
  f20 := Tryz.func103.trans (congrArg some (by kernel_rfl)),
  f30 := ⟨Tryz.f104.name, by decide, Tryz.func104.trans (congrArg some (by kernel_rfl))⟩,
  f31 := Tryz.func105.trans (congrArg some (by kernel_rfl)),
  f32 := Tryz.func106.trans (congrArg some (by kernel_rfl)),
  f33 := ⟨Tryz.f107.name, by decide, Tryz.func107.trans (congrArg some (by kernel_rfl))⟩,
  f34 := ⟨Tryz.f108.name, by decide, Tryz.func108.trans (congrArg some (by kernel_rfl))⟩,
  f35 := ⟨Tryz.f109.name, by decide, Tryz.func109.trans (congrArg some (by kernel_rfl))⟩,
  f40 := ⟨Tryz.f110.name, by decide, Tryz.func110.trans (congrArg some (by kernel_rfl))⟩,
  t0 := Tryz.underlying0,
  a0 := Tryz.isAgg0,
  z0 := Tryz.sizeOf0,
  v0 := Tryz.zeroValue0,
  t3 := Tryz.underlying3,
  a3 := Tryz.isAgg3,
  z3 := Tryz.sizeOf3,
  v3 := Tryz.zeroValue3,
  t4 := Tryz.underlying4,
  a4 := Tryz.isAgg4,
  z4 := Tryz.sizeOf4,
  v4 := Tryz.zeroValue4,
  t5 := Tryz.underlying5,
  a5 := Tryz.isAgg5,
  z5 := Tryz.sizeOf5,
  v5 := Tryz.zeroValue5,
  t9 := Tryz.underlying9,
  a9 := Tryz.isAgg9,
  z9 := Tryz.sizeOf9,
  v9 := Tryz.zeroValue9,
  t22 := Tryz.underlying31,
  a22 := Tryz.isAgg31,
  z22 := Tryz.sizeOf31,
  v22 := Tryz.zeroValue31,
  t23 := Tryz.underlying31,
  a23 := Tryz.isAgg31,
  z23 := Tryz.sizeOf31,
  v23 := Tryz.zeroValue31,
  t25 := Tryz.underlying3,
  a25 := Tryz.isAgg3,
  z25 := Tryz.sizeOf3,
  v25 := Tryz.zeroValue3,
  t32 := Tryz.underlying87,
  a32 := Tryz.isAgg87,
  z32 := Tryz.sizeOf87,
  v32 := Tryz.zeroValue87,
  t35 := Tryz.underlying113,
  a35 := Tryz.isAgg113,
  z35 := Tryz.sizeOf113,
  v35 := Tryz.zeroValue113,
  t36 := Tryz.underlying114,
  a36 := Tryz.isAgg114,
  z36 := Tryz.sizeOf114,
  v36 := Tryz.zeroValue114,
  t41 := Tryz.underlying119,
  a41 := Tryz.isAgg119,
  z41 := Tryz.sizeOf119,
  v41 := Tryz.zeroValue119,
  t44 := Tryz.underlying100,
  a44 := Tryz.isAgg100,
  z44 := Tryz.sizeOf100,
  v44 := Tryz.zeroValue100,
  t46 := Tryz.underlying103,
  a46 := Tryz.isAgg103,
  z46 := Tryz.sizeOf103,
  v46 := Tryz.zeroValue103,
  t53 := Tryz.underlying123,
  a53 := Tryz.isAgg123,
  z53 := Tryz.sizeOf123,
  v53 := Tryz.zeroValue123,
  t57 := Tryz.underlying127,
  a57 := Tryz.isAgg127,
  z57 := Tryz.sizeOf127,
  v57 := Tryz.zeroValue127,
  t63 := Tryz.underlying129,
  a63 := Tryz.isAgg129,
  z63 := Tryz.sizeOf129,
  v63 := Tryz.zeroValue129,
  t64 := Tryz.underlying130,
  a64 := Tryz.isAgg130,
  z64 := Tryz.sizeOf130,
  v64 := Tryz.zeroValue130 }
def cloneL_ren : Go.Shelf.Ren := ⟨fun | 5 => 80 | 7 => 86 | n => n, fun | 23 => 74 | 25 => 3 | 3 => 83 | 4 => 4 | 20 => 20 | n => n, fun | n => n⟩
theorem cloneL : Go.Proofs.SlLaysW.n5 Tryz.prog cloneL_ren := {
  mixed := by kernel_rfl,
  f5 := ⟨Tryz.f80.name, by decide, Tryz.func80.trans (congrArg some (by kernel_rfl))⟩,
  f7 := Tryz.func86.trans (congrArg some (by kernel_rfl)),
  t4 := Tryz.underlying4,
  a4 := Tryz.isAgg4,
  z4 := Tryz.sizeOf4,
  v4 := Tryz.zeroValue4,
  t20 := Tryz.underlying20,
  a20 := Tryz.isAgg20,
  z20 := Tryz.sizeOf20,
  v20 := Tryz.zeroValue20,
  t23 := Tryz.underlying74,
  a23 := Tryz.isAgg74,
  z23 := Tryz.sizeOf74,
  v23 := Tryz.zeroValue74 }
end Go.Proofs.YtmmpngigaodcgaaGreat
/- A small separation logic over the kit's walk: a frame is a list of known slots, memory is a list of owned blocks and rows. -/
namespace Go.Proofs.YtmmpngigaodcgaaGreat
set_option linter.unusedVariables false
set_option linter.unusedSimpArgs false
open Go Go.RowKit

/-! ### Frames -/
abbrev Env := List (Nat × Value)
def lk : Env → Nat → Option Value
  | [], _ => none
  | (s, v) :: r, t => bif Nat.beq s t then some v else lk r t
def ev (ρ : Env) : Operand → Option Value
  | .tmp t => lk ρ t
  | .const v => some v
  | .global g => some (.pointer (some ⟨g, 0, none⟩))
  | .func f => some (.func (.func f) #[] #[])

theorem beq_ne {s t : Nat} (h : s ≠ t) : Nat.beq s t = false := by
  cases e : Nat.beq s t with
  | false => rfl
  | true => exact absurd (Nat.eq_of_beq_eq_true e) h
structure Fr (n : Nat) (ρ : Env) (a : Act) : Prop where
  size : a.tmps.size = n
  defers : a.defers = []
  get : ∀ t v, lk ρ t = some v → a.tmps.getD t undef = v

theorem Fr.ev {n : Nat} {ρ : Env} {a : Act} {x : Operand} {v : Value} (h : Fr n ρ a) (hx : ev ρ x = some v) : a.eval x = v := by
  cases x with
  | tmp t => exact h.get t v hx
  | const c => exact Option.some.inj hx
  | global g => exact Option.some.inj hx
  | func f => exact Option.some.inj hx
theorem Fr.put {n d : Nat} {ρ : Env} {a : Act} (h : Fr n ρ a) (hd : d < n) (v : Value) : Fr n ((d, v) :: ρ) (a.put (some d) v) := by
  refine ⟨by simp [Act.put, h.size], h.defers, fun t u ht => ?_⟩
  simp only [lk] at ht
  by_cases e : d = t
  · subst e
    rw [show Nat.beq d d = true from Nat.beq_refl d] at ht
    obtain rfl := Option.some.inj ht
    simp [Act.put, Array.getD_eq_getD_getElem?, h.size, hd]
  · rw [show Nat.beq d t = false from beq_ne e] at ht
    have := h.get t u ht
    simp only [Act.put, Array.getD_eq_getD_getElem?] at this ⊢
    rw [Array.getElem?_setIfInBounds, if_neg e]
    exact this
theorem Fr.sub {n : Nat} {ρ ρ' : Env} {a : Act} (h : Fr n ρ a) (hs : ∀ t v, lk ρ' t = some v → lk ρ t = some v) : Fr n ρ' a :=
  ⟨h.size, h.defers, fun t v ht => h.get t v (hs t v ht)⟩
/-- Each slot of the one frame is one of the other's: closed by 'rfl' slot by slot. -/
inductive Sub (ρ : Env) : Env → Prop
  | nil : Sub ρ []
  | cons {t : Nat} {v u : Value} {r : Env} : lk ρ t = some u → u = v → Sub ρ r → Sub ρ ((t, v) :: r)
theorem Sub.lk {ρ ρ' : Env} (h : Sub ρ ρ') : ∀ t v, lk ρ' t = some v → lk ρ t = some v := by
  induction h with
  | nil => intro t v h; cases h
  | @cons s v u r hs e _ ih =>
    intro t w ht
    subst e
    simp only [Go.Proofs.YtmmpngigaodcgaaGreat.lk] at ht
    by_cases e : s = t
    · subst e
      rw [show Nat.beq s s = true from Nat.beq_refl s] at ht
      obtain rfl := Option.some.inj ht
      exact hs
    · rw [show Nat.beq s t = false from beq_ne e] at ht
      exact ih t w ht
theorem Fr.of_sub {n : Nat} {ρ ρ' : Env} {a : Act} (h : Fr n ρ a) (hs : Sub ρ ρ') : Fr n ρ' a := h.sub hs.lk

/-! ### Memory -/
inductive HA where
  | blk (b : Nat) (o : Obj)
  | row (a : Option Addr) (cap : Nat) (T : TypeId) (k : Nat) (vs : List Value)
def HA.foot : HA → Option Nat
  | .blk b _ => some b
  | .row a cap _ _ _ => if cap = 0 then none else a.map (·.block)
def HA.holds : HA → World → Prop
  | .blk b o, w => w.heap[b]? = some o
  | .row a cap T k vs, w => (cap = 0 ∧ vs = []) ∨ ∃ b cs, a = some ⟨b, 0, none⟩ ∧ w.heap[b]? = some (.cells cs T (0, 0)) ∧ cs.size = cap * k ∧ cap ≤ maxLen ∧
      vs.length ≤ cs.size ∧ cs.toList.take vs.length = vs

structure Kept (w0 : World) (S : List Nat) (w : World) : Prop where
  os : w.os = w0.os
  tape : w.tape = w0.tape
  output : w.output = w0.output
  size : w0.heap.size ≤ w.heap.size
  block : ∀ k, k < w0.heap.size → k ∉ S → w.heap[k]? = w0.heap[k]?
structure St (w0 : World) (S : List Nat) (A : List HA) (w : World) : Prop where
  kept : Kept w0 S w
  holds : ∀ h ∈ A, h.holds w
  apart : (A.filterMap HA.foot).Nodup
  mine : ∀ h ∈ A, ∀ b, h.foot = some b → b ∈ S ∨ w0.heap.size ≤ b

theorem lt_of_heap {w : World} {b : Nat} {o : Obj} (h : w.heap[b]? = some o) : b < w.heap.size := (Array.getElem?_eq_some_iff.1 h).1
theorem HA.lt {h : HA} {w : World} (hh : h.holds w) {b : Nat} (hf : h.foot = some b) : b < w.heap.size := by
  cases h with
  | blk c o => simp only [HA.foot, Option.some.injEq] at hf; subst hf; exact lt_of_heap hh
  | row a cap T k vs =>
    simp only [HA.foot] at hf
    split at hf
    · cases hf
    · rcases hh with ⟨h0, _⟩ | ⟨c, cs, rfl, hc, _⟩
      · omega
      · simp only [Option.map_some, Option.some.injEq] at hf; subst hf; exact lt_of_heap hc
theorem HA.keep {h : HA} {w w' : World} (hh : h.holds w) (hk : ∀ b, h.foot = some b → w'.heap[b]? = w.heap[b]?) : h.holds w' := by
  cases h with
  | blk c o => show w'.heap[c]? = some o; rw [hk c rfl]; exact hh
  | row a cap T k vs =>
    rcases hh with hn | ⟨c, cs, rfl, hc, r⟩
    · exact .inl hn
    · by_cases h0 : cap = 0
      · refine .inl ⟨h0, ?_⟩
        have h1 := r.1
        have h2 := r.2.2.1
        subst h0
        simp only [Nat.zero_mul] at h1
        exact List.eq_nil_of_length_eq_zero (by omega)
      · exact .inr ⟨c, cs, rfl, by rw [hk c (by simp [HA.foot, h0])]; exact hc, r⟩

theorem Kept.refl (w : World) : Kept w [] w := ⟨rfl, rfl, rfl, Nat.le_refl _, fun _ _ _ => rfl⟩
theorem Kept.trans {w0 w w' : World} {S M : List Nat} (h : Kept w0 S w) (k : Kept w M w') (hM : ∀ b ∈ M, b ∈ S ∨ w0.heap.size ≤ b) : Kept w0 S w' :=
  ⟨k.os.trans h.os, k.tape.trans h.tape, k.output.trans h.output, Nat.le_trans h.size k.size, fun b hb hS => by
    rw [k.block b (Nat.lt_of_lt_of_le hb h.size) (fun hm => by rcases hM b hm with h1 | h1; exact hS h1; omega)]
    exact h.block b hb hS⟩
theorem Kept.of_below {w w' : World} (h : Below w.heap.size w w') : Kept w [] w' := ⟨h.os, h.tape, h.output, h.size, fun b hb _ => h.block b hb⟩
theorem Kept.below {w w' : World} (h : Kept w [] w') : Below w.heap.size w w' := ⟨h.os, h.tape, h.output, h.size, fun b hb => h.block b hb (by simp)⟩
theorem St.below {w w' : World} {A : List HA} (h : St w [] A w') : Below w.heap.size w w' := h.kept.below
theorem St.start (w : World) : St w [] [] w := ⟨Kept.refl w, fun _ h => (by cases h), List.nodup_nil, fun _ h => (by cases h)⟩

/-- The state is kept by whatever leaves its blocks alone. -/
theorem St.keep {w0 w w' : World} {S M : List Nat} {A : List HA} (h : St w0 S A w) (k : Kept w M w') (hM : ∀ b ∈ M, b ∈ S ∨ w0.heap.size ≤ b)
    (hA : ∀ x ∈ A, ∀ b, x.foot = some b → b ∉ M) : St w0 S A w' :=
  ⟨h.kept.trans k hM, fun x hx => HA.keep (h.holds x hx) fun b hb => k.block b (HA.lt (h.holds x hx) hb) (hA x hx b hb), h.apart, h.mine⟩
theorem St.keep0 {w0 w w' : World} {S : List Nat} {A : List HA} (h : St w0 S A w) (k : Kept w [] w') : St w0 S A w' :=
  h.keep k (by simp) (by simp)
theorem St.drew {w0 w : World} {S : List Nat} {A : List HA} (h : St w0 S A w) : St w0 S A { w with drawn := w.drawn + 1 } :=
  h.keep0 ⟨rfl, rfl, rfl, Nat.le_refl _, fun _ _ _ => rfl⟩
theorem filterMap_perm {α β : Type} {f : α → Option β} {A B : List α} (h : A.Perm B) : (A.filterMap f).Perm (B.filterMap f) := h.filterMap f
theorem St.perm {w0 w : World} {S : List Nat} {A B : List HA} (h : St w0 S A w) (p : A.Perm B) : St w0 S B w :=
  ⟨h.kept, fun x hx => h.holds x (p.mem_iff.2 hx), (p.filterMap HA.foot).nodup_iff.1 h.apart, fun x hx => h.mine x (p.mem_iff.2 hx)⟩
theorem St.tail {w0 w : World} {S : List Nat} {x : HA} {A : List HA} (h : St w0 S (x :: A) w) : St w0 S A w := by
  refine ⟨h.kept, fun y hy => h.holds y (.tail _ hy), ?_, fun y hy => h.mine y (.tail _ hy)⟩
  have := h.apart
  rw [List.filterMap_cons] at this
  split at this
  · exact this
  · exact (List.nodup_cons.1 this).2
/-- One item is taken out. -/
inductive Pick (h : HA) : List HA → List HA → Prop
  | here {B : List HA} : Pick h (h :: B) B
  | there {x : HA} {A B : List HA} : Pick h A B → Pick h (x :: A) (x :: B)
theorem Pick.perm {h : HA} {A B : List HA} (p : Pick h A B) : A.Perm (h :: B) := by
  induction p with
  | here => exact List.Perm.refl _
  | there _ ih => exact (List.Perm.cons _ ih).trans (List.Perm.swap _ _ _)
theorem St.pick {w0 w : World} {S : List Nat} {x : HA} {A B : List HA} (h : St w0 S A w) (p : Pick x A B) : St w0 S (x :: B) w := h.perm p.perm
/-- Some items are forgotten. -/
inductive Part : List HA → List HA → Prop
  | nil {A : List HA} : Part A []
  | cons {x : HA} {A B C : List HA} : Pick x A B → Part B C → Part A (x :: C)
  | free {a : Option Addr} {T : TypeId} {k : Nat} {A C : List HA} : Part A C → Part A (.row a 0 T k [] :: C)
theorem St.cons_of {w0 w : World} {S : List Nat} {x : HA} {B C : List HA} (h : St w0 S (x :: B) w) (hc : St w0 S C w)
    (hsub : ∀ y ∈ C.filterMap HA.foot, y ∈ B.filterMap HA.foot) : St w0 S (x :: C) w := by
  refine ⟨h.kept, fun y hy => ?_, ?_, fun y hy => ?_⟩
  · cases hy with
    | head => exact h.holds x (.head _)
    | tail _ hy => exact hc.holds y hy
  · have := h.apart
    rw [List.filterMap_cons] at this ⊢
    split
    · exact hc.apart
    · rename_i b hb
      rw [hb] at this
      exact List.nodup_cons.2 ⟨fun hm => (List.nodup_cons.1 this).1 (hsub b hm), hc.apart⟩
  · cases hy with
    | head => exact h.mine x (.head _)
    | tail _ hy => exact hc.mine y hy
theorem Part.spec {w0 w : World} {S : List Nat} {A B : List HA} (p : Part A B) (h : St w0 S A w) : St w0 S B w ∧ ∀ y ∈ B.filterMap HA.foot, y ∈ A.filterMap HA.foot := by
  induction p with
  | nil => exact ⟨⟨h.kept, fun _ h => (by cases h), List.nodup_nil, fun _ h => (by cases h)⟩, fun _ h => (by cases h)⟩
  | @cons x A B C hp _ ih =>
    have h1 := h.pick hp
    obtain ⟨h2, h3⟩ := ih h1.tail
    have hm : ∀ y, y ∈ (x :: B).filterMap HA.foot ↔ y ∈ A.filterMap HA.foot := fun y => (hp.perm.filterMap HA.foot).mem_iff.symm
    refine ⟨h1.cons_of h2 h3, fun y hy => (hm y).1 ?_⟩
    rw [List.filterMap_cons] at hy ⊢
    split
    · rename_i hb
      rw [hb] at hy
      exact h3 y hy
    · rename_i b hb
      rw [hb] at hy
      cases hy with
      | head => exact .head _
      | tail _ hy => exact .tail _ (h3 y hy)
  | @free a T k A C _ ih =>
    obtain ⟨h2, h3⟩ := ih h
    have e : (HA.row a 0 T k [] :: C).filterMap HA.foot = C.filterMap HA.foot := by simp [HA.foot]
    refine ⟨⟨h.kept, fun x hx => ?_, by rw [e]; exact h2.apart, fun x hx b hb => ?_⟩, by rw [e]; exact h3⟩
    · cases hx with
      | head => exact .inl ⟨rfl, rfl⟩
      | tail _ hx => exact h2.holds x hx
    · cases hx with
      | head => simp [HA.foot] at hb
      | tail _ hx => exact h2.mine x hx b hb
theorem St.part {w0 w : World} {S : List Nat} {A B : List HA} (h : St w0 S A w) (p : Part A B) : St w0 S B w := (p.spec h).1

/-- The first item's contents are replaced. -/
theorem St.put {w0 w w' : World} {S : List Nat} {x y : HA} {A : List HA} {b : Nat} (h : St w0 S (x :: A) w) (hx : x.foot = some b) (hy : y.foot = some b)
    (k : Kept w [b] w') (hh : y.holds w') : St w0 S (y :: A) w' := by
  have hap := h.apart
  rw [List.filterMap_cons, hx] at hap
  have hnb := (List.nodup_cons.1 hap).1
  have hb := h.mine x (.head _) b hx
  have ht : St w0 S A w' := h.tail.keep k (fun c hc => by simp at hc; subst hc; exact hb) (fun z hz c hc hm => by
    simp at hm; subst hm
    exact hnb (List.mem_filterMap.2 ⟨z, hz, hc⟩))
  refine ⟨ht.kept, fun z hz => ?_, ?_, fun z hz c hc => ?_⟩
  · cases hz with
    | head => exact hh
    | tail _ hz => exact ht.holds z hz
  · rw [List.filterMap_cons, hy]
    exact hap
  · cases hz with
    | head => rw [hy] at hc; obtain rfl := Option.some.inj hc; exact hb
    | tail _ hz => exact ht.mine z hz c hc
/-- A new item whose block is new, or that has none. -/
theorem St.new {w0 w w' : World} {S : List Nat} {y : HA} {A : List HA} (h : St w0 S A w) (k : Kept w [] w') (hh : y.holds w')
    (hf : ∀ b, y.foot = some b → w.heap.size ≤ b) : St w0 S (y :: A) w' := by
  have ht := h.keep0 k
  refine ⟨ht.kept, fun z hz => ?_, ?_, fun z hz c hc => ?_⟩
  · cases hz with
    | head => exact hh
    | tail _ hz => exact ht.holds z hz
  · rw [List.filterMap_cons]
    split
    · exact ht.apart
    · rename_i b hb
      refine List.nodup_cons.2 ⟨fun hm => ?_, ht.apart⟩
      obtain ⟨z, hz, hzb⟩ := List.mem_filterMap.1 hm
      have := HA.lt (h.holds z hz) hzb
      have := hf b hb
      omega
  · cases hz with
    | head => exact .inr (Nat.le_trans h.kept.size (hf c hc))
    | tail _ hz => exact ht.mine z hz c hc
theorem Kept.alloc (w : World) (o : Obj) : Kept w [] { w with heap := w.heap.push o } :=
  ⟨rfl, rfl, rfl, by simp, fun b hb _ => by
    show (w.heap.push o)[b]? = _
    rw [Array.getElem?_push, if_neg (by omega)]⟩
theorem St.alloc {w0 w : World} {S : List Nat} {A : List HA} (h : St w0 S A w) (o : Obj) : St w0 S (.blk w.heap.size o :: A) { w with heap := w.heap.push o } :=
  h.new (Kept.alloc w o) (by show (w.heap.push o)[w.heap.size]? = _; simp) (fun b hb => by simp [HA.foot] at hb; omega)
/-- What a call of a callee leaves: its own items, and ours. -/
theorem St.join {w0 w w' : World} {S S' : List Nat} {A0 A A1 : List HA} (h : St w0 S (A0 ++ A) w) (hS : ∀ b ∈ S', ∃ x ∈ A0, x.foot = some b) (h1 : St w S' A1 w') : St w0 S (A1 ++ A) w' := by
  have hap := h.apart
  rw [List.filterMap_append, List.nodup_append] at hap
  have hmem : ∀ b ∈ S', b ∈ A0.filterMap HA.foot := fun b hb => by
    obtain ⟨x, hx, hf⟩ := hS b hb
    exact List.mem_filterMap.2 ⟨x, hx, hf⟩
  have hok : ∀ b ∈ S', b ∈ S ∨ w0.heap.size ≤ b := fun b hb => by
    obtain ⟨x, hx, hf⟩ := hS b hb
    exact h.mine x (List.mem_append_left _ hx) b hf
  have hA : ∀ x ∈ A, ∀ b, x.foot = some b → b ∉ S' := fun x hx b hb hm => hap.2.2 b (hmem b hm) b (List.mem_filterMap.2 ⟨x, hx, hb⟩) rfl
  refine ⟨h.kept.trans h1.kept hok, fun x hx => ?_, ?_, fun x hx b hb => ?_⟩
  · rcases List.mem_append.1 hx with hx | hx
    · exact h1.holds x hx
    · have hh := h.holds x (List.mem_append_right _ hx)
      exact HA.keep hh fun b hb => h1.kept.block b (HA.lt hh hb) (hA x hx b hb)
  · rw [List.filterMap_append, List.nodup_append]
    refine ⟨h1.apart, hap.2.1, fun b hb c hc e => ?_⟩
    subst e
    obtain ⟨x, hx, hxb⟩ := List.mem_filterMap.1 hb
    obtain ⟨y, hy, hyb⟩ := List.mem_filterMap.1 hc
    rcases h1.mine x hx b hxb with hm | hm
    · exact hA y hy b hyb hm
    · have := HA.lt (h.holds y (List.mem_append_right _ hy)) hyb
      omega
  · rcases List.mem_append.1 hx with hx | hx
    · rcases h1.mine x hx b hb with hm | hm
      · exact hok b hm
      · exact .inr (Nat.le_trans h.kept.size hm)
    · exact h.mine x (List.mem_append_right _ hx) b hb
theorem St.join0 {w0 w w' : World} {S : List Nat} {A A1 : List HA} (h : St w0 S A w) (h1 : St w [] A1 w') : St w0 S (A1 ++ A) w' :=
  St.join (A0 := []) h (by simp) h1

/-! ### What can be read -/
def CellsAt (w : World) (a : Option Addr) (vs : List Value) : Prop :=
  vs = [] ∨ ∃ b off, a = some ⟨b, off, none⟩ ∧ ∀ i v, vs[i]? = some v → w.cell? ⟨b, off + i, none⟩ = some v
theorem CellsAt.nil (w : World) (a : Option Addr) : CellsAt w a [] := .inl rfl
theorem CellsAt.keep {w w' : World} {a : Option Addr} {vs : List Value} (h : CellsAt w a vs) (k : Kept w [] w') : CellsAt w' a vs := by
  rcases h with h | ⟨b, off, rfl, h⟩
  · exact .inl h
  · refine .inr ⟨b, off, rfl, fun i v hv => ?_⟩
    have h1 := h i v hv
    have hlt := World.block_lt_of_cell? w ⟨b, off + i, none⟩ h1
    rw [World.cell?_of_block (w := w) (a := ⟨b, off + i, none⟩) (k.block b hlt (by simp))]
    exact h1
structure Cx where
  P : Program
  n : Nat
  w0 : World
  S : List Nat
/-- In every state of this kind the slice reads so. -/
def Rd (X : Cx) (A : List HA) (a : Option Addr) (vs : List Value) : Prop := ∀ w, St X.w0 X.S A w → CellsAt w a vs
theorem Rd.old {P : Program} {n : Nat} {w0 : World} {A : List HA} {a : Option Addr} {vs : List Value} (h : CellsAt w0 a vs) : Rd ⟨P, n, w0, []⟩ A a vs := fun _ s => h.keep s.kept
theorem Rd.nil {X : Cx} {A : List HA} {a : Option Addr} : Rd X A a [] := fun w _ => CellsAt.nil w a
theorem Rd.row {X : Cx} {A : List HA} {a : Option Addr} {cap : Nat} {T : TypeId} {k : Nat} {vs : List Value} (hm : HA.row a cap T k vs ∈ A) : Rd X A a vs := fun w s => by
  rcases s.holds _ hm with ⟨_, h⟩ | ⟨b, cs, rfl, hc, _, _, hl, ht⟩
  · exact .inl h
  · refine .inr ⟨b, 0, rfl, fun i v hv => ?_⟩
    rw [← ht, List.getElem?_take] at hv
    split at hv
    · simp only [World.cell?, hc, Nat.zero_add]
      simpa using hv
    · cases hv
theorem Rd.blk {X : Cx} {A : List HA} {b off : Nat} {cs : Array Value} {T : TypeId} {fr : Nat × Nat} {vs : List Value} (hm : HA.blk b (.cells cs T fr) ∈ A)
    (hv : ∀ i v, vs[i]? = some v → cs[off + i]? = some v) : Rd X A (some ⟨b, off, none⟩) vs := fun w s => .inr ⟨b, off, rfl, fun i v hi => by
  have hb : w.heap[b]? = some (.cells cs T fr) := s.holds _ hm
  simp only [World.cell?, hb]
  simpa using hv i v hi⟩
/-- The address of an element, of a cut. -/
def el (a : Option Addr) (i : Nat) : Option Addr := a.map (·.add i)
def cutA (a : Option Addr) (lo cap k : Nat) : Option Addr := if cap = lo then a else a.map (·.add (lo * k))
theorem Rd.at_ {X : Cx} {A : List HA} {a : Option Addr} {vs : List Value} (h : Rd X A a vs) {i : Nat} {v : Value} (hv : vs[i]? = some v) {w : World} (s : St X.w0 X.S A w) :
    ∃ ad, el a i = some ad ∧ w.cell? ad = some v := by
  rcases h w s with h2 | ⟨b, off, rfl, h2⟩
  · subst h2; simp at hv
  · exact ⟨⟨b, off + i, none⟩, by simp only [el, Option.map_some, Addr.add]; split <;> simp_all, h2 i v hv⟩
theorem Rd.cut {X : Cx} {A : List HA} {a : Option Addr} {vs : List Value} (h : Rd X A a vs) {lo cap k m : Nat} (hl : vs.length ≤ cap * k) :
    Rd X A (cutA a lo cap k) ((vs.drop (lo * k)).take m) := fun w s => by
  rcases h w s with h2 | ⟨b, off, rfl, h2⟩
  · subst h2; exact .inl (by simp)
  · by_cases hc : cap = lo
    · subst hc
      refine .inl ?_
      rw [List.drop_eq_nil_of_le hl]; simp
    · refine .inr ⟨b, off + lo * k, by simp only [cutA, if_neg hc, Option.map_some, Addr.add]; split <;> simp_all, fun i v hv => ?_⟩
      rw [List.getElem?_take] at hv
      split at hv
      · rw [List.getElem?_drop] at hv
        rw [Nat.add_assoc]
        exact h2 _ v hv
      · cases hv

/-! ### The walk -/
section
variable (X : Cx)
def WL (ops : Array Oper) (Q : Exit → Act → World → Prop) (l : List Oper) (ρ : Env) (A : List HA) : Prop :=
  ∀ a w, Fr X.n ρ a → St X.w0 X.S A w → wpList X.P ops Q l a w
def WC (c : Code) (Q : Exit → Act → World → Prop) (ρ : Env) (A : List HA) : Prop :=
  ∀ a w, Fr X.n ρ a → St X.w0 X.S A w → c.wp X.P Q a w
def WN (Q : Exit → Act → World → Prop) (e : Exit) (ρ : Env) (A : List HA) : Prop :=
  ∀ a w, Fr X.n ρ a → St X.w0 X.S A w → Q e a w
end
section
variable {X : Cx} {ops : Array Oper} {Q : Exit → Act → World → Prop} {ρ ρ' : Env} {A B : List HA}
theorem WL.intro {l : List Oper} (h : ∀ a w, Fr X.n ρ a → St X.w0 X.S A w → wpList X.P ops Q l a w) : WL X ops Q l ρ A := h
theorem WL.elim {l : List Oper} (h : WL X ops Q l ρ A) : ∀ a w, Fr X.n ρ a → St X.w0 X.S A w → wpList X.P ops Q l a w := h
theorem WC.intro {c : Code} (h : ∀ a w, Fr X.n ρ a → St X.w0 X.S A w → c.wp X.P Q a w) : WC X c Q ρ A := h
theorem WC.elim {c : Code} (h : WC X c Q ρ A) : ∀ a w, Fr X.n ρ a → St X.w0 X.S A w → c.wp X.P Q a w := h
theorem WN.intro {e : Exit} (h : ∀ a w, Fr X.n ρ a → St X.w0 X.S A w → Q e a w) : WN X Q e ρ A := h
theorem WN.elim {e : Exit} (h : WN X Q e ρ A) : ∀ a w, Fr X.n ρ a → St X.w0 X.S A w → Q e a w := h
theorem WC.seq {x y : Code} (h : WC X x (Exit.then (y.wp X.P Q) Q) ρ A) : WC X (.seq x y) Q ρ A := fun a w f s => wp_seq (h a w f s)
theorem WC.region {id : Nat} {l : List Oper} (h : WL X l.toArray Q l ρ A) : WC X (.region id l.toArray false) Q ρ A := fun a w f s => wp_region_lit (h a w f s)
theorem WC.cond {c : Operand} {x y : Code} {b : Bool} (hc : ev ρ c = some (.bool b)) (ht : b = true → WC X x Q ρ A) (hf : b = false → WC X y Q ρ A) : WC X (.cond c x y) Q ρ A :=
  fun a w f s => wp_cond_split (t := b) (f.ev hc) (fun h => ht h a w f s) (fun h => hf h a w f s)
theorem WC.cond_true {c : Operand} {x y : Code} {b : Bool} (hc : ev ρ c = some (.bool b)) (hb : b = true) (ht : WC X x Q ρ A) : WC X (.cond c x y) Q ρ A :=
  WC.cond hc (fun _ => ht) (fun h => by rw [hb] at h; cases h)
theorem WC.cond_false {c : Operand} {x y : Code} {b : Bool} (hc : ev ρ c = some (.bool b)) (hb : b = false) (hf : WC X y Q ρ A) : WC X (.cond c x y) Q ρ A :=
  WC.cond hc (fun h => by rw [hb] at h; cases h) (fun _ => hf)
theorem WC.ite {c : Operand} {x y : Code} {p : Prop} [Decidable p] (hc : ev ρ c = some (.bool (decide p))) (ht : p → WC X x Q ρ A) (hf : ¬ p → WC X y Q ρ A) : WC X (.cond c x y) Q ρ A :=
  WC.cond hc (fun h => ht (of_decide_eq_true h)) (fun h => hf (of_decide_eq_false h))
theorem WC.ite_true {c : Operand} {x y : Code} {p : Prop} [Decidable p] (hc : ev ρ c = some (.bool (decide p))) (hp : p) (ht : WC X x Q ρ A) : WC X (.cond c x y) Q ρ A :=
  WC.ite hc (fun _ => ht) (fun h => absurd hp h)
theorem WC.ite_false {c : Operand} {x y : Code} {p : Prop} [Decidable p] (hc : ev ρ c = some (.bool (decide p))) (hp : ¬ p) (hf : WC X y Q ρ A) : WC X (.cond c x y) Q ρ A :=
  WC.ite hc (fun h => absurd h hp) (fun _ => hf)
theorem WC.label {l : Nat} (h : WN X Q .normal ρ A) : WC X (.label l) Q ρ A := fun a w f s => wp_label (h a w f s)
theorem WC.block {id : Nat} {c : Code} (h : WC X c (Exit.inBlock id Q) ρ A) : WC X (.block id c) Q ρ A := fun a w f s => wp_block (h a w f s)
theorem WC.skip (h : WN X Q .normal ρ A) : WC X .skip Q ρ A := fun a w f s => wp_skip (h a w f s)
theorem WC.exit {id : Nat} (h : WN X Q (.exit id) ρ A) : WC X (.exit id) Q ρ A := fun a w f s => wp_exit (h a w f s)
theorem WC.ret (h : WN X Q .ret ρ A) : WC X .ret Q ρ A := fun a w f s => wp_ret (h a w f s)
theorem WC.scope {c : Code} (h : WC X c (Exit.noGoto Q) ρ A) : WC X (.scope c) Q ρ A := fun a w f s => wp_scope_straight (h a w f s)
theorem WN.then_normal {y : Code} (h : WC X y Q ρ A) : WN X (Exit.then (y.wp X.P Q) Q) .normal ρ A := h
theorem WN.then_exit {K : Act → World → Prop} {id : Nat} (h : WN X Q (.exit id) ρ A) : WN X (Exit.then K Q) (.exit id) ρ A := h
theorem WN.then_ret {K : Act → World → Prop} (h : WN X Q .ret ρ A) : WN X (Exit.then K Q) .ret ρ A := h
theorem WN.block_normal {id : Nat} (h : WN X Q .normal ρ A) : WN X (Exit.inBlock id Q) .normal ρ A := h
theorem WN.block_ret {id : Nat} (h : WN X Q .ret ρ A) : WN X (Exit.inBlock id Q) .ret ρ A := h
theorem WN.block_here {id : Nat} (h : WN X Q .normal ρ A) : WN X (Exit.inBlock id Q) (.exit id) ρ A := fun a w f s => by
  show (if id = id then Q .normal a w else _)
  rw [if_pos rfl]; exact h a w f s
theorem WN.block_past {id id' : Nat} (hne : id' ≠ id) (h : WN X Q (.exit id') ρ A) : WN X (Exit.inBlock id Q) (.exit id') ρ A := fun a w f s => by
  show (if id' = id then _ else Q (.exit id') a w)
  rw [if_neg hne]; exact h a w f s
theorem WN.scope_normal (h : WN X Q .normal ρ A) : WN X (Exit.noGoto Q) .normal ρ A := h
theorem WN.scope_ret (h : WN X Q .ret ρ A) : WN X (Exit.noGoto Q) .ret ρ A := h
theorem WN.scope_exit {id : Nat} (h : WN X Q (.exit id) ρ A) : WN X (Exit.noGoto Q) (.exit id) ρ A := h
theorem WL.nil (h : WN X Q .normal ρ A) : WL X ops Q [] ρ A := fun a w f s => wpList_nil (h a w f s)
/-- The state is weakened. -/
theorem WC.weak {c : Code} (hs : Sub ρ ρ') (hp : Part A B) (h : WC X c Q ρ' B) : WC X c Q ρ A := fun a w f s => h a w (f.of_sub hs) (s.part hp)
/-- A loop: what holds at its head for some ghost i; each round hands on a j of a smaller measure. -/
def Next {α : Type} (X : Cx) (E : α → Env) (B : α → List HA) (H : α → Prop) (μ : α → Nat) (i : α) (a : Act) (w : World) : Prop :=
  ∃ j, H j ∧ μ j < μ i ∧ Fr X.n (E j) a ∧ St X.w0 X.S (B j) w
theorem WC.loop {α : Type} (E : α → Env) (B : α → List HA) (H : α → Prop) (μ : α → Nat) (i₀ : α) {c : Code} (hs : Sub ρ (E i₀)) (hp : Part A (B i₀)) (h0 : H i₀)
    (round : ∀ i, H i → WC X c (Exit.then (Next X E B H μ i) Q) (E i) (B i)) : WC X (.loop c) Q ρ A := fun a w f s =>
  wp_loop_ghost (fun n a w => ∃ i, μ i = n ∧ H i ∧ Fr X.n (E i) a ∧ St X.w0 X.S (B i) w) (μ i₀) ⟨i₀, rfl, h0, f.of_sub hs, s.part hp⟩
    fun n a w ⟨i, hn, hi, f, s⟩ => wp_mono (round i hi a w f s) fun e a' w' hq => by
      cases e with
      | normal => obtain ⟨j, hj, hlt, f', s'⟩ := hq; exact ⟨μ j, by omega, j, rfl, hj, f', s'⟩
      | exit id => exact hq
      | goto l => exact hq
      | ret => exact hq
      | panic ch => exact hq
      | outgrown => exact hq
theorem WN.next {α : Type} {E : α → Env} {B' : α → List HA} {H : α → Prop} {μ : α → Nat} {i : α} (j : α) (hj : H j) (hm : μ j < μ i) (hs : Sub ρ (E j)) (hp : Part A (B' j)) :
    WN X (Exit.then (Next X E B' H μ i) Q) .normal ρ A := fun _ _ f s => ⟨j, hj, hm, f.of_sub hs, s.part hp⟩
end

/-! ### Which operation stands next (to try only what can fit) -/
section
variable {X : Cx} {ops : Array Oper} {Q : Exit → Act → World → Prop} {ρ : Env} {A : List HA} {rest : List Oper} {dd : Option Tmp} {op : Op} {ty : TypeId} {ps : String} {af : Array Edge} {g : Option (Nat × Bool)}
theorem WL.kG {j : Nat × Bool} (h : WL X ops Q (⟨dd, op, ty, ps, af, some j⟩ :: rest) ρ A) : WL X ops Q (⟨dd, op, ty, ps, af, some j⟩ :: rest) ρ A := h
theorem WL.k_move {x : Operand} (h : WL X ops Q (⟨dd, .move x, ty, ps, af, g⟩ :: rest) ρ A) : WL X ops Q (⟨dd, .move x, ty, ps, af, g⟩ :: rest) ρ A := h
theorem WL.k_assign {x : Operand} (h : WL X ops Q (⟨dd, .assign x, ty, ps, af, g⟩ :: rest) ρ A) : WL X ops Q (⟨dd, .assign x, ty, ps, af, g⟩ :: rest) ρ A := h
theorem WL.k_extract {x : Operand} {i : Nat} (h : WL X ops Q (⟨dd, .extract x i, ty, ps, af, g⟩ :: rest) ρ A) : WL X ops Q (⟨dd, .extract x i, ty, ps, af, g⟩ :: rest) ρ A := h
theorem WL.k_pick {c x y : Operand} (h : WL X ops Q (⟨dd, .pick c x y, ty, ps, af, g⟩ :: rest) ρ A) : WL X ops Q (⟨dd, .pick c x y, ty, ps, af, g⟩ :: rest) ρ A := h
theorem WL.k_unop {o : UnOp} {t : TypeId} {x : Operand} (h : WL X ops Q (⟨dd, .unOp o t x, ty, ps, af, g⟩ :: rest) ρ A) : WL X ops Q (⟨dd, .unOp o t x, ty, ps, af, g⟩ :: rest) ρ A := h
theorem WL.k_conv {s t : TypeId} {x : Operand} (h : WL X ops Q (⟨dd, .convert s t x, ty, ps, af, g⟩ :: rest) ρ A) : WL X ops Q (⟨dd, .convert s t x, ty, ps, af, g⟩ :: rest) ρ A := h
theorem WL.k_idxa {t : TypeId} {x y : Operand} (h : WL X ops Q (⟨dd, .indexAddr t x y, ty, ps, af, g⟩ :: rest) ρ A) : WL X ops Q (⟨dd, .indexAddr t x y, ty, ps, af, g⟩ :: rest) ρ A := h
theorem WL.k_load {t : TypeId} {x : Operand} (h : WL X ops Q (⟨dd, .load t x, ty, ps, af, g⟩ :: rest) ρ A) : WL X ops Q (⟨dd, .load t x, ty, ps, af, g⟩ :: rest) ρ A := h
theorem WL.k_store {t : TypeId} {x y : Operand} (h : WL X ops Q (⟨dd, .store t x y, ty, ps, af, g⟩ :: rest) ρ A) : WL X ops Q (⟨dd, .store t x y, ty, ps, af, g⟩ :: rest) ρ A := h
theorem WL.k_slice {t : TypeId} {x : Operand} {l u m : Option Operand} (h : WL X ops Q (⟨dd, .slice t x l u m, ty, ps, af, g⟩ :: rest) ρ A) : WL X ops Q (⟨dd, .slice t x l u m, ty, ps, af, g⟩ :: rest) ρ A := h
theorem WL.k_fld {t : TypeId} {x : Operand} {i : Nat} (h : WL X ops Q (⟨dd, .fieldAddr t x i, ty, ps, af, g⟩ :: rest) ρ A) : WL X ops Q (⟨dd, .fieldAddr t x i, ty, ps, af, g⟩ :: rest) ρ A := h
theorem WL.k_index {t : TypeId} {x y : Operand} (h : WL X ops Q (⟨dd, .index t x y, ty, ps, af, g⟩ :: rest) ρ A) : WL X ops Q (⟨dd, .index t x y, ty, ps, af, g⟩ :: rest) ρ A := h
theorem WL.k_build {t : TypeId} {l : Array (Nat × Operand)} (h : WL X ops Q (⟨dd, .build t l, ty, ps, af, g⟩ :: rest) ρ A) : WL X ops Q (⟨dd, .build t l, ty, ps, af, g⟩ :: rest) ρ A := h
theorem WL.k_lit {t : TypeId} {n : Nat} {l : Array (Nat × Operand)} (h : WL X ops Q (⟨dd, .buildSlice t n l, ty, ps, af, g⟩ :: rest) ρ A) : WL X ops Q (⟨dd, .buildSlice t n l, ty, ps, af, g⟩ :: rest) ρ A := h
theorem WL.k_make {t : TypeId} {x y : Operand} (h : WL X ops Q (⟨dd, .makeSlice t x y, ty, ps, af, g⟩ :: rest) ρ A) : WL X ops Q (⟨dd, .makeSlice t x y, ty, ps, af, g⟩ :: rest) ρ A := h
theorem WL.k_alloc {t : TypeId} (h : WL X ops Q (⟨dd, .alloc t, ty, ps, af, g⟩ :: rest) ρ A) : WL X ops Q (⟨dd, .alloc t, ty, ps, af, g⟩ :: rest) ρ A := h
theorem WL.k_box {t : TypeId} {x : Operand} (h : WL X ops Q (⟨dd, .box t x, ty, ps, af, g⟩ :: rest) ρ A) : WL X ops Q (⟨dd, .box t x, ty, ps, af, g⟩ :: rest) ρ A := h
theorem WL.k_func {f : Fn} {l k : Array Operand} (h : WL X ops Q (⟨dd, .makeFunc f l k, ty, ps, af, g⟩ :: rest) ρ A) : WL X ops Q (⟨dd, .makeFunc f l k, ty, ps, af, g⟩ :: rest) ρ A := h
theorem WL.k_nilc {x : Operand} (h : WL X ops Q (⟨dd, .nilCheck x, ty, ps, af, g⟩ :: rest) ρ A) : WL X ops Q (⟨dd, .nilCheck x, ty, ps, af, g⟩ :: rest) ρ A := h
theorem WL.k_s2a {t : TypeId} {x : Operand} (h : WL X ops Q (⟨dd, .sliceToArrayPointer t x, ty, ps, af, g⟩ :: rest) ρ A) : WL X ops Q (⟨dd, .sliceToArrayPointer t x, ty, ps, af, g⟩ :: rest) ρ A := h
theorem WL.k_bin (o : BinOp) {t u : TypeId} {x y : Operand} (h : WL X ops Q (⟨dd, .binOp o t x y u, ty, ps, af, g⟩ :: rest) ρ A) : WL X ops Q (⟨dd, .binOp o t x y u, ty, ps, af, g⟩ :: rest) ρ A := h
theorem WL.k_call (f : FuncId) {xs ts} (h : WL X ops Q (⟨dd, .call { callee := .value (.func f), args := xs, argTypes := ts }, ty, ps, af, g⟩ :: rest) ρ A) : WL X ops Q (⟨dd, .call { callee := .value (.func f), args := xs, argTypes := ts }, ty, ps, af, g⟩ :: rest) ρ A := h
theorem WL.k_callt {t : Nat} {xs ts} (h : WL X ops Q (⟨dd, .call { callee := .value (.tmp t), args := xs, argTypes := ts }, ty, ps, af, g⟩ :: rest) ρ A) : WL X ops Q (⟨dd, .call { callee := .value (.tmp t), args := xs, argTypes := ts }, ty, ps, af, g⟩ :: rest) ρ A := h
theorem WL.k_bi (f : Builtin) {xs ts} (h : WL X ops Q (⟨dd, .call { callee := .builtin f, args := xs, argTypes := ts }, ty, ps, af, g⟩ :: rest) ρ A) : WL X ops Q (⟨dd, .call { callee := .builtin f, args := xs, argTypes := ts }, ty, ps, af, g⟩ :: rest) ρ A := h
end
end Go.Proofs.YtmmpngigaodcgaaGreat
