/- Rows of steps: what lies in memory, and which rows are few. -/
import Derived.Test.YtmmpngigaodcgaaBnk8
namespace Go.Proofs.Ytmmpngigaodcgaa
set_option linter.unusedVariables false
set_option linter.unusedSimpArgs false
open Go Go.RowKit
set_option maxRecDepth 100000
set_option maxHeartbeats 8000000
section
variable {α β : Type} {f : α → List β} {k : Nat}
theorem chunk : ∀ {l : List α} {i : Nat} {x : α}, (∀ y ∈ l, (f y).length = k) → l[i]? = some x → ((l.flatMap f).drop (i * k)).take k = f x := by
  intro l
  induction l with
  | nil => intro i x _ h; simp at h
  | cons y l ih =>
    intro i x hk h
    have hy := hk y (by simp)
    rw [List.flatMap_cons]
    cases i with
    | zero =>
      simp only [List.getElem?_cons_zero, Option.some.injEq] at h
      subst h
      rw [Nat.zero_mul, List.drop_zero, List.take_append_of_le_length (by omega), List.take_of_length_le (by omega)]
    | succ i =>
      rw [List.getElem?_cons_succ] at h
      rw [show (i + 1) * k = (f y).length + i * k by rw [hy, Nat.succ_mul]; omega, List.drop_length_add_append]
      exact ih (fun z hz => hk z (by simp [hz])) h
theorem chunk_get {l : List α} {i j : Nat} {x : α} (hk : ∀ y ∈ l, (f y).length = k) (h : l[i]? = some x) (hj : j < k) : (l.flatMap f)[i * k + j]? = (f x)[j]? := by
  rw [← chunk hk h, List.getElem?_take, if_pos hj, List.getElem?_drop]
theorem flat_len : ∀ {l : List α}, (∀ x ∈ l, (f x).length = k) → (l.flatMap f).length = l.length * k := by
  intro l
  induction l with
  | nil => intro _; simp
  | cons y l ih => intro h; rw [List.flatMap_cons, List.length_append, ih (fun z hz => h z (by simp [hz])), h y (by simp), List.length_cons, Nat.succ_mul]; omega
end
structure Step where
  act : Int
  sec : Int
  a : Option Addr
  n : Nat
  c : Nat
  l : List UInt8
  a2 : Option Addr
  n2 : Nat
  c2 : Nat
  K : List Int
def Step.cs (s : Step) : List Value := [.int .i64 s.act, .int .i64 s.sec, .slice s.a s.n s.c, .slice s.a2 s.n2 s.c2]
structure Step.Ok (s : Step) (w : World) : Prop where
  hl : s.l.length = s.n
  hc : s.n ≤ s.c
  hm : s.c ≤ 9223372036854775807
  hr : CellsAt w s.a (bs s.l)
  hl2 : s.K.length = s.n2
  hc2 : s.n2 ≤ s.c2
  hm2 : s.c2 ≤ 9223372036854775807
  hr2 : CellsAt w s.a2 (zcells s.K)
theorem Step.Ok.keep {s : Step} {w w' : World} (h : s.Ok w) (k : Kept w [] w') : s.Ok w' := ⟨h.hl, h.hc, h.hm, h.hr.keep k, h.hl2, h.hc2, h.hm2, h.hr2.keep k⟩
theorem Step.len (s : Step) : s.cs.length = 4 := rfl
def fewOk (S : List Step) (m : Int) : Prop := (S.length : Int) ≤ m ∧ ∀ s ∈ S, s.n ≤ 200 ∧ s.n2 ≤ 20
instance (S : List Step) (m : Int) : Decidable (fewOk S m) := inferInstanceAs (Decidable (_ ∧ _))
attribute [local irreducible] WL WC WN Yl WH WQ WT WE WU WG
end Go.Proofs.Ytmmpngigaodcgaa
