/- The plain law of nodes: keys, their order, valid nodes, pages, what bytes are decoded to, places and halves. No Go in it. -/
import Derived.Test.YtbfhdggfdhlkfaaBigVal
namespace Go.Proofs.Ytbfhdggfdhlkfaa
set_option linter.unusedVariables false
set_option linter.unusedSimpArgs false
theorem Big.cmpL_self : ∀ l : List UInt8, Big.cmpL l l = 0
  | [] => rfl
  | c :: l => by
    have := Big.cmpL_drop (c :: l) (c :: l) 0 (by simp) (by simp)
    simp only [List.drop_zero] at this
    rw [this, if_neg (by omega), if_neg (by omega)]
    simpa using Big.cmpL_self l
namespace Nod
structure K where
  n : Nat
  d : List UInt8
deriving DecidableEq
instance : Inhabited K := ⟨⟨0, List.replicate 32 0⟩⟩
structure N where
  leaf : Bool
  ks : List K
  vs : List (List UInt8)
  cs : List Int
deriving DecidableEq
def K.Wf (k : K) : Prop := k.n < 18446744073709551616 ∧ k.d.length = 32
structure N.Wf (x : N) : Prop where
  ks : ∀ k ∈ x.ks, k.Wf
  vs : ∀ v ∈ x.vs, v.length = 20
  cs : ∀ c ∈ x.cs, -9223372036854775808 ≤ c ∧ c ≤ 9223372036854775807
  kl : x.ks.length ≤ 1000
  vl : x.vs.length ≤ 1000
  cl : x.cs.length ≤ 1000
def cmp (a b : K) : Int := if a.n < b.n then -1 else if b.n < a.n then 1 else Big.cmpL a.d b.d
theorem cmp_self (a : K) : cmp a a = 0 := by unfold cmp; rw [if_neg (by omega), if_neg (by omega), Big.cmpL_self]
def key (l : List K) (i : Nat) : K := l.getD i default
/-- The keys ascend. -/
def Asc (l : List K) : Prop := ∀ i, i + 1 < l.length → cmp (key l i) (key l (i + 1)) < 0
def kidOk (c : Int) : Prop := 1 ≤ c ∧ c ≤ 4096
instance (c : Int) : Decidable (kidOk c) := by unfold kidOk; infer_instance
instance (l : List K) : Decidable (Asc l) := decidable_of_iff (∀ i, i < l.length - 1 → cmp (key l i) (key l (i + 1)) < 0) ⟨fun h i hi => h i (by omega), fun h i hi => h i (by omega)⟩
def Formed (x : N) : Prop := Asc x.ks ∧ if x.leaf then x.vs.length = x.ks.length ∧ x.cs.length = 0 else (∀ c ∈ x.cs, kidOk c) ∧ x.cs.length = x.ks.length + 1 ∧ x.vs.length = 0
instance (x : N) : Decidable (Formed x) := by unfold Formed; infer_instance
def most (leaf : Bool) : Nat := if leaf then 8 else 11
def Ok (x : N) : Prop := Formed x ∧ x.ks.length ≤ most x.leaf ∧ (x.leaf = false → x.ks.length ≠ 0)
instance (x : N) : Decidable (Ok x) := by unfold Ok; infer_instance
def err (x : N) : Nat := if Ok x then 0 else 2
def keyb (k : K) : List UInt8 := Big.be 8 k.n ++ k.d
def first (leaf : Bool) : UInt8 := if leaf then 0 else 1
def body (x : N) : List UInt8 := [first x.leaf] ++ Big.be 2 x.ks.length ++ x.ks.flatMap keyb ++ x.vs.flatten ++ x.cs.flatMap fun c => Big.be 4 c.toNat
def page (x : N) : List UInt8 := body x ++ List.replicate (512 - (body x).length) 0
theorem flatMap_len {α : Type} {f : α → List UInt8} {k : Nat} : ∀ {l : List α}, (∀ x ∈ l, (f x).length = k) → (l.flatMap f).length = l.length * k
  | [], _ => by simp
  | x :: l, h => by
    rw [List.flatMap_cons, List.length_append, h x (.head _), flatMap_len (fun y hy => h y (.tail _ hy)), List.length_cons, Nat.add_mul]; omega
theorem keyb_len {k : K} (h : k.Wf) : (keyb k).length = 40 := by rw [keyb, List.length_append, Big.be_length, h.2]
theorem flatten_len {k : Nat} {l : List (List UInt8)} (h : ∀ x ∈ l, x.length = k) : l.flatten.length = l.length * k := by
  rw [← List.flatMap_id, flatMap_len (f := id) h]
theorem body_len {x : N} (h : x.Wf) : (body x).length = 3 + x.ks.length * 40 + x.vs.length * 20 + x.cs.length * 4 := by
  simp only [body, List.length_append, Big.be_length, List.length_singleton]
  rw [flatMap_len (fun k hk => keyb_len (h.ks k hk)), flatten_len h.vs, flatMap_len (k := 4) (fun c _ => Big.be_length _ _)]
theorem body_le {x : N} (h : x.Wf) (ho : Ok x) : (body x).length ≤ 512 := by
  rw [body_len h]
  obtain ⟨⟨_, h1⟩, h2, _⟩ := ho
  unfold most at h2
  split at h1 <;> simp_all <;> omega
theorem page_len {x : N} (h : x.Wf) (ho : Ok x) : (page x).length = 512 := by
  have := body_le h ho
  rw [page, List.length_append, List.length_replicate]; omega
/-- What a page is read as. -/
def count (b : List UInt8) : Nat := Big.val 0 ((b.drop 1).take 2)
def readKey (b : List UInt8) (at_ : Nat) : K := ⟨Big.val 0 ((b.drop at_).take 8), (b.drop (at_ + 8)).take 32⟩
def readKeys (b : List UInt8) (at_ k : Nat) : List K := (List.range k).map fun i => readKey b (at_ + i * 40)
def readVals (b : List UInt8) (at_ k : Nat) : List (List UInt8) := (List.range k).map fun i => (b.drop (at_ + i * 20)).take 20
def readKids (b : List UInt8) (at_ k : Nat) : List Int := (List.range k).map fun i => ((Big.val 0 ((b.drop (at_ + i * 4)).take 4) : Nat) : Int)
def raw (b : List UInt8) : N :=
  if (b.getD 0 0).toNat = 0 then ⟨true, readKeys b 3 (count b), readVals b (3 + count b * 40) (count b), []⟩
  else ⟨false, readKeys b 3 (count b), [], readKids b (3 + count b * 40) (count b + 1)⟩
def zero : N := ⟨false, [], [], []⟩
def Good (b : List UInt8) : Prop := b.length = 512 ∧ (b.getD 0 0).toNat ≤ 1 ∧ count b ≤ most (decide ((b.getD 0 0).toNat = 0)) ∧ Ok (raw b) ∧ page (raw b) = b
instance (b : List UInt8) : Decidable (Good b) := by unfold Good; infer_instance
def dec (b : List UInt8) : N := if Good b then raw b else zero
def decE (b : List UInt8) : Nat := if Good b then 0 else 8
/-- Where a key is. -/
def place (l : List K) (k : K) : Nat := l.findIdx fun x => decide (0 ≤ cmp x k)
def isAt (l : List K) (k : K) : Bool := decide (place l k < l.length ∧ key l (place l k) = k)
/-- Halves. -/
def Full (x : N) : Prop := Formed x ∧ x.ks.length = most x.leaf + 1
instance (x : N) : Decidable (Full x) := by unfold Full; infer_instance
def low (x : N) : N := if x.leaf then ⟨true, x.ks.take 4, x.vs.take 4, []⟩ else ⟨false, x.ks.take 6, [], x.cs.take 7⟩
def high (x : N) : N := if x.leaf then ⟨true, x.ks.drop 4, x.vs.drop 4, []⟩ else ⟨false, x.ks.drop 7, [], x.cs.drop 7⟩
def mid (x : N) : K := if x.leaf then key x.ks 4 else key x.ks 6
end Nod
end Go.Proofs.Ytbfhdggfdhlkfaa
