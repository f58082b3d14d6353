/- All that is known, and the bank, over many turns. -/
import Derived.Test.YtjijjohhmokmmaaKno3
import Derived.Test.YtjijjohhmokmmaaKno4
namespace Go.Proofs.Ytjijjohhmokmmaa
set_option linter.unusedVariables false
set_option linter.unusedSimpArgs false
open Go Go.RowKit
set_option maxRecDepth 100000
structure KS where
  os : List Sl
  fs : List Sl
  d : List (List UInt8)
  F : Nat → Option (List UInt8)
  M : List (Nat × List UInt8 × Nat)
  c : Nat
  Z : List HA
structure KS.Ok (s : KS) (p : KP) : Prop where
  k : KnOk s.os s.fs s.d s.F
  wf : BkWf s.d s.F
  cap : s.d.length ≤ p.cap
  m : MapIs s.d.length s.F s.M s.c
  z : ∀ x ∈ s.os ++ s.fs, InF s.Z x
def KS.items (s : KS) (p : KP) : List HA := kAll p s.os s.fs s.d s.M s.c
theorem InF.le {Z : List HA} {s : Sl} (h : InF Z s) : s.l.length ≤ s.c := by
  rcases h with h | h
  · rw [h]; exact Nat.zero_le _
  · exact h.1
theorem KS.Ok.outs {s : KS} {p : KP} (h : s.Ok p) {w0 w : World} {S : List Nat} {A A0 B : List HA} (st : St w0 S A w) (hp : A.Perm (A0 ++ B)) (hz : ∀ x ∈ s.Z, x ∈ B) : ∀ x ∈ s.os ++ s.fs, OutF w (A0.filterMap HA.foot) x :=
  fun x hx => ⟨(h.z x hx).le, ((h.z x hx).mono hz).out st hp⟩
/-- After one more turn. -/
theorem KS.Ok.next {s : KS} {p : KP} (h : s.Ok p) {t : Turn} {os' fs' : List Sl} {M' : List (Nat × List UInt8 × Nat)} {c' : Nat} {Z' : List HA}
    (hk : KnOk os' fs' (doT t (s.d, s.F)).1 (doT t (s.d, s.F)).2) (hw : BkWf (doT t (s.d, s.F)).1 (doT t (s.d, s.F)).2) (hl : (doT t (s.d, s.F)).1.length = s.d.length) (hM : MapIs s.d.length (doT t (s.d, s.F)).2 M' c') (hin : ∀ x ∈ os' ++ fs', x ∈ s.os ++ s.fs ∨ InF Z' x) :
    (⟨os', fs', (doT t (s.d, s.F)).1, (doT t (s.d, s.F)).2, M', c', Z' ++ s.Z⟩ : KS).Ok p :=
  ⟨hk, hw, by simp only [hl]; exact h.cap, by simp only [hl]; exact hM, fun x hx => by
    rcases hin x hx with h1 | h1
    · exact (h.z x h1).mono fun y hy => List.mem_append_right _ hy
    · exact h1.mono fun y hy => List.mem_append_left _ hy⟩
theorem KS.mem {s : KS} {p : KP} {Y : List HA} {x : HA} (h : x ∈ s.items p) : x ∈ s.items p ++ Y := List.mem_append_left _ h
theorem KS.Ok.known {s : KS} {p : KP} (h : s.Ok p) {w0 w : World} {S : List Nat} {A : List HA} (st : St w0 S A w) (hi : ∀ x ∈ s.items p, x ∈ A) (hz : ∀ x ∈ s.Z, x ∈ A) : KnAt w p.bK p.ao p.co p.af p.cf s.os s.fs (bptr p.bk) :=
  KnAt.of (hi _ (by simp [KS.items, kAll, knI])) (hi _ (by simp [KS.items, kAll, knI])) (hi _ (by simp [KS.items, kAll, knI])) hz h.z st
theorem KS.Ok.bank {s : KS} {p : KP} (h : s.Ok p) {w0 w : World} {S : List Nat} {A : List HA} (st : St w0 S A w) (hi : ∀ x ∈ s.items p, x ∈ A) : BankAt w p.bk p.da p.cap p.mb s.d s.F :=
  BankAt.of h.wf h.cap h.m (hi _ (by simp [KS.items, kAll, bankItems])) (hi _ (by simp [KS.items, kAll, bankItems])) (hi _ (by simp [KS.items, kAll, bankItems])) st
def runT : List Turn → BSt → BSt
  | [], s => s
  | t :: l, s => runT l (doT t s)
theorem runT_snoc (t : Turn) : ∀ (l : List Turn) (s : BSt), runT (l ++ [t]) s = doT t (runT l s)
  | [], _ => rfl
  | _ :: l, s => runT_snoc t l (doT _ s)
theorem turn_at {S : List Turn} {i : Nat} {t : Turn} (h : S[i]? = some t) : ((S.flatMap Turn.cs).drop (i * 4)).take t.cs.length = t.cs := by
  rw [Turn.len]; exact chunk (fun y _ => rfl) h
theorem turn_ne {S : List Turn} {i : Nat} {t : Turn} (h : S[i]? = some t) : S.flatMap Turn.cs ≠ [] := ne_nil_of (i := i * 4 + 0) (by rw [chunk_get (fun y _ => Turn.len y) h (by decide)]; rfl)
end Go.Proofs.Ytjijjohhmokmmaa
