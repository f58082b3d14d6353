/- A bank and the document's, step by step: what is known of both. -/
import Derived.Test.YtjijjohhmokmmaaRef8
import Derived.Test.YtjijjohhmokmmaaPrm
namespace Go.Proofs.Ytjijjohhmokmmaa
set_option linter.unusedVariables false
set_option linter.unusedSimpArgs false
open Go Go.RowKit
set_option maxRecDepth 100000
set_option maxHeartbeats 8000000
structure PA where
  bk : Nat
  da : Option Addr
  cap : Nat
  mb : Nat
  p : RP
structure PS where
  os : List Sl
  fs : List Sl
  Is : List Bool
  d : List (List UInt8)
  F : Nat → Option (List UInt8)
  M : List (Nat × List UInt8 × Nat)
  c : Nat
  Z : List HA
structure PI where
  q : PA
  s : PS
  i : Nat
def PS.bI (s : PS) (q : PA) : List HA := bankItems q.bk q.da q.cap q.mb s.d s.M s.c
def PS.rI (s : PS) (q : PA) : List HA := rbI q.p s.os s.fs s.Is
structure PS.Ok (s : PS) (q : PA) : Prop where
  wf : BkWf s.d s.F
  cap : s.d.length ≤ q.cap
  m : MapIs s.d.length s.F s.M s.c
  ok : RbOk s.os s.fs s.Is s.d s.F
  z : ∀ x ∈ s.os ++ s.fs, InF s.Z x
theorem PS.Ok.outs {s : PS} {q : PA} (h : s.Ok q) {w0 w : World} {S : List Nat} {A A0 B : List HA} (st : St w0 S A w) (hp : A.Perm (A0 ++ B)) (hz : ∀ x ∈ s.Z, x ∈ B) : ∀ x ∈ s.os ++ s.fs, OutF w (A0.filterMap HA.foot) x :=
  fun x hx => ⟨(h.z x hx).le, ((h.z x hx).mono hz).out st hp⟩
theorem PS.Ok.bank {s : PS} {q : PA} (h : s.Ok q) {w0 w : World} {S : List Nat} {A : List HA} (st : St w0 S A w) (hi : ∀ x ∈ s.bI q, x ∈ A) : BankAt w q.bk q.da q.cap q.mb s.d s.F :=
  BankAt.of h.wf h.cap h.m (hi _ (by simp [PS.bI, bankItems])) (hi _ (by simp [PS.bI, bankItems])) (hi _ (by simp [PS.bI, bankItems])) st
theorem PS.Ok.rb {s : PS} {q : PA} (h : s.Ok q) {w0 w : World} {S : List Nat} {A : List HA} (st : St w0 S A w) (hi : ∀ x ∈ s.rI q, x ∈ A) (hz : ∀ x ∈ s.Z, x ∈ A) : RbAt w q.p s.os s.fs s.Is s.d s.F :=
  RbAt.of h.ok h.wf hi hz h.z st
theorem PS.Ok.next {s : PS} {q : PA} (h : s.Ok q) {d' : List (List UInt8)} {F' : Nat → Option (List UInt8)} {os' fs' : List Sl} {Is' : List Bool} {M' : List (Nat × List UInt8 × Nat)} {c' : Nat} {Z' : List HA}
    (hw : BkWf d' F') (hl : d'.length = s.d.length) (hM : MapIs d'.length F' M' c') (hk : RbOk os' fs' Is' d' F') (hin : ∀ x ∈ os' ++ fs', x ∈ s.os ++ s.fs ∨ InF Z' x) :
    (⟨os', fs', Is', d', F', M', c', Z' ++ s.Z⟩ : PS).Ok q :=
  ⟨hw, by simp only [hl]; exact h.cap, hM, hk, fun x hx => by
    rcases hin x hx with h1 | h1
    · exact (h.z x h1).mono fun y hy => List.mem_append_right _ hy
    · exact h1.mono fun y hy => List.mem_append_left _ hy⟩
theorem permA (x : HA) (b r : List HA) : (x :: (b ++ r)).Perm (b ++ x :: r) := List.perm_middle.symm
theorem permB (x : HA) (b r z : List HA) : (b ++ x :: (r ++ z)).Perm (r ++ (b ++ x :: z)) := by
  classical
  rw [List.perm_iff_count]; intro y; simp only [List.count_append, List.count_cons]; omega
theorem permC (x : HA) (r z' b z : List HA) : ((r ++ z') ++ (b ++ x :: z)).Perm (x :: (b ++ (r ++ (z' ++ z)))) := by
  classical
  rw [List.perm_iff_count]; intro y; simp only [List.count_append, List.count_cons]; omega
theorem permE (r z b : List HA) : ((r ++ z) ++ b).Perm (b ++ (r ++ z)) := List.perm_append_comm
theorem permD (x : HA) (r b t : List HA) : (r ++ (b ++ x :: t)).Perm (x :: (b ++ (r ++ t))) := by
  classical
  rw [List.perm_iff_count]; intro y; simp only [List.count_append, List.count_cons]; omega
theorem partD (x : HA) (b r b0 r0 z : List HA) : Part (x :: (b ++ (r ++ (b0 ++ (r0 ++ z))))) (x :: (b ++ (r ++ z))) :=
  .cons .here (Part.app b (Part.app r (by rw [← List.append_assoc]; exact Part.suffix _)))
theorem WC.part {X : Cx} {c : Code} {Q : Exit → Act → World → Prop} {ρ : Env} {A B : List HA} (hp : Part A B) (h : WC X c Q ρ B) : WC X c Q ρ A := fun a w f s => h a w f (s.part hp)
theorem step_at {S : List Step} {i : Nat} {t : Step} (h : S[i]? = some t) : ((S.flatMap Step.cs).drop (i * 4)).take t.cs.length = t.cs := by
  rw [Step.len]; exact chunk (fun y _ => rfl) h
theorem step_ne {S : List Step} {i : Nat} {t : Step} (h : S[i]? = some t) : S.flatMap Step.cs ≠ [] := ne_nil_of (i := i * 4 + 0) (by rw [chunk_get (fun y _ => Step.len y) h (by decide)]; rfl)
end Go.Proofs.Ytjijjohhmokmmaa
