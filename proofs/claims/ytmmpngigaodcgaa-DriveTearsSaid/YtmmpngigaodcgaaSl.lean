/- Rows of byte strings that are never written again. -/
import Derived.Test.YtmmpngigaodcgaaStp
import Derived.Test.YtmmpngigaodcgaaTwo
namespace Go.Proofs.Ytmmpngigaodcgaa
set_option linter.unusedVariables false
set_option linter.unusedSimpArgs false
open Go Go.RowKit
set_option maxRecDepth 100000
structure Sl where
  a : Option Addr
  c : Nat
  l : List UInt8
def Sl.v (s : Sl) : Value := .slice s.a s.l.length s.c
def Sl.nil : Sl := ⟨none, 0, []⟩
instance : Inhabited Sl := ⟨Sl.nil⟩
def svs (L : List Sl) : List Value := L.map Sl.v
theorem svs_len (L : List Sl) : (svs L).length = L.length := List.length_map _
theorem svs_at {L : List Sl} {i : Nat} (h : i < L.length) : (svs L)[i]? = some (L.getD i Sl.nil).v := by simp [svs, List.getD, h]
theorem svs_ne {L : List Sl} {i : Nat} (h : i < L.length) : svs L ≠ [] := ne_nil_of (svs_at h)
theorem svs_set (L : List Sl) (i : Nat) (s : Sl) : (svs L).set i s.v = svs (L.set i s) := by simp [svs, List.map_set]
theorem svs_one (L : List Sl) : ∀ u ∈ svs L, u.oneCell' = true := fun u h => by
  obtain ⟨s, _, rfl⟩ := List.mem_map.1 h; rfl
theorem sl_mem {L : List Sl} {i : Nat} (h : i < L.length) : L.getD i Sl.nil ∈ L := by
  have : L[i]? = some (L.getD i Sl.nil) := by simp [List.getD, h]
  exact List.mem_of_getElem? this
theorem sl_set_same {L : List Sl} {i : Nat} (h : i < L.length) (s : Sl) : (L.set i s).getD i Sl.nil = s := by simp [List.getD, h]
theorem sl_set_ne {L : List Sl} {i j : Nat} (h : i ≠ j) (s : Sl) : (L.set i s).getD j Sl.nil = L.getD j Sl.nil := by simp [List.getD, List.getElem?_set_ne h]
/-- The bytes lie in a row of the caller's that is listed. -/
def InF (Z : List HA) (s : Sl) : Prop := s.l = [] ∨ (s.l.length ≤ s.c ∧ ∃ T, HA.row s.a s.c T 1 (bs s.l) ∈ Z)
def OutF (w : World) (S : List Nat) (s : Sl) : Prop := s.l.length ≤ s.c ∧ CellsOut w S s.a (bs s.l)
theorem InF.mono {Z Z' : List HA} {s : Sl} (h : InF Z s) (hz : ∀ x ∈ Z, x ∈ Z') : InF Z' s := h.imp id fun ⟨h1, T, h2⟩ => ⟨h1, T, hz _ h2⟩
theorem InF.nil (Z : List HA) : InF Z Sl.nil := .inl rfl
theorem InF.rd {X : Cx} {A Z : List HA} {s : Sl} (h : InF Z s) (hz : ∀ x ∈ Z, x ∈ A) : Rd X A s.a (bs s.l) := by
  rcases h with h | ⟨_, T, h⟩
  · rw [h]; exact .nil
  · exact .row (hz _ h)
theorem InF.out {w0 w : World} {S : List Nat} {A A0 B : List HA} {s : Sl} (h : InF B s) (st : St w0 S A w) (hp : A.Perm (A0 ++ B)) : CellsOut w (A0.filterMap HA.foot) s.a (bs s.l) := by
  rcases h with h | ⟨_, T, h⟩
  · rw [h]; exact .inl rfl
  · exact row_out st hp h
theorem WL.know {X : Cx} {ops : Array Oper} {Q : Exit → Act → World → Prop} {ρ : Env} {A : List HA} {rest : List Oper} {p : Prop} (h : ∀ w, St X.w0 X.S A w → p) (k : p → WL X ops Q rest ρ A) : WL X ops Q rest ρ A := fun a w f s => k (h w s) a w f s
theorem Rd.is_some {X : Cx} {A : List HA} {a : Option Addr} {vs : List Value} (h : Rd X A a vs) (hv : vs ≠ []) : ∀ w, St X.w0 X.S A w → a.isSome = true := fun w s => by
  obtain ⟨ad, rfl⟩ := h.some_ hv s; rfl
theorem Yl.indexAddrS {X : Cx} {A : List HA} {ρ : Env} {ty : TypeId} {x y : Operand} {t e : TypeId} {ad : Addr} {n cap j : Nat} {ik : IntKind} (hu : X.P.underlying t = some (.slice e)) (hs : ∀ w, (sizeOf e).run X.P w = .ok 1 w)
    (hx : ev ρ x = some (.slice (some ad) n cap)) (hy : ev ρ y = some (.int ik (j : Int))) (hj : j < n) : Yl X (.indexAddr t x y) ty ρ A (.pointer (el (some ad) j)) := fun o ho _ ac w f s => by
  simp [execOp, ho, f.ev hx, f.ev hy, Instr.indexAt, asIntOf, run_underlying hu, hj, hs, el]
theorem Yl.neqNil {X : Cx} {A : List HA} {ρ : Env} {ty : TypeId} {x : Operand} {t u e : TypeId} {a : Option Addr} {n cap : Nat} (hu : X.P.underlying t = some (.slice e)) (hx : ev ρ x = some (.slice a n cap)) :
    Yl X (.binOp .neq t x (.const (.slice none 0 0)) u) ty ρ A (.bool a.isSome) := fun o ho _ ac w f _ => by
  have hb : (binOp .neq t (.slice a n cap) (.slice none 0 0)).run X.P w = .ok (.bool a.isSome) w := by
    simp only [binOp]
    simp [Op.equal, Op.maxDepth, run_equalIn_nil hu 9999]
  have hg : ∀ x y, (eqGuard .neq t x y (.slice a n cap) (.slice none 0 0)).run X.P w = .ok () w := fun _ _ => rfl
  have hc : ac.eval (.const (.slice none 0 0)) = .slice none 0 0 := rfl
  simp only [execOp, ho, f.ev hx, hc, Sem.run_bind, hg, Result.andThen_ok, hb, Sem.run_pure]
theorem Part.more {A : List HA} {x : HA} {B : List HA} (h : Part A B) : Part (x :: A) B := by
  induction h with
  | nil => exact .nil
  | cons p _ ih =>
    refine .cons (.there p) ih
  | free _ ih => exact .free ih
theorem Part.refl : ∀ (A : List HA), Part A A
  | [] => .nil
  | _ :: A => .cons .here (Part.refl A)
theorem Part.suffix : ∀ (Y : List HA) {A : List HA}, Part (Y ++ A) A
  | [], A => Part.refl A
  | y :: Y, A => (Part.suffix Y).more
theorem Pick.app {x : HA} : ∀ (Z : List HA) {A B : List HA}, Pick x A B → Pick x (Z ++ A) (Z ++ B)
  | [], _, _, p => p
  | _ :: Z, _, _, p => .there (Pick.app Z p)
theorem Part.pre : ∀ (Z : List HA) {A : List HA}, Part (Z ++ A) Z
  | [], _ => .nil
  | _ :: Z, _ => .cons .here (Part.pre Z)
theorem Part.swap (Z : List HA) {B C : List HA} (h : Part B C) : Part (Z ++ B) (C ++ Z) := by
  induction h with
  | nil => exact Part.pre Z
  | cons p _ ih => exact .cons (Pick.app Z p) ih
  | free _ ih => exact .free ih
theorem Part.app (Z : List HA) {B C : List HA} (h : Part B C) : Part (Z ++ B) (Z ++ C) := by
  induction Z with
  | nil => exact h
  | cons z Z ih => exact .cons .here ih
/-- What is known of a bank: the durable bytes of each sector, and the fresh ones. -/
structure KnOk (os fs : List Sl) (d : List (List UInt8)) (F : Nat → Option (List UInt8)) : Prop where
  ol : os.length = d.length
  fl : fs.length = d.length
  od : ∀ i, i < d.length → (os.getD i Sl.nil).l = d.getD i []
  fd : ∀ i, i < d.length → F i = none ∧ fs.getD i Sl.nil = Sl.nil ∨ F i = some (fs.getD i Sl.nil).l
section
variable {os fs : List Sl} {d : List (List UInt8)} {F : Nat → Option (List UInt8)}
theorem KnOk.write (h : KnOk os fs d F) {i : Nat} (t : Sl) : KnOk os (fs.set i t) d (setF F i (some t.l)) := by
  refine ⟨h.ol, by rw [List.length_set, h.fl], h.od, fun j hj => ?_⟩
  by_cases e : i = j
  · subst e
    rw [sl_set_same (by rw [h.fl]; exact hj)]
    exact .inr (by simp [setF])
  · rw [sl_set_ne e]
    have := h.fd j hj
    rw [show setF F i (some t.l) j = F j by simp [setF, Ne.symm e]]
    exact this
theorem KnOk.crash {K : List Int} {s : BSt} (h : KnOk os fs s.1 s.2) {i j : Nat} (t : Sl) (ht : t.l = ((s.2 i).getD zblk).take (keepAt K j) ++ (s.1.getD i []).drop (keepAt K j)) : KnOk (os.set i t) (fs.set i Sl.nil) (cstep K s j i).1 (cstep K s j i).2 := by
  have hl : (cstep K s j i).1.length = s.1.length := cstep_len K s j i
  refine ⟨by rw [List.length_set, hl, h.ol], by rw [List.length_set, hl, h.fl], fun k hk => ?_, fun k hk => ?_⟩
  · rw [hl] at hk
    by_cases e : i = k
    · subst e
      rw [sl_set_same (by rw [h.ol]; exact hk), ht]
      simp [cstep, List.getD, hk]
    · rw [sl_set_ne e, h.od k hk]
      simp [cstep, List.getD, List.getElem?_set_ne e]
  · rw [hl] at hk
    by_cases e : i = k
    · subst e
      rw [sl_set_same (by rw [h.fl]; exact hk)]
      exact .inl ⟨by simp [cstep, setF], rfl⟩
    · rw [sl_set_ne e, show (cstep K s j i).2 k = s.2 k by simp [cstep, setF, Ne.symm e]]
      exact h.fd k hk
end
def dpre (F : Nat → Option (List UInt8)) (i : Nat) : List Nat := (List.range i).filter fun k => (F k).isSome
theorem dpre_none {F : Nat → Option (List UInt8)} {i : Nat} (h : F i = none) : dpre F (i + 1) = dpre F i := by simp [dpre, List.range_succ, List.filter_append, h]
theorem dpre_some {F : Nat → Option (List UInt8)} {i : Nat} {u : List UInt8} (h : F i = some u) : dpre F (i + 1) = dpre F i ++ [i] := by simp [dpre, List.range_succ, List.filter_append, h]
theorem dpre_le (F : Nat → Option (List UInt8)) (i : Nat) : (dpre F i).length ≤ i := by
  have := List.length_filter_le (fun k => (F k).isSome) (List.range i)
  rwa [List.length_range] at this
theorem dpre_all (F : Nat → Option (List UInt8)) (n : Nat) : dpre F n = dirtyOf n F := rfl
end Go.Proofs.Ytmmpngigaodcgaa
