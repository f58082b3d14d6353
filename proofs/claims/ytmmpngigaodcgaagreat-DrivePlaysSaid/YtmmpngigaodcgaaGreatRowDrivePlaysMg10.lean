import Derived.Test.YtmmpngigaodcgaaGreatRowDrivePlaysMg9
import Derived.Test.YtmmpngigaodcgaaGreatRowDrivePlaysMg6
/- What 'has' sees; the examples of the chapter. -/
namespace Go.Proofs.YtmmpngigaodcgaaGreat
set_option linter.unusedVariables false
set_option linter.unusedSimpArgs false
open Go Go.RowKit
set_option maxRecDepth 100000
set_option maxHeartbeats 8000000
theorem two_get {n k : Nat} {c r : UInt8} (hk : k < 128) (hn : n ≤ 128) : (List.replicate n c ++ List.replicate (128 - n) r).getD k 0 = if k < n then c else r := by
  rw [List.getD_eq_getElem?_getD]
  by_cases h : k < n
  · rw [if_pos h, List.getElem?_append_left (by rw [List.length_replicate]; exact h)]; simp [h]
  · rw [if_neg h, List.getElem?_append_right (by rw [List.length_replicate]; omega), List.length_replicate, List.getElem?_replicate, if_pos (by omega)]; rfl
theorem two_len {n : Nat} (c r : UInt8) (hn : n ≤ 128) : (List.replicate n c ++ List.replicate (128 - n) r).length = 128 := by simp; omega
theorem CellsOut.cut {w : World} {S : List Nat} {a : Option Addr} {l : List UInt8} {cap : Nat} (h : CellsOut w S a (bs l)) (lo m : Nat) (hl : l.length ≤ cap) : CellsOut w S (cutA a lo cap 1) (bs ((l.drop lo).take m)) := by
  rcases h with h | ⟨b, off, rfl, hb, hc⟩
  · refine .inl ?_
    have : l = [] := by simpa [bs] using h
    subst this; simp [bs]
  · by_cases he : cap = lo
    · refine .inl ?_
      rw [List.drop_eq_nil_of_le (by omega)]; simp [bs]
    · refine .inr ⟨b, off + lo, by simp only [cutA, if_neg he, Option.map_some, Addr.add, Nat.mul_one]; split <;> simp_all, hb, fun i v hv => ?_⟩
      have hv2 : (bs l)[lo + i]? = some v := by
        have e : bs ((l.drop lo).take m) = ((bs l).drop lo).take m := by simp [bs, List.map_take, List.map_drop]
        rw [e, List.getElem?_take] at hv
        split at hv
        · rwa [List.getElem?_drop] at hv
        · cases hv
      rw [Nat.add_assoc]
      exact hc _ v hv2
theorem CellsOut.cutd {w : World} {S : List Nat} {a : Option Addr} {l : List UInt8} {cap : Nat} (h : CellsOut w S a (bs l)) (lo : Nat) (hl : l.length ≤ cap) : CellsOut w S (cutA a lo cap 1) (bs (l.drop lo)) := by
  have := h.cut lo (l.drop lo).length hl
  rwa [List.take_of_length_le (Nat.le_refl _)] at this
attribute [local irreducible] WL WC WN Yl WH WQ WT WE WU WG
end Go.Proofs.YtmmpngigaodcgaaGreat
/- Rows of steps: what lies in memory, and which rows are few. -/
namespace Go.Proofs.YtmmpngigaodcgaaGreat
set_option linter.unusedVariables false
set_option linter.unusedSimpArgs false
open Go Go.RowKit
set_option maxRecDepth 100000
set_option maxHeartbeats 8000000
section
variable {α β : Type} {f : α → List β} {k : Nat}
theorem chunk : ∀ {l : List α} {i : Nat} {x : α}, (∀ y ∈ l, (f y).length = k) → l[i]? = some x → ((l.flatMap f).drop (i * k)).take k = f x := by
  intro l
  induction l with
  | nil => intro i x _ h; simp at h
  | cons y l ih =>
    intro i x hk h
    have hy := hk y (by simp)
    rw [List.flatMap_cons]
    cases i with
    | zero =>
      simp only [List.getElem?_cons_zero, Option.some.injEq] at h
      subst h
      rw [Nat.zero_mul, List.drop_zero, List.take_append_of_le_length (by omega), List.take_of_length_le (by omega)]
    | succ i =>
      rw [List.getElem?_cons_succ] at h
      rw [show (i + 1) * k = (f y).length + i * k by rw [hy, Nat.succ_mul]; omega, List.drop_length_add_append]
      exact ih (fun z hz => hk z (by simp [hz])) h
theorem chunk_get {l : List α} {i j : Nat} {x : α} (hk : ∀ y ∈ l, (f y).length = k) (h : l[i]? = some x) (hj : j < k) : (l.flatMap f)[i * k + j]? = (f x)[j]? := by
  rw [← chunk hk h, List.getElem?_take, if_pos hj, List.getElem?_drop]
theorem flat_len : ∀ {l : List α}, (∀ x ∈ l, (f x).length = k) → (l.flatMap f).length = l.length * k := by
  intro l
  induction l with
  | nil => intro _; simp
  | cons y l ih => intro h; rw [List.flatMap_cons, List.length_append, ih (fun z hz => h z (by simp [hz])), h y (by simp), List.length_cons, Nat.succ_mul]; omega
end
structure Step where
  act : Int
  sec : Int
  a : Option Addr
  n : Nat
  c : Nat
  l : List UInt8
  a2 : Option Addr
  n2 : Nat
  c2 : Nat
  K : List Int
def Step.cs (s : Step) : List Value := [.int .i64 s.act, .int .i64 s.sec, .slice s.a s.n s.c, .slice s.a2 s.n2 s.c2]
structure Step.Ok (s : Step) (w : World) : Prop where
  hl : s.l.length = s.n
  hc : s.n ≤ s.c
  hm : s.c ≤ 9223372036854775807
  hr : CellsAt w s.a (bs s.l)
  hl2 : s.K.length = s.n2
  hc2 : s.n2 ≤ s.c2
  hm2 : s.c2 ≤ 9223372036854775807
  hr2 : CellsAt w s.a2 (zcells s.K)
theorem Step.Ok.keep {s : Step} {w w' : World} (h : s.Ok w) (k : Kept w [] w') : s.Ok w' := ⟨h.hl, h.hc, h.hm, h.hr.keep k, h.hl2, h.hc2, h.hm2, h.hr2.keep k⟩
theorem Step.len (s : Step) : s.cs.length = 4 := rfl
def fewOk (S : List Step) (m : Int) : Prop := (S.length : Int) ≤ m ∧ ∀ s ∈ S, s.n ≤ 200 ∧ s.n2 ≤ 20
instance (S : List Step) (m : Int) : Decidable (fewOk S m) := inferInstanceAs (Decidable (_ ∧ _))
attribute [local irreducible] WL WC WN Yl WH WQ WT WE WU WG
end Go.Proofs.YtmmpngigaodcgaaGreat
/- Rows of byte strings that are never written again. -/
namespace Go.Proofs.YtmmpngigaodcgaaGreat
set_option linter.unusedVariables false
set_option linter.unusedSimpArgs false
open Go Go.RowKit
set_option maxRecDepth 100000
structure Sl where
  a : Option Addr
  c : Nat
  l : List UInt8
def Sl.v (s : Sl) : Value := .slice s.a s.l.length s.c
def Sl.nil : Sl := ⟨none, 0, []⟩
instance : Inhabited Sl := ⟨Sl.nil⟩
def svs (L : List Sl) : List Value := L.map Sl.v
theorem svs_len (L : List Sl) : (svs L).length = L.length := List.length_map _
theorem svs_at {L : List Sl} {i : Nat} (h : i < L.length) : (svs L)[i]? = some (L.getD i Sl.nil).v := by simp [svs, List.getD, h]
theorem svs_ne {L : List Sl} {i : Nat} (h : i < L.length) : svs L ≠ [] := ne_nil_of (svs_at h)
theorem svs_set (L : List Sl) (i : Nat) (s : Sl) : (svs L).set i s.v = svs (L.set i s) := by simp [svs, List.map_set]
theorem svs_one (L : List Sl) : ∀ u ∈ svs L, u.oneCell' = true := fun u h => by
  obtain ⟨s, _, rfl⟩ := List.mem_map.1 h; rfl
theorem sl_mem {L : List Sl} {i : Nat} (h : i < L.length) : L.getD i Sl.nil ∈ L := by
  have : L[i]? = some (L.getD i Sl.nil) := by simp [List.getD, h]
  exact List.mem_of_getElem? this
theorem sl_set_same {L : List Sl} {i : Nat} (h : i < L.length) (s : Sl) : (L.set i s).getD i Sl.nil = s := by simp [List.getD, h]
theorem sl_set_ne {L : List Sl} {i j : Nat} (h : i ≠ j) (s : Sl) : (L.set i s).getD j Sl.nil = L.getD j Sl.nil := by simp [List.getD, List.getElem?_set_ne h]
/-- The bytes lie in a row of the caller's that is listed. -/
def InF (Z : List HA) (s : Sl) : Prop := s.l = [] ∨ (s.l.length ≤ s.c ∧ ∃ T, HA.row s.a s.c T 1 (bs s.l) ∈ Z)
def OutF (w : World) (S : List Nat) (s : Sl) : Prop := s.l.length ≤ s.c ∧ CellsOut w S s.a (bs s.l)
theorem InF.mono {Z Z' : List HA} {s : Sl} (h : InF Z s) (hz : ∀ x ∈ Z, x ∈ Z') : InF Z' s := h.imp id fun ⟨h1, T, h2⟩ => ⟨h1, T, hz _ h2⟩
theorem InF.nil (Z : List HA) : InF Z Sl.nil := .inl rfl
theorem InF.rd {X : Cx} {A Z : List HA} {s : Sl} (h : InF Z s) (hz : ∀ x ∈ Z, x ∈ A) : Rd X A s.a (bs s.l) := by
  rcases h with h | ⟨_, T, h⟩
  · rw [h]; exact .nil
  · exact .row (hz _ h)
theorem InF.out {w0 w : World} {S : List Nat} {A A0 B : List HA} {s : Sl} (h : InF B s) (st : St w0 S A w) (hp : A.Perm (A0 ++ B)) : CellsOut w (A0.filterMap HA.foot) s.a (bs s.l) := by
  rcases h with h | ⟨_, T, h⟩
  · rw [h]; exact .inl rfl
  · exact row_out st hp h
theorem WL.know {X : Cx} {ops : Array Oper} {Q : Exit → Act → World → Prop} {ρ : Env} {A : List HA} {rest : List Oper} {p : Prop} (h : ∀ w, St X.w0 X.S A w → p) (k : p → WL X ops Q rest ρ A) : WL X ops Q rest ρ A := fun a w f s => k (h w s) a w f s
theorem Rd.is_some {X : Cx} {A : List HA} {a : Option Addr} {vs : List Value} (h : Rd X A a vs) (hv : vs ≠ []) : ∀ w, St X.w0 X.S A w → a.isSome = true := fun w s => by
  obtain ⟨ad, rfl⟩ := h.some_ hv s; rfl
theorem Yl.indexAddrS {X : Cx} {A : List HA} {ρ : Env} {ty : TypeId} {x y : Operand} {t e : TypeId} {ad : Addr} {n cap j : Nat} {ik : IntKind} (hu : X.P.underlying t = some (.slice e)) (hs : ∀ w, (sizeOf e).run X.P w = .ok 1 w)
    (hx : ev ρ x = some (.slice (some ad) n cap)) (hy : ev ρ y = some (.int ik (j : Int))) (hj : j < n) : Yl X (.indexAddr t x y) ty ρ A (.pointer (el (some ad) j)) := fun o ho _ ac w f s => by
  simp [execOp, ho, f.ev hx, f.ev hy, Instr.indexAt, asIntOf, run_underlying hu, hj, hs, el]
theorem Yl.neqNil {X : Cx} {A : List HA} {ρ : Env} {ty : TypeId} {x : Operand} {t u e : TypeId} {a : Option Addr} {n cap : Nat} (hu : X.P.underlying t = some (.slice e)) (hx : ev ρ x = some (.slice a n cap)) :
    Yl X (.binOp .neq t x (.const (.slice none 0 0)) u) ty ρ A (.bool a.isSome) := fun o ho _ ac w f _ => by
  have hb : (binOp .neq t (.slice a n cap) (.slice none 0 0)).run X.P w = .ok (.bool a.isSome) w := by
    simp only [binOp]
    simp [Op.equal, Op.maxDepth, run_equalIn_nil hu 9999]
  have hg : ∀ x y, (eqGuard .neq t x y (.slice a n cap) (.slice none 0 0)).run X.P w = .ok () w := fun _ _ => rfl
  have hc : ac.eval (.const (.slice none 0 0)) = .slice none 0 0 := rfl
  simp only [execOp, ho, f.ev hx, hc, Sem.run_bind, hg, Result.andThen_ok, hb, Sem.run_pure]
theorem Part.more {A : List HA} {x : HA} {B : List HA} (h : Part A B) : Part (x :: A) B := by
  induction h with
  | nil => exact .nil
  | cons p _ ih =>
    refine .cons (.there p) ih
  | free _ ih => exact .free ih
theorem Part.refl : ∀ (A : List HA), Part A A
  | [] => .nil
  | _ :: A => .cons .here (Part.refl A)
theorem Part.suffix : ∀ (Y : List HA) {A : List HA}, Part (Y ++ A) A
  | [], A => Part.refl A
  | y :: Y, A => (Part.suffix Y).more
theorem Pick.app {x : HA} : ∀ (Z : List HA) {A B : List HA}, Pick x A B → Pick x (Z ++ A) (Z ++ B)
  | [], _, _, p => p
  | _ :: Z, _, _, p => .there (Pick.app Z p)
theorem Part.pre : ∀ (Z : List HA) {A : List HA}, Part (Z ++ A) Z
  | [], _ => .nil
  | _ :: Z, _ => .cons .here (Part.pre Z)
theorem Part.swap (Z : List HA) {B C : List HA} (h : Part B C) : Part (Z ++ B) (C ++ Z) := by
  induction h with
  | nil => exact Part.pre Z
  | cons p _ ih => exact .cons (Pick.app Z p) ih
  | free _ ih => exact .free ih
theorem Part.app (Z : List HA) {B C : List HA} (h : Part B C) : Part (Z ++ B) (Z ++ C) := by
  induction Z with
  | nil => exact h
  | cons z Z ih => exact .cons .here ih
/-- What is known of a bank: the durable bytes of each sector, and the fresh ones. -/
structure KnOk (os fs : List Sl) (d : List (List UInt8)) (F : Nat → Option (List UInt8)) : Prop where
  ol : os.length = d.length
  fl : fs.length = d.length
  od : ∀ i, i < d.length → (os.getD i Sl.nil).l = d.getD i []
  fd : ∀ i, i < d.length → F i = none ∧ fs.getD i Sl.nil = Sl.nil ∨ F i = some (fs.getD i Sl.nil).l
section
variable {os fs : List Sl} {d : List (List UInt8)} {F : Nat → Option (List UInt8)}
theorem KnOk.write (h : KnOk os fs d F) {i : Nat} (t : Sl) : KnOk os (fs.set i t) d (setF F i (some t.l)) := by
  refine ⟨h.ol, by rw [List.length_set, h.fl], h.od, fun j hj => ?_⟩
  by_cases e : i = j
  · subst e
    rw [sl_set_same (by rw [h.fl]; exact hj)]
    exact .inr (by simp [setF])
  · rw [sl_set_ne e]
    have := h.fd j hj
    rw [show setF F i (some t.l) j = F j by simp [setF, Ne.symm e]]
    exact this
theorem KnOk.crash {K : List Int} {s : BSt} (h : KnOk os fs s.1 s.2) {i j : Nat} (t : Sl) (ht : t.l = ((s.2 i).getD zblk).take (keepAt K j) ++ (s.1.getD i []).drop (keepAt K j)) : KnOk (os.set i t) (fs.set i Sl.nil) (cstep K s j i).1 (cstep K s j i).2 := by
  have hl : (cstep K s j i).1.length = s.1.length := cstep_len K s j i
  refine ⟨by rw [List.length_set, hl, h.ol], by rw [List.length_set, hl, h.fl], fun k hk => ?_, fun k hk => ?_⟩
  · rw [hl] at hk
    by_cases e : i = k
    · subst e
      rw [sl_set_same (by rw [h.ol]; exact hk), ht]
      simp [cstep, List.getD, hk]
    · rw [sl_set_ne e, h.od k hk]
      simp [cstep, List.getD, List.getElem?_set_ne e]
  · rw [hl] at hk
    by_cases e : i = k
    · subst e
      rw [sl_set_same (by rw [h.fl]; exact hk)]
      exact .inl ⟨by simp [cstep, setF], rfl⟩
    · rw [sl_set_ne e, show (cstep K s j i).2 k = s.2 k by simp [cstep, setF, Ne.symm e]]
      exact h.fd k hk
end
def dpre (F : Nat → Option (List UInt8)) (i : Nat) : List Nat := (List.range i).filter fun k => (F k).isSome
theorem dpre_none {F : Nat → Option (List UInt8)} {i : Nat} (h : F i = none) : dpre F (i + 1) = dpre F i := by simp [dpre, List.range_succ, List.filter_append, h]
theorem dpre_some {F : Nat → Option (List UInt8)} {i : Nat} {u : List UInt8} (h : F i = some u) : dpre F (i + 1) = dpre F i ++ [i] := by simp [dpre, List.range_succ, List.filter_append, h]
theorem dpre_le (F : Nat → Option (List UInt8)) (i : Nat) : (dpre F i).length ≤ i := by
  have := List.length_filter_le (fun k => (F k).isSome) (List.range i)
  rwa [List.length_range] at this
theorem dpre_all (F : Nat → Option (List UInt8)) (n : Nat) : dpre F n = dirtyOf n F := rfl
end Go.Proofs.YtmmpngigaodcgaaGreat
/- What is known of a bank crashes. -/
namespace Go.Proofs.YtmmpngigaodcgaaGreat
set_option linter.unusedVariables false
set_option linter.unusedSimpArgs false
open Go Go.RowKit
set_option maxRecDepth 100000
set_option maxHeartbeats 8000000
structure LS where
  os : List Sl
  fs : List Sl
  Z : List HA
  i : Nat
attribute [local irreducible] WL WC WN Yl WH WQ WT WE WU WG WV
section
variable {bK bk co cf : Nat} {ao af : Option Addr} {os fs : List Sl} {d : List (List UInt8)} {F : Nat → Option (List UInt8)} {S : List Nat}
end
end Go.Proofs.YtmmpngigaodcgaaGreat
/- Turns: what is done to a bank, by numbers. -/
namespace Go.Proofs.YtmmpngigaodcgaaGreat
set_option linter.unusedVariables false
set_option linter.unusedSimpArgs false
open Go Go.RowKit
structure Turn where
  k : UInt8
  s : UInt8
  n : UInt8
  m : UInt8
def Turn.cs (t : Turn) : List Value := [bv t.k, bv t.s, bv t.n, bv t.m]
theorem Turn.len (t : Turn) : t.cs.length = 4 := rfl
end Go.Proofs.YtmmpngigaodcgaaGreat
/- A bank of which all is known is begun. -/
namespace Go.Proofs.YtmmpngigaodcgaaGreat
set_option linter.unusedVariables false
set_option linter.unusedSimpArgs false
open Go Go.RowKit
set_option maxRecDepth 100000
set_option maxHeartbeats 8000000
structure KP where
  bK : Nat
  bk : Nat
  ao : Option Addr
  co : Nat
  af : Option Addr
  cf : Nat
  da : Option Addr
  cap : Nat
  mb : Nat
theorem elemSl : ElemT Tryz.prog 38 (.slice none 0 0) 1 24 := ElemT.of (by kernel_rfl) rfl (by decide)
structure BS where
  ao : Option Addr
  co : Nat
  af : Option Addr
  cf : Nat
  os : List Sl
  fs : List Sl
  Z : List HA
attribute [local irreducible] WL WC WN Yl WH WQ WT WE WU WG WV
end Go.Proofs.YtmmpngigaodcgaaGreat
/- A bank shows what is known of it. -/
namespace Go.Proofs.YtmmpngigaodcgaaGreat
set_option linter.unusedVariables false
set_option linter.unusedSimpArgs false
open Go Go.RowKit
set_option maxRecDepth 100000
set_option maxHeartbeats 8000000
def zs (l : List Nat) : List Int := l.map fun (k : Nat) => (k : Int)
theorem zs_len (l : List Nat) : (zs l).length = l.length := List.length_map _
theorem zs_snoc (l : List Nat) (i : Nat) : zcells (zs l) ++ zcells [(i : Int)] = zcells (zs (l ++ [i])) := by simp [zcells, zs]
theorem bchk_in {n i : Nat} (hi : i < n) : bchk n (i : Int) = 0 := by
  rcases bchk_cases n (i : Int) with ⟨_, hs⟩ | ⟨hc, _⟩
  · omega
  · exact hc
structure AS where
  la : Option Addr
  lc : Nat
  i : Nat
attribute [local irreducible] WL WC WN Yl WH WQ WT WE WU WG WV
section
variable {bK co cf bk cap mb : Nat} {ao af da : Option Addr} {os fs : List Sl} {d : List (List UInt8)} {F : Nat → Option (List UInt8)}
end
end Go.Proofs.YtmmpngigaodcgaaGreat
/- Sectors that are torn: as the document says, and torn twice. -/
namespace Go.Proofs.YtmmpngigaodcgaaGreat
set_option linter.unusedVariables false
set_option linter.unusedSimpArgs false
open Go Go.RowKit
set_option maxRecDepth 100000
set_option maxHeartbeats 8000000
def ROut (r : List UInt8 × Nat) : Value → List HA → Prop := NewRow (fun s => .tuple #[s, .int .i64 (r.2 : Int)]) 5 1 r.1.length (bs r.1)
theorem tear_two {a b : UInt8} {k j : Nat} (hj : j ≤ k) (hk : k ≤ 128) : tearR (List.replicate j b ++ List.replicate (128 - j) a) (List.replicate 128 b) (k : Int) = (List.replicate k b ++ List.replicate (128 - k) a, 0) := by
  rw [tearR, if_pos ⟨two_len b a (by omega), List.length_replicate, by omega, by omega⟩, Int.toNat_natCast]
  rw [List.take_replicate, Nat.min_eq_left hk, List.drop_append, List.length_replicate, List.drop_replicate, List.drop_replicate]
  rw [show j - k = 0 by omega, show 128 - j - (k - j) = 128 - k by omega]
  rfl
theorem tear_one {a b : UInt8} {k : Nat} (hk : k ≤ 128) : tearR (List.replicate 128 a) (List.replicate 128 b) (k : Int) = (List.replicate k b ++ List.replicate (128 - k) a, 0) := tear_two (j := 0) (Nat.zero_le _) hk
attribute [local irreducible] WL WC WN Yl WH WQ WT WE WU WG
theorem rtear_c (a a2 : Option Addr) (n1 n2 c1 c2 : Nat) (l m : List UInt8) (k : Int) (w : World) (hl : l.length = n1) (hm : m.length = n2) (h1 : n1 ≤ 9223372036854775807) (h2 : n2 ≤ 9223372036854775807) (hc1 : n1 ≤ c1) (hc2 : n2 ≤ c2) (hr : CellsAt w a (bs l)) (hr2 : CellsAt w a2 (bs m)) :
    Calls Tryz.prog 74 #[.slice a n1 c1, .slice a2 n2 c2, .int .i64 k] w (Gives (ROut (tearR l m k)) w) := by
  refine enter (args := [_, _, _]) Tryz.func74 Tryz.ntmps74 rfl rfl ?_
  by_cases e1 : n1 = 128
  · by_cases e2 : n2 = 128
    · by_cases e3 : k < 0
      · rw [tearR, if_neg (by omega)]
        (repeat (first | (refine WL.kG ?_; first | refine WL.want rfl rfl rfl ?_ | refine WL.pass rfl rfl rfl rfl ?_) | (refine WL.k_move ?_; first | refine WL.step (Yl.move rfl) rfl ?_) | (refine WL.k_assign ?_; first | refine WL.step (Yl.assign rfl) rfl ?_) | (refine WL.k_pick ?_; first | refine WL.step (Yl.pick_t rfl rfl rfl) rfl ?_ | refine WL.step (Yl.pick_f rfl rfl rfl) rfl ?_) | (refine WL.k_bin .neq ?_; first | refine WL.step (Yl.neqF rfl rfl (by omega)) rfl ?_ | refine WL.step (Yl.strNeq rfl rfl) rfl ?_ | refine WL.step (Yl.neq rfl rfl) rfl ?_) | (refine WL.k_bin .lss ?_; first | refine WL.step (Yl.lssT rfl rfl e3) rfl ?_ | refine WL.step (Yl.lss rfl rfl) rfl ?_) | (refine WL.k_bi .len ?_; first | refine WL.step (Yl.len (t := 38) Tryz.underlying38 rfl) rfl ?_) | (refine WL.k_bin .gtr ?_; first | refine WL.step (Yl.gtr rfl rfl) rfl ?_) | refine WC.seq ?_ | refine WC.region ?_ | refine WL.nil ?_ | refine WN.then_normal ?_ | refine WC.skip ?_ | refine WC.ret ?_ | refine WN.then_ret ?_))
        refine WC.cond_true rfl rfl ?_
        (repeat (first | (refine WL.kG ?_; first | refine WL.want rfl rfl rfl ?_ | refine WL.pass rfl rfl rfl rfl ?_) | (refine WL.k_move ?_; first | refine WL.step (Yl.move rfl) rfl ?_) | (refine WL.k_assign ?_; first | refine WL.step (Yl.assign rfl) rfl ?_) | (refine WL.k_pick ?_; first | refine WL.step (Yl.pick_t rfl rfl rfl) rfl ?_ | refine WL.step (Yl.pick_f rfl rfl rfl) rfl ?_) | (refine WL.k_bi .len ?_; first | refine WL.step (Yl.len (t := 38) Tryz.underlying38 rfl) rfl ?_) | (refine WL.k_bin .neq ?_; first | refine WL.step (Yl.strNeq rfl rfl) rfl ?_ | refine WL.step (Yl.neq rfl rfl) rfl ?_) | (refine WL.k_bin .lss ?_; first | refine WL.step (Yl.lss rfl rfl) rfl ?_) | (refine WL.k_bin .gtr ?_; first | refine WL.step (Yl.gtr rfl rfl) rfl ?_) | refine WC.seq ?_ | refine WC.region ?_ | refine WL.nil ?_ | refine WN.then_normal ?_ | refine WC.skip ?_ | refine WC.ret ?_ | refine WN.then_ret ?_))
        exact WN.ret2 rfl rfl rfl ⟨none, 0, Nat.le_refl _, rfl, rfl⟩ (.free .nil)
      · by_cases e4 : 128 < k
        · rw [tearR, if_neg (by omega)]
          (repeat (first | (refine WL.kG ?_; first | refine WL.want rfl rfl rfl ?_ | refine WL.pass rfl rfl rfl rfl ?_) | (refine WL.k_move ?_; first | refine WL.step (Yl.move rfl) rfl ?_) | (refine WL.k_assign ?_; first | refine WL.step (Yl.assign rfl) rfl ?_) | (refine WL.k_pick ?_; first | refine WL.step (Yl.pick_t rfl rfl rfl) rfl ?_ | refine WL.step (Yl.pick_f rfl rfl rfl) rfl ?_) | (refine WL.k_bin .neq ?_; first | refine WL.step (Yl.neqF rfl rfl (by omega)) rfl ?_ | refine WL.step (Yl.strNeq rfl rfl) rfl ?_ | refine WL.step (Yl.neq rfl rfl) rfl ?_) | (refine WL.k_bin .lss ?_; first | refine WL.step (Yl.lssF rfl rfl e3) rfl ?_ | refine WL.step (Yl.lss rfl rfl) rfl ?_) | (refine WL.k_bin .gtr ?_; first | refine WL.step (Yl.gtrT rfl rfl e4) rfl ?_ | refine WL.step (Yl.gtr rfl rfl) rfl ?_) | (refine WL.k_bi .len ?_; first | refine WL.step (Yl.len (t := 38) Tryz.underlying38 rfl) rfl ?_) | refine WC.seq ?_ | refine WC.region ?_ | refine WL.nil ?_ | refine WN.then_normal ?_ | refine WC.skip ?_ | refine WC.ret ?_ | refine WN.then_ret ?_))
          refine WC.cond_true rfl rfl ?_
          (repeat (first | (refine WL.kG ?_; first | refine WL.want rfl rfl rfl ?_ | refine WL.pass rfl rfl rfl rfl ?_) | (refine WL.k_move ?_; first | refine WL.step (Yl.move rfl) rfl ?_) | (refine WL.k_assign ?_; first | refine WL.step (Yl.assign rfl) rfl ?_) | (refine WL.k_pick ?_; first | refine WL.step (Yl.pick_t rfl rfl rfl) rfl ?_ | refine WL.step (Yl.pick_f rfl rfl rfl) rfl ?_) | (refine WL.k_bi .len ?_; first | refine WL.step (Yl.len (t := 38) Tryz.underlying38 rfl) rfl ?_) | (refine WL.k_bin .neq ?_; first | refine WL.step (Yl.strNeq rfl rfl) rfl ?_ | refine WL.step (Yl.neq rfl rfl) rfl ?_) | (refine WL.k_bin .lss ?_; first | refine WL.step (Yl.lss rfl rfl) rfl ?_) | (refine WL.k_bin .gtr ?_; first | refine WL.step (Yl.gtr rfl rfl) rfl ?_) | refine WC.seq ?_ | refine WC.region ?_ | refine WL.nil ?_ | refine WN.then_normal ?_ | refine WC.skip ?_ | refine WC.ret ?_ | refine WN.then_ret ?_))
          exact WN.ret2 rfl rfl rfl ⟨none, 0, Nat.le_refl _, rfl, rfl⟩ (.free .nil)
        · subst e1 e2
          obtain ⟨kp, rfl⟩ : ∃ kp : Nat, k = (kp : Int) := ⟨k.toNat, by omega⟩
          have hk : kp ≤ 128 := by omega
          rw [tearR, if_pos ⟨hl, hm, by omega, by omega⟩, Int.toNat_natCast]
          have hcut : CellsAt w (cutA a2 0 c2 1) (bs (m.take kp)) := cutOf32 (cap := c2) 0 kp hr2 (by omega)
          have hcut2 : CellsAt w (cutA a kp c1 1) (bs (l.drop kp)) := by have := cutOf32 (cap := c1) kp 128 hr (by omega); rwa [List.take_of_length_le (by rw [List.length_drop]; omega)] at this
          have hkl : (m.take kp).length = kp := by rw [List.length_take]; omega
          have hkl2 : (l.drop kp).length = 128 - kp := by rw [List.length_drop]; omega
          (repeat (first | (refine WL.kG ?_; first | refine WL.want rfl rfl rfl ?_ | refine WL.pass rfl rfl rfl rfl ?_) | (refine WL.k_move ?_; first | refine WL.step (Yl.move rfl) rfl ?_) | (refine WL.k_assign ?_; first | refine WL.step (Yl.assign rfl) rfl ?_) | (refine WL.k_pick ?_; first | refine WL.step (Yl.pick_t rfl rfl rfl) rfl ?_ | refine WL.step (Yl.pick_f rfl rfl rfl) rfl ?_) | (refine WL.k_bin .neq ?_; first | refine WL.step (Yl.neqF rfl rfl rfl) rfl ?_ | refine WL.step (Yl.strNeq rfl rfl) rfl ?_ | refine WL.step (Yl.neq rfl rfl) rfl ?_) | (refine WL.k_bin .lss ?_; first | refine WL.step (Yl.lssF rfl rfl e3) rfl ?_ | refine WL.step (Yl.lss rfl rfl) rfl ?_) | (refine WL.k_bin .gtr ?_; first | refine WL.step (Yl.gtrF rfl rfl e4) rfl ?_ | refine WL.step (Yl.gtr rfl rfl) rfl ?_) | (refine WL.k_bi .len ?_; first | refine WL.step (Yl.len (t := 38) Tryz.underlying38 rfl) rfl ?_) | refine WC.seq ?_ | refine WC.region ?_ | refine WL.nil ?_ | refine WN.then_normal ?_ | refine WC.skip ?_ | refine WC.ret ?_ | refine WN.then_ret ?_))
          refine WC.cond_false rfl rfl ?_
          (repeat (first | (refine WL.kG ?_; first | refine WL.want rfl rfl rfl ?_ | refine WL.pass rfl rfl rfl rfl ?_) | (refine WL.k_move ?_; first | refine WL.step (Yl.move rfl) rfl ?_) | (refine WL.k_assign ?_; first | refine WL.step (Yl.assign rfl) rfl ?_) | (refine WL.k_pick ?_; first | refine WL.step (Yl.pick_t rfl rfl rfl) rfl ?_ | refine WL.step (Yl.pick_f rfl rfl rfl) rfl ?_) | (refine WL.k_bi .len ?_; first | refine WL.step (Yl.len (t := 38) Tryz.underlying38 rfl) rfl ?_) | (refine WL.k_bin .neq ?_; first | refine WL.step (Yl.strNeq rfl rfl) rfl ?_ | refine WL.step (Yl.neq rfl rfl) rfl ?_) | (refine WL.k_bin .lss ?_; first | refine WL.step (Yl.lss rfl rfl) rfl ?_) | (refine WL.k_bin .gtr ?_; first | refine WL.step (Yl.gtr rfl rfl) rfl ?_) | refine WC.seq ?_ | refine WC.region ?_ | refine WL.nil ?_ | refine WN.then_normal ?_ | refine WC.skip ?_ | refine WC.ret ?_ | refine WN.then_ret ?_))
          refine WC.regionH [] (by kernel_rfl) ?_
          (refine WH.order [1, 2, 3, 5, 6, 7] (by repeat (first | exact Part.nil | refine Part.cons (by repeat (first | exact Pick.here | apply Pick.there)) ?_ | refine Part.free ?_)) (by kernel_rfl) ?_; (repeat (first | refine WT.passG rfl rfl rfl rfl (fun _ _ _ h => h) rfl (by kernel_rfl) (by kernel_rfl) ?_ | refine WT.passU rfl rfl rfl (fun _ _ _ h => h) rfl (by kernel_rfl) (by kernel_rfl) ?_ | (refine WT.k_move rfl ?_; first | (refine WT.kn rfl ?_; first | refine WT.take rfl rfl (fun _ _ _ h => h) (Yl.move rfl) rfl (by kernel_rfl) (by kernel_rfl) ?_) | (refine WT.kg rfl ?_; first | refine WT.takeG rfl rfl rfl rfl (fun _ _ _ h => h) (Yl.move rfl) rfl (by kernel_rfl) (by kernel_rfl) ?_)) | (refine WT.k_assign rfl ?_; first | (refine WT.kn rfl ?_; first | refine WT.take rfl rfl (fun _ _ _ h => h) (Yl.assign rfl) rfl (by kernel_rfl) (by kernel_rfl) ?_) | (refine WT.kg rfl ?_; first | refine WT.takeG rfl rfl rfl rfl (fun _ _ _ h => h) (Yl.assign rfl) rfl (by kernel_rfl) (by kernel_rfl) ?_)) | (refine WT.k_pick rfl ?_; first | (refine WT.kn rfl ?_; first | refine WT.take rfl rfl (fun _ _ _ h => h) (Yl.pick_t rfl rfl rfl) rfl (by kernel_rfl) (by kernel_rfl) ?_ | refine WT.take rfl rfl (fun _ _ _ h => h) (Yl.pick_f rfl rfl rfl) rfl (by kernel_rfl) (by kernel_rfl) ?_) | (refine WT.kg rfl ?_; first | refine WT.takeG rfl rfl rfl rfl (fun _ _ _ h => h) (Yl.pick_t rfl rfl rfl) rfl (by kernel_rfl) (by kernel_rfl) ?_ | refine WT.takeG rfl rfl rfl rfl (fun _ _ _ h => h) (Yl.pick_f rfl rfl rfl) rfl (by kernel_rfl) (by kernel_rfl) ?_)) | (refine WT.k_slice rfl ?_; first | (refine WT.kn rfl ?_; first | refine WT.take rfl rfl (fun _ _ _ h => h) (Yl.cutTo (t := 38) Tryz.underlying38 Tryz.sizeOf5 rfl rfl (by omega)) rfl (by kernel_rfl) (by kernel_rfl) ?_ | refine WT.take rfl rfl (fun _ _ _ h => h) (Yl.cutFrom (t := 38) Tryz.underlying38 Tryz.sizeOf5 rfl rfl (by omega)) rfl (by kernel_rfl) (by kernel_rfl) ?_) | (refine WT.kg rfl ?_; first | refine WT.takeG rfl rfl rfl rfl (fun _ _ _ h => h) (Yl.cutTo (t := 38) Tryz.underlying38 Tryz.sizeOf5 rfl rfl (by omega)) rfl (by kernel_rfl) (by kernel_rfl) ?_ | refine WT.takeG rfl rfl rfl rfl (fun _ _ _ h => h) (Yl.cutFrom (t := 38) Tryz.underlying38 Tryz.sizeOf5 rfl rfl (by omega)) rfl (by kernel_rfl) (by kernel_rfl) ?_)) | (refine WT.k_bi .len rfl ?_; first | (refine WT.kn rfl ?_; first | refine WT.take rfl rfl (fun _ _ _ h => h) (Yl.len (t := 38) Tryz.underlying38 rfl) rfl (by kernel_rfl) (by kernel_rfl) ?_) | (refine WT.kg rfl ?_; first | refine WT.takeG rfl rfl rfl rfl (fun _ _ _ h => h) (Yl.len (t := 38) Tryz.underlying38 rfl) rfl (by kernel_rfl) (by kernel_rfl) ?_)) | (refine WT.k_bin .neq rfl ?_; first | (refine WT.kn rfl ?_; first | refine WT.take rfl rfl (fun _ _ _ h => h) (Yl.strNeq rfl rfl) rfl (by kernel_rfl) (by kernel_rfl) ?_ | refine WT.take rfl rfl (fun _ _ _ h => h) (Yl.neq rfl rfl) rfl (by kernel_rfl) (by kernel_rfl) ?_) | (refine WT.kg rfl ?_; first | refine WT.takeG rfl rfl rfl rfl (fun _ _ _ h => h) (Yl.strNeq rfl rfl) rfl (by kernel_rfl) (by kernel_rfl) ?_ | refine WT.takeG rfl rfl rfl rfl (fun _ _ _ h => h) (Yl.neq rfl rfl) rfl (by kernel_rfl) (by kernel_rfl) ?_)) | (refine WT.k_bin .lss rfl ?_; first | (refine WT.kn rfl ?_; first | refine WT.take rfl rfl (fun _ _ _ h => h) (Yl.lss rfl rfl) rfl (by kernel_rfl) (by kernel_rfl) ?_) | (refine WT.kg rfl ?_; first | refine WT.takeG rfl rfl rfl rfl (fun _ _ _ h => h) (Yl.lss rfl rfl) rfl (by kernel_rfl) (by kernel_rfl) ?_)) | (refine WT.k_bin .gtr rfl ?_; first | (refine WT.kn rfl ?_; first | refine WT.take rfl rfl (fun _ _ _ h => h) (Yl.gtr rfl rfl) rfl (by kernel_rfl) (by kernel_rfl) ?_) | (refine WT.kg rfl ?_; first | refine WT.takeG rfl rfl rfl rfl (fun _ _ _ h => h) (Yl.gtr rfl rfl) rfl (by kernel_rfl) (by kernel_rfl) ?_)))); refine WT.nil ?_)
          refine WH.only (i := 0) (by kernel_rfl) rfl ?_
          refine WL.lit (t := 38) (vs := []) Tryz.underlying38 elemU8 rfl rfl rfl (fun u hu => by cases hu) rfl fun bl => ?_
          refine WL.nil (WN.nextH .nil ?_)
          refine WH.only (i := 4) (by kernel_rfl) rfl ?_
          refine WL.appendRow (t := 38) (n := 0) (m := kp) (olds := []) (news := bs (m.take kp)) Tryz.underlying38 elemU8 rfl rfl (by repeat (first | exact Pick.here | apply Pick.there)) rfl (Nat.le_refl _) (Rd.old hcut) (by rw [bs_length, hkl, Nat.mul_one]) (bs_one _) (by omega) (by simp only [maxLen]; omega) rfl fun q1 hq1 => ?_
          simp only [Nat.zero_add, List.nil_append] at hq1 ⊢
          refine WL.nil (WN.nextH .nil ?_)
          refine WH.only (i := 8) (by kernel_rfl) rfl ?_
          refine WL.appendRow (t := 38) (n := kp) (m := 128 - kp) (olds := bs (m.take kp)) (news := bs (l.drop kp)) Tryz.underlying38 elemU8 rfl rfl (by repeat (first | exact Pick.here | apply Pick.there)) (by rw [bs_length, hkl, Nat.mul_one]) hq1 (Rd.old hcut2) (by rw [bs_length, hkl2, Nat.mul_one]) (bs_one _) (by omega) (by simp only [maxLen]; omega) rfl fun q2 hq2 => ?_
          refine WL.nil (WN.nextH .nil ?_)
          (refine WH.order [9, 10] (by repeat (first | exact Part.nil | refine Part.cons (by repeat (first | exact Pick.here | apply Pick.there)) ?_ | refine Part.free ?_)) (by kernel_rfl) ?_; (repeat (first | refine WT.passG rfl rfl rfl rfl (fun _ _ _ h => h) rfl (by kernel_rfl) (by kernel_rfl) ?_ | refine WT.passU rfl rfl rfl (fun _ _ _ h => h) rfl (by kernel_rfl) (by kernel_rfl) ?_ | (refine WT.k_move rfl ?_; first | (refine WT.kn rfl ?_; first | refine WT.take rfl rfl (fun _ _ _ h => h) (Yl.move rfl) rfl (by kernel_rfl) (by kernel_rfl) ?_) | (refine WT.kg rfl ?_; first | refine WT.takeG rfl rfl rfl rfl (fun _ _ _ h => h) (Yl.move rfl) rfl (by kernel_rfl) (by kernel_rfl) ?_)) | (refine WT.k_assign rfl ?_; first | (refine WT.kn rfl ?_; first | refine WT.take rfl rfl (fun _ _ _ h => h) (Yl.assign rfl) rfl (by kernel_rfl) (by kernel_rfl) ?_) | (refine WT.kg rfl ?_; first | refine WT.takeG rfl rfl rfl rfl (fun _ _ _ h => h) (Yl.assign rfl) rfl (by kernel_rfl) (by kernel_rfl) ?_)) | (refine WT.k_pick rfl ?_; first | (refine WT.kn rfl ?_; first | refine WT.take rfl rfl (fun _ _ _ h => h) (Yl.pick_t rfl rfl rfl) rfl (by kernel_rfl) (by kernel_rfl) ?_ | refine WT.take rfl rfl (fun _ _ _ h => h) (Yl.pick_f rfl rfl rfl) rfl (by kernel_rfl) (by kernel_rfl) ?_) | (refine WT.kg rfl ?_; first | refine WT.takeG rfl rfl rfl rfl (fun _ _ _ h => h) (Yl.pick_t rfl rfl rfl) rfl (by kernel_rfl) (by kernel_rfl) ?_ | refine WT.takeG rfl rfl rfl rfl (fun _ _ _ h => h) (Yl.pick_f rfl rfl rfl) rfl (by kernel_rfl) (by kernel_rfl) ?_)) | (refine WT.k_bi .len rfl ?_; first | (refine WT.kn rfl ?_; first | refine WT.take rfl rfl (fun _ _ _ h => h) (Yl.len (t := 38) Tryz.underlying38 rfl) rfl (by kernel_rfl) (by kernel_rfl) ?_) | (refine WT.kg rfl ?_; first | refine WT.takeG rfl rfl rfl rfl (fun _ _ _ h => h) (Yl.len (t := 38) Tryz.underlying38 rfl) rfl (by kernel_rfl) (by kernel_rfl) ?_)) | (refine WT.k_bin .neq rfl ?_; first | (refine WT.kn rfl ?_; first | refine WT.take rfl rfl (fun _ _ _ h => h) (Yl.strNeq rfl rfl) rfl (by kernel_rfl) (by kernel_rfl) ?_ | refine WT.take rfl rfl (fun _ _ _ h => h) (Yl.neq rfl rfl) rfl (by kernel_rfl) (by kernel_rfl) ?_) | (refine WT.kg rfl ?_; first | refine WT.takeG rfl rfl rfl rfl (fun _ _ _ h => h) (Yl.strNeq rfl rfl) rfl (by kernel_rfl) (by kernel_rfl) ?_ | refine WT.takeG rfl rfl rfl rfl (fun _ _ _ h => h) (Yl.neq rfl rfl) rfl (by kernel_rfl) (by kernel_rfl) ?_)) | (refine WT.k_bin .lss rfl ?_; first | (refine WT.kn rfl ?_; first | refine WT.take rfl rfl (fun _ _ _ h => h) (Yl.lss rfl rfl) rfl (by kernel_rfl) (by kernel_rfl) ?_) | (refine WT.kg rfl ?_; first | refine WT.takeG rfl rfl rfl rfl (fun _ _ _ h => h) (Yl.lss rfl rfl) rfl (by kernel_rfl) (by kernel_rfl) ?_)) | (refine WT.k_bin .gtr rfl ?_; first | (refine WT.kn rfl ?_; first | refine WT.take rfl rfl (fun _ _ _ h => h) (Yl.gtr rfl rfl) rfl (by kernel_rfl) (by kernel_rfl) ?_) | (refine WT.kg rfl ?_; first | refine WT.takeG rfl rfl rfl rfl (fun _ _ _ h => h) (Yl.gtr rfl rfl) rfl (by kernel_rfl) (by kernel_rfl) ?_)))); refine WT.nil ?_)
          refine WH.done (by kernel_rfl) ?_
          (repeat (first | (refine WL.kG ?_; first | refine WL.want rfl rfl rfl ?_ | refine WL.pass rfl rfl rfl rfl ?_) | (refine WL.k_move ?_; first | refine WL.step (Yl.move rfl) rfl ?_) | (refine WL.k_assign ?_; first | refine WL.step (Yl.assign rfl) rfl ?_) | (refine WL.k_pick ?_; first | refine WL.step (Yl.pick_t rfl rfl rfl) rfl ?_ | refine WL.step (Yl.pick_f rfl rfl rfl) rfl ?_) | (refine WL.k_bi .len ?_; first | refine WL.step (Yl.len (t := 38) Tryz.underlying38 rfl) rfl ?_) | (refine WL.k_bin .neq ?_; first | refine WL.step (Yl.strNeq rfl rfl) rfl ?_ | refine WL.step (Yl.neq rfl rfl) rfl ?_) | (refine WL.k_bin .lss ?_; first | refine WL.step (Yl.lss rfl rfl) rfl ?_) | (refine WL.k_bin .gtr ?_; first | refine WL.step (Yl.gtr rfl rfl) rfl ?_) | refine WC.seq ?_ | refine WC.region ?_ | refine WL.nil ?_ | refine WN.then_normal ?_ | refine WC.skip ?_ | refine WC.ret ?_ | refine WN.then_ret ?_))
          have htl : (m.take kp ++ l.drop kp).length = kp + (128 - kp) := by rw [List.length_append, hkl, hkl2]
          exact WN.ret2 rfl rfl rfl ⟨q2.1, q2.2, by show (m.take kp ++ l.drop kp).length ≤ _; omega, by show _ = Value.tuple #[.slice _ (m.take kp ++ l.drop kp).length _, _]; rw [htl]; rfl, by rw [bs_append]⟩ (.cons .here .nil)
    · rw [tearR, if_neg (by omega)]
      (repeat (first | (refine WL.kG ?_; first | refine WL.want rfl rfl rfl ?_ | refine WL.pass rfl rfl rfl rfl ?_) | (refine WL.k_move ?_; first | refine WL.step (Yl.move rfl) rfl ?_) | (refine WL.k_assign ?_; first | refine WL.step (Yl.assign rfl) rfl ?_) | (refine WL.k_pick ?_; first | refine WL.step (Yl.pick_t rfl rfl rfl) rfl ?_ | refine WL.step (Yl.pick_f rfl rfl rfl) rfl ?_) | (refine WL.k_bin .neq ?_; first | refine WL.step (Yl.neqF rfl rfl (by omega)) rfl ?_ | refine WL.step (Yl.neqT rfl rfl (by omega)) rfl ?_ | refine WL.step (Yl.strNeq rfl rfl) rfl ?_ | refine WL.step (Yl.neq rfl rfl) rfl ?_) | (refine WL.k_bi .len ?_; first | refine WL.step (Yl.len (t := 38) Tryz.underlying38 rfl) rfl ?_) | (refine WL.k_bin .lss ?_; first | refine WL.step (Yl.lss rfl rfl) rfl ?_) | (refine WL.k_bin .gtr ?_; first | refine WL.step (Yl.gtr rfl rfl) rfl ?_) | refine WC.seq ?_ | refine WC.region ?_ | refine WL.nil ?_ | refine WN.then_normal ?_ | refine WC.skip ?_ | refine WC.ret ?_ | refine WN.then_ret ?_))
      refine WC.cond_true rfl rfl ?_
      (repeat (first | (refine WL.kG ?_; first | refine WL.want rfl rfl rfl ?_ | refine WL.pass rfl rfl rfl rfl ?_) | (refine WL.k_move ?_; first | refine WL.step (Yl.move rfl) rfl ?_) | (refine WL.k_assign ?_; first | refine WL.step (Yl.assign rfl) rfl ?_) | (refine WL.k_pick ?_; first | refine WL.step (Yl.pick_t rfl rfl rfl) rfl ?_ | refine WL.step (Yl.pick_f rfl rfl rfl) rfl ?_) | (refine WL.k_bi .len ?_; first | refine WL.step (Yl.len (t := 38) Tryz.underlying38 rfl) rfl ?_) | (refine WL.k_bin .neq ?_; first | refine WL.step (Yl.strNeq rfl rfl) rfl ?_ | refine WL.step (Yl.neq rfl rfl) rfl ?_) | (refine WL.k_bin .lss ?_; first | refine WL.step (Yl.lss rfl rfl) rfl ?_) | (refine WL.k_bin .gtr ?_; first | refine WL.step (Yl.gtr rfl rfl) rfl ?_) | refine WC.seq ?_ | refine WC.region ?_ | refine WL.nil ?_ | refine WN.then_normal ?_ | refine WC.skip ?_ | refine WC.ret ?_ | refine WN.then_ret ?_))
      exact WN.ret2 rfl rfl rfl ⟨none, 0, Nat.le_refl _, rfl, rfl⟩ (.free .nil)
  · rw [tearR, if_neg (by omega)]
    (repeat (first | (refine WL.kG ?_; first | refine WL.want rfl rfl rfl ?_ | refine WL.pass rfl rfl rfl rfl ?_) | (refine WL.k_move ?_; first | refine WL.step (Yl.move rfl) rfl ?_) | (refine WL.k_assign ?_; first | refine WL.step (Yl.assign rfl) rfl ?_) | (refine WL.k_pick ?_; first | refine WL.step (Yl.pick_t rfl rfl rfl) rfl ?_ | refine WL.step (Yl.pick_f rfl rfl rfl) rfl ?_) | (refine WL.k_bin .neq ?_; first | refine WL.step (Yl.neqT rfl rfl (by omega)) rfl ?_ | refine WL.step (Yl.strNeq rfl rfl) rfl ?_ | refine WL.step (Yl.neq rfl rfl) rfl ?_) | (refine WL.k_bi .len ?_; first | refine WL.step (Yl.len (t := 38) Tryz.underlying38 rfl) rfl ?_) | (refine WL.k_bin .lss ?_; first | refine WL.step (Yl.lss rfl rfl) rfl ?_) | (refine WL.k_bin .gtr ?_; first | refine WL.step (Yl.gtr rfl rfl) rfl ?_) | refine WC.seq ?_ | refine WC.region ?_ | refine WL.nil ?_ | refine WN.then_normal ?_ | refine WC.skip ?_ | refine WC.ret ?_ | refine WN.then_ret ?_))
    refine WC.cond_true rfl rfl ?_
    (repeat (first | (refine WL.kG ?_; first | refine WL.want rfl rfl rfl ?_ | refine WL.pass rfl rfl rfl rfl ?_) | (refine WL.k_move ?_; first | refine WL.step (Yl.move rfl) rfl ?_) | (refine WL.k_assign ?_; first | refine WL.step (Yl.assign rfl) rfl ?_) | (refine WL.k_pick ?_; first | refine WL.step (Yl.pick_t rfl rfl rfl) rfl ?_ | refine WL.step (Yl.pick_f rfl rfl rfl) rfl ?_) | (refine WL.k_bi .len ?_; first | refine WL.step (Yl.len (t := 38) Tryz.underlying38 rfl) rfl ?_) | (refine WL.k_bin .neq ?_; first | refine WL.step (Yl.strNeq rfl rfl) rfl ?_ | refine WL.step (Yl.neq rfl rfl) rfl ?_) | (refine WL.k_bin .lss ?_; first | refine WL.step (Yl.lss rfl rfl) rfl ?_) | (refine WL.k_bin .gtr ?_; first | refine WL.step (Yl.gtr rfl rfl) rfl ?_) | refine WC.seq ?_ | refine WC.region ?_ | refine WL.nil ?_ | refine WN.then_normal ?_ | refine WC.skip ?_ | refine WC.ret ?_ | refine WN.then_ret ?_))
    exact WN.ret2 rfl rfl rfl ⟨none, 0, Nat.le_refl _, rfl, rfl⟩ (.free .nil)
end Go.Proofs.YtmmpngigaodcgaaGreat
