import Derived.Test.YtbkdjfgkebkknaaGreatDoorRowJournalRowsMg7
import Derived.Test.YtbkdjfgkebkknaaGreatDoorRowJournalRowsMg5
import Derived.Test.YtbkdjfgkebkknaaGreatDoorRowJournalRowsMg4
import Derived.Maps.RangeRun
import Derived.ScopeJumps
namespace Go.Proofs.YtbkdjfgkebkknaaGreatDoor
set_option linter.unusedVariables false
set_option linter.unusedSimpArgs false
open Go Go.RowKit
set_option maxRecDepth 100000
structure Sl where
  a : Option Addr
  c : Nat
  l : List UInt8
def Sl.v (s : Sl) : Value := .slice s.a s.l.length s.c
def Sl.nil : Sl := ⟨none, 0, []⟩
instance : Inhabited Sl := ⟨Sl.nil⟩
def svs (L : List Sl) : List Value := L.map Sl.v
theorem svs_len (L : List Sl) : (svs L).length = L.length := List.length_map _
theorem svs_at {L : List Sl} {i : Nat} (h : i < L.length) : (svs L)[i]? = some (L.getD i Sl.nil).v := by simp [svs, List.getD, h]
theorem svs_set (L : List Sl) (i : Nat) (s : Sl) : (svs L).set i s.v = svs (L.set i s) := by simp [svs, List.map_set]
theorem svs_one (L : List Sl) : ∀ u ∈ svs L, u.oneCell' = true := fun u h => by
  obtain ⟨s, _, rfl⟩ := List.mem_map.1 h; rfl
theorem sl_mem {L : List Sl} {i : Nat} (h : i < L.length) : L.getD i Sl.nil ∈ L := by
  have : L[i]? = some (L.getD i Sl.nil) := by simp [List.getD, h]
  exact List.mem_of_getElem? this
theorem sl_set_same {L : List Sl} {i : Nat} (h : i < L.length) (s : Sl) : (L.set i s).getD i Sl.nil = s := by simp [List.getD, h]
theorem sl_set_ne {L : List Sl} {i j : Nat} (h : i ≠ j) (s : Sl) : (L.set i s).getD j Sl.nil = L.getD j Sl.nil := by simp [List.getD, List.getElem?_set_ne h]
def InF (Z : List HA) (s : Sl) : Prop := s.l = [] ∨ (s.l.length ≤ s.c ∧ ∃ T, HA.row s.a s.c T 1 (bs s.l) ∈ Z)
def OutF (w : World) (S : List Nat) (s : Sl) : Prop := s.l.length ≤ s.c ∧ CellsOut w S s.a (bs s.l)
theorem InF.mono {Z Z' : List HA} {s : Sl} (h : InF Z s) (hz : ∀ x ∈ Z, x ∈ Z') : InF Z' s := h.imp id fun ⟨h1, T, h2⟩ => ⟨h1, T, hz _ h2⟩
theorem InF.nil (Z : List HA) : InF Z Sl.nil := .inl rfl
theorem InF.rd {X : Cx} {A Z : List HA} {s : Sl} (h : InF Z s) (hz : ∀ x ∈ Z, x ∈ A) : Rd X A s.a (bs s.l) := by
  rcases h with h | ⟨_, T, h⟩
  · rw [h]; exact .nil
  · exact .row (hz _ h)
theorem InF.out {w0 w : World} {S : List Nat} {A A0 B : List HA} {s : Sl} (h : InF B s) (st : St w0 S A w) (hp : A.Perm (A0 ++ B)) : CellsOut w (A0.filterMap HA.foot) s.a (bs s.l) := by
  rcases h with h | ⟨_, T, h⟩
  · rw [h]; exact .inl rfl
  · exact row_out st hp h
theorem Part.more {A : List HA} {x : HA} {B : List HA} (h : Part A B) : Part (x :: A) B := by
  induction h with
  | nil => exact .nil
  | cons p _ ih =>
    refine .cons (.there p) ih
  | free _ ih => exact .free ih
theorem Part.refl : ∀ (A : List HA), Part A A
  | [] => .nil
  | _ :: A => .cons .here (Part.refl A)
theorem Pick.app {x : HA} : ∀ (Z : List HA) {A B : List HA}, Pick x A B → Pick x (Z ++ A) (Z ++ B)
  | [], _, _, p => p
  | _ :: Z, _, _, p => .there (Pick.app Z p)
theorem Part.pre : ∀ (Z : List HA) {A : List HA}, Part (Z ++ A) Z
  | [], _ => .nil
  | _ :: Z, _ => .cons .here (Part.pre Z)
theorem Part.swap (Z : List HA) {B C : List HA} (h : Part B C) : Part (Z ++ B) (C ++ Z) := by
  induction h with
  | nil => exact Part.pre Z
  | cons p _ ih => exact .cons (Pick.app Z p) ih
  | free _ ih => exact .free ih
theorem Part.app (Z : List HA) {B C : List HA} (h : Part B C) : Part (Z ++ B) (Z ++ C) := by
  induction Z with
  | nil => exact h
  | cons z Z ih => exact .cons .here ih
structure KnOk (os fs : List Sl) (d : List (List UInt8)) (F : Nat → Option (List UInt8)) : Prop where
  ol : os.length = d.length
  fl : fs.length = d.length
  od : ∀ i, i < d.length → (os.getD i Sl.nil).l = d.getD i []
  fd : ∀ i, i < d.length → F i = none ∧ fs.getD i Sl.nil = Sl.nil ∨ F i = some (fs.getD i Sl.nil).l
section
variable {os fs : List Sl} {d : List (List UInt8)} {F : Nat → Option (List UInt8)}
theorem KnOk.write (h : KnOk os fs d F) {i : Nat} (t : Sl) : KnOk os (fs.set i t) d (setF F i (some t.l)) := by
  refine ⟨h.ol, by rw [List.length_set, h.fl], h.od, fun j hj => ?_⟩
  by_cases e : i = j
  · subst e
    rw [sl_set_same (by rw [h.fl]; exact hj)]
    exact .inr (by simp [setF])
  · rw [sl_set_ne e]
    have := h.fd j hj
    rw [show setF F i (some t.l) j = F j by simp [setF, Ne.symm e]]
    exact this
theorem KnOk.crash {K : List Int} {s : BSt} (h : KnOk os fs s.1 s.2) {i j : Nat} (t : Sl) (ht : t.l = ((s.2 i).getD zblk).take (keepAt K j) ++ (s.1.getD i []).drop (keepAt K j)) : KnOk (os.set i t) (fs.set i Sl.nil) (cstep K s j i).1 (cstep K s j i).2 := by
  have hl : (cstep K s j i).1.length = s.1.length := cstep_len K s j i
  refine ⟨by rw [List.length_set, hl, h.ol], by rw [List.length_set, hl, h.fl], fun k hk => ?_, fun k hk => ?_⟩
  · rw [hl] at hk
    by_cases e : i = k
    · subst e
      rw [sl_set_same (by rw [h.ol]; exact hk), ht]
      simp [cstep, List.getD, hk]
    · rw [sl_set_ne e, h.od k hk]
      simp [cstep, List.getD, List.getElem?_set_ne e]
  · rw [hl] at hk
    by_cases e : i = k
    · subst e
      rw [sl_set_same (by rw [h.fl]; exact hk)]
      exact .inl ⟨by simp [cstep, setF], rfl⟩
    · rw [sl_set_ne e, show (cstep K s j i).2 k = s.2 k by simp [cstep, setF, Ne.symm e]]
      exact h.fd k hk
end
def dpre (F : Nat → Option (List UInt8)) (i : Nat) : List Nat := (List.range i).filter fun k => (F k).isSome
theorem dpre_none {F : Nat → Option (List UInt8)} {i : Nat} (h : F i = none) : dpre F (i + 1) = dpre F i := by simp [dpre, List.range_succ, List.filter_append, h]
theorem dpre_some {F : Nat → Option (List UInt8)} {i : Nat} {u : List UInt8} (h : F i = some u) : dpre F (i + 1) = dpre F i ++ [i] := by simp [dpre, List.range_succ, List.filter_append, h]
theorem dpre_le (F : Nat → Option (List UInt8)) (i : Nat) : (dpre F i).length ≤ i := by
  have := List.length_filter_le (fun k => (F k).isSome) (List.range i)
  rwa [List.length_range] at this
theorem dpre_all (F : Nat → Option (List UInt8)) (n : Nat) : dpre F n = dirtyOf n F := rfl
end Go.Proofs.YtbkdjfgkebkknaaGreatDoor
namespace Go.Proofs.YtbkdjfgkebkknaaGreatDoor
set_option linter.unusedVariables false
set_option linter.unusedSimpArgs false
open Go Go.RowKit
theorem Pick.of_mem {x : HA} : ∀ {A : List HA}, x ∈ A → ∃ B, Pick x A B
  | y :: A, h => by
    rcases List.mem_cons.1 h with rfl | h
    · exact ⟨A, .here⟩
    · obtain ⟨B, p⟩ := Pick.of_mem h
      exact ⟨y :: B, .there p⟩
theorem Part.perm : ∀ {B A : List HA}, A.Perm B → Part A B
  | [], _, _ => .nil
  | x :: B, A, h => by
    obtain ⟨A', p⟩ := Pick.of_mem (h.mem_iff.2 (.head _))
    exact .cons p (Part.perm ((List.perm_cons x).1 (p.perm.symm.trans h)))
theorem WL.part {X : Cx} {ops : Array Oper} {Q : Exit → Act → World → Prop} {l : List Oper} {ρ : Env} {A B : List HA} (hp : Part A B) (h : WL X ops Q l ρ B) : WL X ops Q l ρ A := fun a w f s => h a w f (s.part hp)
theorem WC.part {X : Cx} {c : Code} {Q : Exit → Act → World → Prop} {ρ : Env} {A B : List HA} (hp : Part A B) (h : WC X c Q ρ B) : WC X c Q ρ A := fun a w f s => h a w f (s.part hp)
end Go.Proofs.YtbkdjfgkebkknaaGreatDoor
namespace Go.Proofs.YtbkdjfgkebkknaaGreatDoor
set_option linter.unusedVariables false
set_option linter.unusedSimpArgs false
open Go Go.RowKit
open Go.ChangeMaps (setBlock)
set_option maxRecDepth 100000
def Jmp (J : Nat → Act → World → Prop) (Q : Exit → Act → World → Prop) : Exit → Act → World → Prop
  | .goto l, a, w => J l a w
  | e, a, w => Q e a w
theorem wp_scope_ghost {γ : Type} {P : Program} {a : Act} {w : World} {Q : Exit → Act → World → Prop} {c : Code} (lab : γ → Nat) (R : γ → Code) (J : γ → Act → World → Prop) (μ : γ → Nat) (hf : ∀ g, findLabel c (lab g) = some (R g))
    (first : c.wp P (Jmp (fun l a w => ∃ g, lab g = l ∧ J g a w) Q) a w)
    (pass : ∀ g a w, J g a w → (R g).wp P (Jmp (fun l a' w' => ∃ g', lab g' = l ∧ J g' a' w' ∧ μ g' < μ g) Q) a w) : (Code.scope c).wp P Q a w := by
  intro b k cs
  have hg : ∀ g, gotoIn (lab g) (.inScope c :: k) = some (.code (R g) :: .inScope c :: k) := fun g => by simp [gotoIn, hf g]
  have key : ∀ n g a w, μ g = n → J g a w → ∃ e a' w', Q e a' w' ∧ Arrives P (lone (b.at a (.code (R g) :: .inScope c :: k)) cs w) b k cs e a' w' := by
    intro n
    induction n using Nat.strongRecOn with
    | _ n ih =>
      intro g a w hn hJ
      obtain ⟨e, a₁, w₁, hq, harr⟩ := pass g a w hJ b (.inScope c :: k) cs
      cases e with
      | normal => exact ⟨.normal, a₁, w₁, hq, Steps.trans harr (.one step_inScope)⟩
      | exit id => exact ⟨.exit id, a₁, w₁, hq, fun k' hk => harr k' (by simp [exitTo, hk])⟩
      | goto l' =>
        obtain ⟨g', rfl, hJ', hlt⟩ := hq
        obtain ⟨e₂, a₂, w₂, hq₂, harr₂⟩ := ih _ (by omega) g' a₁ w₁ rfl hJ'
        exact ⟨e₂, a₂, w₂, hq₂, .of_steps (harr _ (hg g')) harr₂⟩
      | ret => exact ⟨_, a₁, w₁, hq, harr⟩
      | panic ch => exact ⟨_, a₁, w₁, hq, harr⟩
      | outgrown => exact ⟨_, a₁, w₁, hq, harr⟩
  obtain ⟨e, a₁, w₁, hq, harr⟩ := first b (.inScope c :: k) cs
  cases e with
  | normal => exact ⟨.normal, a₁, w₁, hq, .head step_scope (Steps.trans harr (.one step_inScope))⟩
  | exit id => exact ⟨.exit id, a₁, w₁, hq, fun k' hk => .head step_scope (harr k' (by simp [exitTo, hk]))⟩
  | goto l' =>
    obtain ⟨g', rfl, hJ'⟩ := hq
    obtain ⟨e₂, a₂, w₂, hq₂, harr₂⟩ := key _ g' a₁ w₁ rfl hJ'
    exact ⟨e₂, a₂, w₂, hq₂, .of_steps (.head step_scope (harr _ (hg g'))) harr₂⟩
  | ret => exact ⟨_, a₁, w₁, hq, .of_steps (.one step_scope) harr⟩
  | panic ch => exact ⟨_, a₁, w₁, hq, .of_steps (.one step_scope) harr⟩
  | outgrown => exact ⟨_, a₁, w₁, hq, .of_steps (.one step_scope) harr⟩
def GJ {γ : Type} (X : Cx) (E : γ → Env) (B : γ → List HA) (H : γ → Prop) (lab : γ → Nat) (p : γ → Prop) (l : Nat) (a : Act) (w : World) : Prop := ∃ g, lab g = l ∧ p g ∧ H g ∧ Fr X.n (E g) a ∧ St X.w0 X.S (B g) w
section
variable {γ : Type} {X : Cx} {Q : Exit → Act → World → Prop} {ρ : Env} {A : List HA} {E : γ → Env} {B : γ → List HA} {H : γ → Prop} {lab : γ → Nat} {p : γ → Prop} {J : Nat → Act → World → Prop} {K : Act → World → Prop}
theorem WC.scopeG (E : γ → Env) (B : γ → List HA) (H : γ → Prop) (lab : γ → Nat) (R : γ → Code) (μ : γ → Nat) {c : Code} (hf : ∀ g, findLabel c (lab g) = some (R g)) (first : WC X c (Jmp (GJ X E B H lab fun _ => True) Q) ρ A)
    (pass : ∀ g, H g → WC X (R g) (Jmp (GJ X E B H lab fun g' => μ g' < μ g) Q) (E g) (B g)) : WC X (.scope c) Q ρ A := fun a w f s =>
  wp_scope_ghost lab R (fun g a w => H g ∧ Fr X.n (E g) a ∧ St X.w0 X.S (B g) w) μ hf
    (wp_mono (first a w f s) fun e a' w' hq => by
      cases e with
      | goto l => obtain ⟨g, hl, _, hg, f', s'⟩ := hq; exact ⟨g, hl, hg, f', s'⟩
      | _ => exact hq)
    (fun g a w ⟨hg, f', s'⟩ => wp_mono (pass g hg a w f' s') fun e a' w' hq => by
      cases e with
      | goto l => obtain ⟨g', hl, hp, hg', f2, s2⟩ := hq; exact ⟨g', hl, ⟨hg', f2, s2⟩, hp⟩
      | _ => exact hq)
theorem WN.jump {l : Nat} (g : γ) (hl : lab g = l) (hp : p g) (hg : H g) (hs : Sub ρ (E g)) (hm : Part A (B g)) : WN X (Jmp (GJ X E B H lab p) Q) (.goto l) ρ A := fun _ _ f s => ⟨g, hl, hp, hg, f.of_sub hs, s.part hm⟩
theorem WC.goto {l : Nat} (h : WN X Q (.goto l) ρ A) : WC X (.goto l) Q ρ A := fun a w f s => wp_goto (h a w f s)
theorem WN.then_goto {l : Nat} (h : WN X Q (.goto l) ρ A) : WN X (Exit.then K Q) (.goto l) ρ A := h
theorem WN.block_goto {l id : Nat} (h : WN X Q (.goto l) ρ A) : WN X (Exit.inBlock id Q) (.goto l) ρ A := h
theorem WN.jmp_ret (h : WN X Q .ret ρ A) : WN X (Jmp J Q) .ret ρ A := h
end
section
variable {β : Type} {X : Cx} {ops : Array Oper} {Q : Exit → Act → World → Prop} {ρ : Env} {A B : List HA} {rest : List Oper} {d : Tmp} {ty : TypeId} {ps : String} {af : Array Edge} {v : Value}
variable {n c b k r : Nat} {F : Nat → Option β} {M : List (Nat × β × Nat)} {enc : β → Value} {t K E : TypeId} {x y : Operand} {seen : Array Nat}
theorem MapIs.len (h : MapIs n F M c) : M.length = (dirtyOf n F).length := by
  have hp := h.sorted (ss := M.map fun x => (x.1 : Int)) (List.Perm.refl _)
  have := congrArg List.length hp
  rwa [List.length_mergeSort, List.length_map, List.length_map] at this
theorem Yl.lenMap (hu : X.P.underlying t = some (.map K E)) (hx : ev ρ x = some (.map (some b))) (hM : MapIs n F M c) (hm : Has X A b (mobj enc M c)) :
    Yl X (.call { callee := .builtin .len, args := #[x], argTypes := #[t] }) ty ρ A (.int .i64 ((dirtyOf n F).length : Int)) := Yl.intro fun o ho _ a w f s => by
  have hb : w.heap[b]? = some (.map (M.map (ment enc)).toArray c) := hm w s
  simp [execOp, ho, resolve, invoke, builtin, f.ev hx, Builtin.len_, run_underlying hu, goInt, run_getObj_map hb, ← hM.len]
def iter (b c : Nat) (seen : Array Nat) : Obj := .mapIter (some b) c seen c
theorem WL.rangeMap (hu : X.P.underlying t = some (.map K E)) (hx : ev ρ x = some (.map (some b))) (hm : Has X A b (mobj enc M c)) (hd : Nat.blt d X.n = true)
    (h : ∀ r, WL X ops Q rest ((d, .pointer (some ⟨r, 0, none⟩)) :: ρ) (.blk r (iter b c #[]) :: A)) : WL X ops Q (⟨some d, .range t x, ty, ps, af, none⟩ :: rest) ρ A :=
  WL.stepE (fun r : Nat => .pointer (some ⟨r, 0, none⟩)) (fun r => .blk r (iter b c #[]) :: A) (fun o ho _ a w f s => by
    have hb : w.heap[b]? = some (.map (M.map (ment enc)).toArray c) := hm w s
    refine ⟨w.heap.size, w.alloc (iter b c #[]), ?_, s.alloc _⟩
    simp only [execOp, ho, f.ev hx, Instr.range, Sem.run_bind, run_underlying hu, Result.andThen_ok, run_getObj_map hb, Sem.run_pure]
    rfl) hd h
theorem left_mem {es : Array MapEntry} {e : MapEntry} (h : e ∈ (leftOf es seen).toList) : e ∈ es.toList ∧ seen.contains e.born = false := by
  simpa [leftOf] using h
theorem WL.nextMap (hx : ev ρ x = some (.pointer (some ⟨r, 0, none⟩))) (hM : MapIs n F M c) (hp : Pick (.blk r (iter b c seen)) A B) (hm : HA.blk b (mobj enc M c) ∈ B) (hd : Nat.blt d X.n = true)
    (h0 : (∀ e ∈ M, seen.contains e.2.2 = true) → WL X ops Q rest ((d, .tuple #[.bool false]) :: ρ) (.blk r (iter b c seen) :: B))
    (h1 : ∀ e ∈ M, seen.contains e.2.2 = false → WL X ops Q rest ((d, .tuple #[.bool true, .int .i64 (e.1 : Int), enc e.2.1]) :: ρ) (.blk r (iter b c (seen.push e.2.2)) :: B)) :
    WL X ops Q (⟨some d, .next x false, ty, ps, af, none⟩ :: rest) ρ A :=
  fun a w f s => wpList_plain rfl fun K hK => by
    have s1 := s.pick hp
    have hr : w.heap[r]? = some (iter b c seen) := s1.holds _ (.head _)
    have hb : w.heap[b]? = some (.map (M.map (ment enc)).toArray c) := s1.holds _ (.tail _ hm)
    have hold : ∀ e ∈ (M.map (ment enc)).toArray.toList, e.born < c := fun e he => by
      simp only [List.mem_map] at he
      obtain ⟨y, hy, rfl⟩ := he
      exact hM.born y hy
    unfold Oper.wp
    simp only [execOp, f.ev hx]
    rcases run_next_at (P := X.P) w ty r b c c seen (M.map (ment enc)).toArray c hr hb hold (Nat.le_refl _) with ⟨hz, hrun⟩ | ⟨e, he, w1, hw1, hrun⟩
    · simp only [Sem.run_bind, hrun, Result.andThen_ok, Sem.run_pure]
      refine hK _ _ (h0 (fun y hy => ?_) _ _ (f.put (blt_lt hd) _) s1)
      cases hc : seen.contains y.2.2 with
      | true => rfl
      | false =>
        have : ment enc y ∈ (leftOf (M.map (ment enc)).toArray seen).toList := by
          simp only [leftOf, Array.mem_toList_iff, Array.mem_filter]
          exact ⟨by simpa using ⟨y.1, y.2.1, y.2.2, hy, rfl⟩, by simpa [ment] using hc⟩
        rw [Array.eq_empty_of_size_eq_zero hz] at this
        simp at this
    · obtain ⟨hmem, hns⟩ := left_mem he
      simp only [List.mem_map] at hmem
      obtain ⟨y, hy, rfl⟩ := hmem
      simp only [Sem.run_bind, hrun, Result.andThen_ok, Sem.run_pure]
      refine hK _ _ (h1 y hy hns _ _ (f.put (blt_lt hd) _) ?_)
      have hw : w1.heap = w.heap := by rcases hw1 with rfl | rfl <;> rfl
      have hlt := lt_of_heap hr
      refine s1.put (x := .blk r _) (y := .blk r (iter b c (seen.push y.2.2))) rfl rfl ⟨?_, ?_, ?_, ?_, fun k _ hk => ?_⟩ ?_
      · rcases hw1 with rfl | rfl <;> rfl
      · rcases hw1 with rfl | rfl <;> rfl
      · rcases hw1 with rfl | rfl <;> rfl
      · simp [setBlock, hw]
      · simp at hk
        simp [setBlock, hw, Array.getElem?_setIfInBounds_ne (Ne.symm hk)]
      · show (setBlock w1 r _).heap[r]? = _
        simp [setBlock, hw, hlt, iter, ment]
theorem Yl.entryMap {e : Nat × β × Nat} (hx : ev ρ x = some (.pointer (some ⟨r, 0, none⟩))) (hM : MapIs n F M c) (he : e ∈ M) (hr : Has X A r (iter b c (seen.push e.2.2))) (hm : Has X A b (mobj enc M c)) :
    Yl X (.entry x) ty ρ A (.tuple #[.int .i64 (e.1 : Int), enc e.2.1]) := Yl.intro fun o ho _ a w f s => by
  have hb : w.heap[b]? = some (.map (M.map (ment enc)).toArray c) := hm w s
  have := run_entry_at (P := X.P) w r b c seen (M.map (ment enc)).toArray c (ment enc e) (hr w s) hb (by simpa using ⟨e.1, e.2.1, e.2.2, he, rfl⟩) (by
    rw [List.toList_toArray, List.map_map]; exact hM.borns)
  simp only [execOp, ho, f.ev hx, Sem.run_bind, this, Result.andThen_ok, Sem.run_pure]
  rfl
theorem WL.mapEntry {z0 : β} (hu : X.P.underlying t = some (.map K E)) (hK : X.P.underlying K = some (.int .i64)) (hz : ∀ w, (zeroValue E).run X.P w = .ok (enc z0) w)
    (hx : ev ρ x = some (.map (some b))) (hy : ev ρ y = some (.int .i64 (k : Int))) (hM : MapIs n F M c) (hF : F k = none) (hp : Pick (.blk b (mobj enc M c)) A B) (hd : Nat.blt d X.n = true)
    (h : WL X ops Q rest ((d, .tuple #[enc z0, .int .i64 (c : Int)]) :: ρ) (.blk b (mobj enc (M ++ [(k, z0, c)]) (c + 1)) :: B)) :
    WL X ops Q (⟨some d, .mapEntry t x y, ty, ps, af, none⟩ :: rest) ρ A :=
  WL.step1 (fun o ho _ a w f s => by
    have s1 := s.pick hp
    have hb0 : w.heap[b]? = some (mobj enc M c) := s1.holds _ (.head _)
    have hf : fnd M k 0 = none := by
      have e := hM.fnd_eq k
      rw [hF] at e
      cases h : fnd M k 0 with
      | none => rfl
      | some p => rw [h] at e; cases e
    refine ⟨mset w b (mobj enc (M ++ [(k, z0, c)]) (c + 1)), ?_, s1.put (x := .blk b _) (y := .blk b (mobj enc (M ++ [(k, z0, c)]) (c + 1))) rfl rfl (Kept.mset w b _) ?_⟩
    · simp only [execOp, ho, f.ev hx, f.ev hy, Instr.mapEntry, Sem.run_bind, run_underlying hu, Result.andThen_ok, run_getObj_map hb0, checkKey_int hK, findKey_int hK, hf, Option.map_none, hz, run_setObj_map _ hb0, Sem.run_pure]
      simp [mobj, ment, goInt]
    · show (mset w b _).heap[b]? = _
      have := (Array.getElem?_eq_some_iff.1 hb0).1
      simp [mset, this]) hd h
theorem modify_last {α : Type} (f : α → α) (x : α) : ∀ L : List α, (L ++ [x]).modify L.length f = L ++ [f x]
  | [] => rfl
  | y :: L => by simp [modify_last f x L]
theorem idx_last {L : List MapEntry} {e : MapEntry} (h : ∀ y ∈ L, y.born < e.born) : (L ++ [e]).toArray.findIdx? (fun y => (y.born : Int) == (e.born : Int)) = some L.length := by
  rw [List.findIdx?_toArray, List.findIdx?_append]
  have h0 : L.findIdx? (fun y => (y.born : Int) == (e.born : Int)) = none := by
    rw [List.findIdx?_eq_none_iff]
    intro y hy
    have := h y hy
    simp only [beq_eq_false_iff_ne, ne_eq]
    omega
  rw [h0]
  simp
theorem WL.entryStore {z0 u : β} {y2 : Operand} (hx : ev ρ x = some (.map (some b))) (hy : ev ρ y = some (.int .i64 (c : Int))) (hv : ev ρ y2 = some (enc u)) (hM : MapIs n F M c) (hp : Pick (.blk b (mobj enc (M ++ [(k, z0, c)]) (c + 1))) A B)
    (h : WL X ops Q rest ρ (.blk b (mobj enc (M ++ [(k, u, c)]) (c + 1)) :: B)) :
    WL X ops Q (⟨none, .entryStore t x y y2, ty, ps, af, none⟩ :: rest) ρ A :=
  WL.step0 (fun o ho _ a w f s => by
    have s1 := s.pick hp
    have hb0 : w.heap[b]? = some (mobj enc (M ++ [(k, z0, c)]) (c + 1)) := s1.holds _ (.head _)
    have hi := idx_last (L := M.map (ment enc)) (e := ment enc (k, z0, c)) (fun y hy => by
      simp only [List.mem_map] at hy
      obtain ⟨q, hq, rfl⟩ := hy
      exact hM.born q hq)
    refine ⟨.skip, mset w b (mobj enc (M ++ [(k, u, c)]) (c + 1)), ?_, .inl rfl, s1.put (x := .blk b _) (y := .blk b (mobj enc (M ++ [(k, u, c)]) (c + 1))) rfl rfl (Kept.mset w b _) ?_⟩
    · have hm : ((M.map (ment enc)) ++ [ment enc (k, z0, c)]).modify M.length (fun e => { e with val := enc u }) = (M.map (ment enc)) ++ [ment enc (k, u, c)] := by
        rw [show M.length = (M.map (ment enc)).length by simp]
        exact modify_last _ _ _
      have hi2 : ((M ++ [(k, z0, c)]).map (ment enc)).toArray.findIdx? (fun y => (y.born : Int) == (c : Int)) = some M.length := by
        have h9 := hi
        rw [List.length_map] at h9
        rw [List.map_append]
        exact h9
      have hai : (asInt (.int .i64 (c : Int))).run X.P w = .ok (c : Int) w := by simp [asInt, asIntOf]
      simp only [execOp, ho, f.ev hx, f.ev hy, f.ev hv, Instr.entryStore, Sem.run_bind, run_getObj_map hb0, Result.andThen_ok, hai, Sem.run_pure, hi2, List.modify_toArray, run_setObj_map _ hb0]
      simp only [mobj, List.map_append, List.map_cons, List.map_nil, hm]
    · show (mset w b _).heap[b]? = _
      have := (Array.getElem?_eq_some_iff.1 hb0).1
      simp [mset, this]) h
theorem Yl.cutAll {x l h m : Operand} {t e : TypeId} {a : Option Addr} {n cap k lo hi mx : Nat} {k1 k2 k3 : IntKind} (hu : X.P.underlying t = some (.slice e)) (hs : ∀ w, (sizeOf e).run X.P w = .ok k w)
    (hx : ev ρ x = some (.slice a n cap)) (hl : ev ρ l = some (.int k1 (lo : Int))) (hh : ev ρ h = some (.int k2 (hi : Int))) (hm : ev ρ m = some (.int k3 (mx : Int))) (h0 : lo ≤ hi) (h1 : hi ≤ mx) (h2 : mx ≤ cap) :
    Yl X (.slice t x (some l) (some h) (some m)) ty ρ A (.slice (cutA a lo mx k) (hi - lo) (mx - lo)) := Yl.intro fun o ho _ a w f _ => by
  simp [execOp, ho, f.ev hx, f.ev hl, f.ev hh, f.ev hm, Instr.sliceAt, Instr.slice, run_underlying hu, Instr.sliceBounds, Instr.sliceBound, asIntOf, h0, h1, h2, hs, cutA]
end
end Go.Proofs.YtbkdjfgkebkknaaGreatDoor
namespace Go.Proofs.YtbkdjfgkebkknaaGreatDoor
set_option linter.unusedVariables false
set_option linter.unusedSimpArgs false
open Go Go.RowKit
set_option maxRecDepth 100000
set_option maxHeartbeats 8000000
structure DP where
  bd : Nat
  bk : Nat
  da : Option Addr
  cap : Nat
  mb : Nat
structure Pl where
  b : Nat
  a : Option Addr
  c : Nat
  n : Nat
  K : List Int
structure DV where
  d : List (List UInt8)
  F : Nat → Option (List UInt8)
  down : Bool
  pl : Option (Nat × List Int)
  ops : Nat
  rd : Nat
structure DS where
  d : List (List UInt8)
  F : Nat → Option (List UInt8)
  M : List (Nat × List UInt8 × Nat)
  c : Nat
  down : Bool
  pl : Option Pl
  ops : Nat
  rd : Nat
def DS.v (s : DS) : DV := ⟨s.d, s.F, s.down, s.pl.map fun q => (q.n, q.K), s.ops, s.rd⟩
def plv : Option Pl → Value
  | none => .pointer none
  | some q => .pointer (some ⟨q.b, 0, none⟩)
def Pl.obj (q : Pl) : Obj := .cells #[.int .i64 (q.n : Int), .slice q.a q.K.length q.c] 63 (0, 0)
def plI : Option Pl → List HA
  | none => []
  | some q => [.blk q.b q.obj, .row q.a q.c 3 1 (zcells q.K)]
def drO (p : DP) (s : DS) : Obj := .cells #[bptr p.bk, .bool s.down, plv s.pl, .int .i64 (s.ops : Int), .int .i64 (s.rd : Int)] 75 (0, 0)
def drI (p : DP) (s : DS) : List HA := .blk p.bd (drO p s) :: (bankItems p.bk p.da p.cap p.mb s.d s.M s.c ++ plI s.pl)
def planOk (n : Int) (K : List Int) : Prop := 0 ≤ n ∧ n ≤ 1000000 ∧ 1 ≤ K.length ∧ K.length ≤ 64 ∧ ∀ k ∈ K, 0 ≤ k ∧ k ≤ 128
instance (n : Int) (K : List Int) : Decidable (planOk n K) := inferInstanceAs (Decidable (_ ∧ _))
structure Pl.Ok (q : Pl) : Prop where
  n1 : 1 ≤ q.n
  ok : planOk q.n q.K
  c : q.K.length ≤ q.c
structure DS.Ok (s : DS) (p : DP) : Prop where
  wf : BkWf s.d s.F
  cap : s.d.length ≤ p.cap
  m : MapIs s.d.length s.F s.M s.c
  pl : ∀ q, s.pl = some q → q.Ok
theorem planOk.keep {n : Int} {K : List Int} (h : planOk n K) : keepOk K := ⟨fun e => by have := h.2.2.1; rw [e] at this; simp at this, h.2.2.2.2⟩
structure DrAt (w : World) (p : DP) (s : DS) : Prop where
  blk : w.heap[p.bd]? = some (drO p s)
  bank : BankAt w p.bk p.da p.cap p.mb s.d s.F
  pl : ∀ q, s.pl = some q → w.heap[q.b]? = some q.obj ∧ CellsAt w q.a (zcells q.K) ∧ q.Ok
theorem DrAt.keep {w w' : World} {p : DP} {s : DS} (h : DrAt w p s) (k : Kept w [] w') : DrAt w' p s :=
  ⟨(k.block p.bd (lt_of_heap h.blk) (by simp)).trans h.blk, h.bank.keep k, fun q hq => ⟨(k.block q.b (lt_of_heap (h.pl q hq).1) (by simp)).trans (h.pl q hq).1, (h.pl q hq).2.1.keep k, (h.pl q hq).2.2⟩⟩
theorem drI_bank {p : DP} {s : DS} {x : HA} (h : x ∈ bankItems p.bk p.da p.cap p.mb s.d s.M s.c) : x ∈ drI p s := .tail _ (List.mem_append_left _ h)
theorem DS.Ok.at_ {s : DS} {p : DP} (h : s.Ok p) {w0 w : World} {S : List Nat} {A : List HA} (st : St w0 S A w) (hi : ∀ x ∈ drI p s, x ∈ A) : DrAt w p s := by
  refine ⟨st.holds _ (hi _ (.head _)), BankAt.of h.wf h.cap h.m (hi _ (drI_bank (by simp [bankItems]))) (hi _ (drI_bank (by simp [bankItems]))) (hi _ (drI_bank (by simp [bankItems]))) st, fun q hq => ?_⟩
  have m1 : HA.blk q.b q.obj ∈ A := hi _ (.tail _ (List.mem_append_right _ (by rw [hq]; exact .head _)))
  have m2 : HA.row q.a q.c 3 1 (zcells q.K) ∈ A := hi _ (.tail _ (List.mem_append_right _ (by rw [hq]; exact .tail _ (.head _))))
  exact ⟨st.holds _ m1, Rd.row (X := ⟨Tryz.prog, 0, w0, S⟩) m2 w st, h.pl q hq⟩
inductive DBad (w : World) : Value → Prop
  | none : DBad w (.pointer none)
  | zero (bd : Nat) : w.heap[bd]? = some (.cells #[.pointer none, .bool false, .pointer none, .int .i64 0, .int .i64 0] 75 (0, 0)) → DBad w (bptr bd)
theorem DBad.keep {w w' : World} {v : Value} (h : DBad w v) (k : Kept w [] w') : DBad w' v := by
  cases h with
  | none => exact .none
  | zero bd hb => exact .zero bd ((k.block bd (lt_of_heap hb) (by simp)).trans hb)
attribute [local irreducible] WL WC WN Yl WH WQ WT WE WU WG WV
section
variable {p : DP} {s : DS}
theorem dmade_c (w : World) (h : DrAt w p s) : Calls Tryz.prog 67 #[bptr p.bd] w (Gives (Val (.bool true)) w) := by
  refine enter (args := [.pointer (some ⟨p.bd, 0, none⟩)]) Tryz.func67 Tryz.ntmps67 rfl rfl ?_
  (repeat (first | refine WL.want rfl rfl rfl ?_ | refine WL.step (Yl.move rfl) rfl ?_ | refine WL.step (Yl.assign rfl) rfl ?_ | refine WL.step (Yl.loadH Tryz.isAgg70 rfl (Has.old h.blk) rfl) rfl ?_ | (refine WL.k_fld ?_; refine WL.step (Yl.fldN0 (i := 0) (o := 0) (by kernel_rfl) rfl) rfl ?_) | refine WL.step (Yl.pick_t rfl rfl rfl) rfl ?_ | (refine WL.k_bin .neq ?_; refine WL.step (Yl.neqPN (by kernel_rfl) rfl) rfl ?_) | refine WL.step (Yl.nilCheck rfl) rfl ?_ | refine WC.seq ?_ | refine WC.region ?_ | refine WL.nil ?_ | refine WN.then_normal ?_ | refine WC.ret ?_))
  exact WN.ret1 rfl rfl ⟨rfl, rfl⟩ .nil
theorem dcheck_c (w : World) (h : DrAt w p s) : Calls Tryz.prog 87 #[bptr p.bd] w (Gives (Val (.int .i64 (if s.down then 11 else 0))) w) := by
  refine enter (args := [.pointer (some ⟨p.bd, 0, none⟩)]) Tryz.func87 Tryz.ntmps87 rfl rfl ?_
  (repeat (first | refine WL.step (Yl.move rfl) rfl ?_ | refine WL.step (Yl.assign rfl) rfl ?_ | refine WL.callV (g := 67) (v := .bool true) Tryz.call67 rfl (fun w0 st => dmade_c w0 (h.keep st.kept)) rfl ?_ | refine WL.step (Yl.not rfl) rfl ?_ | refine WC.seq ?_ | refine WC.region ?_ | refine WL.nil ?_ | refine WN.then_normal ?_ | refine WC.block ?_))
  refine WC.cond_false rfl rfl ?_
  (repeat (first | refine WL.step (Yl.move rfl) rfl ?_ | refine WL.step (Yl.assign rfl) rfl ?_ | refine WL.step (Yl.loadH Tryz.isAgg70 rfl (Has.old h.blk) rfl) rfl ?_ | (refine WL.k_fld ?_; refine WL.step (Yl.fldN0 (i := 1) (o := 1) (by kernel_rfl) rfl) rfl ?_) | refine WL.step (Yl.nilCheck rfl) rfl ?_ | refine WC.seq ?_ | refine WC.region ?_ | refine WL.nil ?_ | refine WN.then_normal ?_))
  cases e : s.down
  · refine WC.cond_false rfl rfl ?_
    (repeat (first | refine WL.step (Yl.assign rfl) rfl ?_ | refine WC.seq ?_ | refine WC.region ?_ | refine WL.nil ?_ | refine WN.then_normal ?_ | refine WC.skip ?_ | refine WC.ret ?_ | refine WN.block_normal ?_))
    exact WN.ret1 rfl rfl ⟨rfl, rfl⟩ .nil
  · refine WC.cond_true rfl rfl ?_
    (repeat (first | refine WL.step (Yl.assign rfl) rfl ?_ | refine WC.seq ?_ | refine WC.region ?_ | refine WL.nil ?_ | refine WN.then_normal ?_ | refine WC.ret ?_ | refine WN.then_ret ?_ | refine WN.block_ret ?_))
    exact WN.ret1 rfl rfl ⟨rfl, rfl⟩ .nil
theorem ddown_c (w : World) (h : DrAt w p s) : Calls Tryz.prog 27 #[bptr p.bd] w (Gives (Val (.bool s.down)) w) := by
  refine enter (args := [.pointer (some ⟨p.bd, 0, none⟩)]) Tryz.func27 Tryz.ntmps27 rfl rfl ?_
  (repeat (first | refine WL.want rfl rfl rfl ?_ | refine WL.step (Yl.move rfl) rfl ?_ | refine WL.step (Yl.assign rfl) rfl ?_ | refine WL.step (Yl.loadH Tryz.isAgg70 rfl (Has.old h.blk) rfl) rfl ?_ | (refine WL.k_fld ?_; refine WL.step (Yl.fldN0 (i := 1) (o := 1) (by kernel_rfl) rfl) rfl ?_) | refine WL.step (Yl.pick_t rfl rfl rfl) rfl ?_ | refine WL.callV (g := 67) (v := .bool true) Tryz.call67 rfl (fun w0 st => dmade_c w0 (h.keep st.kept)) rfl ?_ | refine WL.step (Yl.nilCheck rfl) rfl ?_ | refine WC.seq ?_ | refine WC.region ?_ | refine WL.nil ?_ | refine WN.then_normal ?_ | refine WC.ret ?_))
  exact WN.ret1 rfl rfl ⟨rfl, rfl⟩ .nil
theorem dlen_c (w : World) (h : DrAt w p s) : Calls Tryz.prog 56 #[bptr p.bd] w (Gives (Val (.int .i64 (s.d.length : Int))) w) := by
  refine enter (args := [.pointer (some ⟨p.bd, 0, none⟩)]) Tryz.func56 Tryz.ntmps56 rfl rfl ?_
  (repeat (first | refine WL.step (Yl.move rfl) rfl ?_ | refine WL.step (Yl.assign rfl) rfl ?_ | refine WL.callV (g := 67) (v := .bool true) Tryz.call67 rfl (fun w0 st => dmade_c w0 (h.keep st.kept)) rfl ?_ | refine WL.step (Yl.not rfl) rfl ?_ | refine WC.seq ?_ | refine WC.region ?_ | refine WL.nil ?_ | refine WN.then_normal ?_))
  refine WC.cond_false rfl rfl ?_
  (repeat (first | refine WL.step (Yl.move rfl) rfl ?_ | refine WL.step (Yl.assign rfl) rfl ?_ | refine WL.step (Yl.loadH Tryz.isAgg70 rfl (Has.old h.blk) rfl) rfl ?_ | (refine WL.k_fld ?_; refine WL.step (Yl.fldN0 (i := 0) (o := 0) (by kernel_rfl) rfl) rfl ?_) | refine WL.step (Yl.nilCheck rfl) rfl ?_ | refine WL.callV (g := 107) Tryz.call107 rfl (fun w0 st => len_c w0 ((h.keep st.kept).bank)) rfl ?_ | refine WC.seq ?_ | refine WC.region ?_ | refine WL.nil ?_ | refine WN.then_normal ?_ | refine WC.skip ?_ | refine WC.ret ?_))
  exact WN.ret1 rfl rfl ⟨rfl, rfl⟩ .nil
end
end Go.Proofs.YtbkdjfgkebkknaaGreatDoor
namespace Go.Proofs.YtbkdjfgkebkknaaGreatDoor
set_option linter.unusedVariables false
set_option linter.unusedSimpArgs false
open Go Go.RowKit
set_option maxRecDepth 100000
set_option maxHeartbeats 8000000
theorem keepOne : keepOk [128] := ⟨by simp, fun k hk => by simp at hk; omega⟩
theorem pk {x : HA} {A A1 B : List HA} (p : Pick x A A1) (h : A1.Perm B) : A.Perm (x :: B) := p.perm.trans (h.cons x)
section
variable {X : Cx} {ops : Array Oper} {Q : Exit → Act → World → Prop} {ρ : Env} {A B : List HA} {rest : List Oper} {d : Tmp} {op : Op} {ty : TypeId} {ps : String} {af : Array Edge} {v : Value}
theorem WL.callFS {A0 : List HA} {R : Value → List HA → Prop} {g : FuncId} {x : Operand} {xs : List Operand} {ts : Array TypeId} {vs cs : List Value} (he : ∀ args w, (callFunc g args).run X.P w = .ok (.enter g args) w) (hf : ev ρ x = some (.func (.func g) #[] cs.toArray)) (hx : evs ρ xs = some vs) (hp : A.Perm (A0 ++ B))
    (hc : ∀ w, St X.w0 X.S A w → St w (A0.filterMap HA.foot) A0 w → Calls X.P g (vs ++ cs).toArray w (GivesS (A0.filterMap HA.foot) R w)) (hd : Nat.blt d X.n = true) (h : ∀ v C, R v C → WL X ops Q rest ((d, v) :: ρ) (C ++ B)) :
    WL X ops Q (⟨some d, .call { callee := .value x, args := xs.toArray, argTypes := ts }, ty, ps, af, none⟩ :: rest) ρ A :=
  fun a w f s => wpList_plain rfl fun K hK => by
    unfold Oper.wp
    have e := evs_map f hx
    have e2 := f.ev hf
    have hr : (execOp a.eval ⟨some d, .call { callee := .value x, args := xs.toArray, argTypes := ts }, ty, ps, af, none⟩).run X.P w = .ok (.enter g (vs ++ cs).toArray) w := by
      simp [execOp, resolve, Deferred.ofValue, e2, invoke, e, he]
    rw [hr]
    have s1 := s.perm hp
    exact (hc w s s1.lend).mono fun e w' hq => by
      obtain ⟨v, B, rfl, hR, hs⟩ := hq
      exact hK _ _ (h v B hR _ _ (f.put (blt_lt hd) v) (s1.join (fun b hb => by obtain ⟨x, hx, hf⟩ := List.mem_filterMap.1 hb; exact ⟨x, hx, hf⟩) hs))
end
def DcV (p : DP) (s' : DS → Prop) (e : Nat) : Value → List HA → Prop := fun u B => u = .int .i64 (e : Int) ∧ ∃ s : DS, s' s ∧ B = .blk p.bd (drO p s) :: bankItems p.bk p.da p.cap p.mb s.d s.M s.c
def DrV (p : DP) (v : DV) (e : Nat) : Value → List HA → Prop := fun u B => u = .int .i64 (e : Int) ∧ ∃ s : DS, s.Ok p ∧ s.v = v ∧ B = drI p s
def CloneV (n : Int) (K : List Int) : Value → List HA → Prop := fun u B => ∃ b a c, u = .pointer (some ⟨b, 0, none⟩) ∧ K.length ≤ c ∧ B = [.blk b (.cells #[.int .i64 n, .slice a K.length c] 63 (0, 0)), .row a c 3 1 (zcells K)]
attribute [local irreducible] WL WC WN Yl WH WQ WT WE WU WG WV
theorem zcells_one (l : List Int) : ∀ u ∈ zcells l, u.oneCell' = true := fun u h => by obtain ⟨s, _, rfl⟩ := List.mem_map.1 h; rfl
theorem icl_c (a : Option Addr) (n cap : Nat) (l : List Int) (w : World) (hl : l.length = n) (hn : n ≤ 100000) (hr : CellsAt w a (zcells l)) :
    Calls Tryz.prog 115 #[.slice a n cap] w (Gives (NewRow id 3 1 n (zcells l)) w) := by
  refine enter (args := [_]) Tryz.func115 Tryz.ntmps115 rfl rfl ?_
  cases a with
  | none =>
    obtain rfl : l = [] := by
      rcases hr with h | ⟨b, off, h, _⟩
      · simpa [zcells] using h
      · cases h
    obtain rfl : n = 0 := hl.symm
    (repeat (first | refine WL.step (Yl.move rfl) rfl ?_ | refine WL.step (Yl.assign rfl) rfl ?_ | refine WL.step (Yl.eqNil (t := 61) Tryz.underlying61 rfl) rfl ?_ | refine WC.seq ?_ | refine WC.region ?_ | refine WL.nil ?_ | refine WN.then_normal ?_))
    refine WC.cond_true rfl rfl ?_
    (repeat (first | refine WL.step (Yl.assign rfl) rfl ?_ | refine WC.seq ?_ | refine WC.region ?_ | refine WL.nil ?_ | refine WN.then_normal ?_ | refine WC.ret ?_ | refine WN.then_ret ?_))
    exact WN.ret1 rfl rfl ⟨none, 0, by omega, rfl, rfl⟩ (.free .nil)
  | some ad =>
    (repeat (first | refine WL.step (Yl.move rfl) rfl ?_ | refine WL.step (Yl.assign rfl) rfl ?_ | refine WL.step (Yl.eqNil (t := 61) Tryz.underlying61 rfl) rfl ?_ | refine WC.seq ?_ | refine WC.region ?_ | refine WL.nil ?_ | refine WN.then_normal ?_))
    refine WC.cond_false rfl rfl ?_
    (repeat (first | refine WC.seq ?_ | refine WC.region ?_ | refine WN.then_normal ?_ | refine WC.skip ?_))
    refine WL.lit (t := 61) Tryz.underlying61 elemZ rfl rfl rfl (by simp) rfl fun b => ?_
    (repeat (first | refine WL.step (Yl.move rfl) rfl ?_))
    have hzl : (zcells l).length = n := by rw [zcells_len, hl]
    refine WL.appendRow (t := 61) (n := 0) (m := n) (olds := []) (news := zcells l) Tryz.underlying61 elemZ rfl rfl .here rfl (by omega) (.old hr) (by omega) (zcells_one l) (by omega) (by simp only [maxLen]; omega) rfl fun p hp => ?_
    (repeat (first | refine WL.step (Yl.assign rfl) rfl ?_ | refine WL.nil ?_ | refine WN.then_normal ?_ | refine WC.ret ?_))
    exact WN.ret1 rfl rfl ⟨p.1, p.2, by omega, by rw [Nat.zero_add]; rfl, rfl⟩ (.cons .here .nil)
theorem dclone_c (n : Int) (a : Option Addr) (m c2 : Nat) (K : List Int) (w : World) (hl : K.length = m) (hm : m ≤ 100000) (hr : CellsAt w a (zcells K)) : Calls Tryz.prog 68 #[.agg #[.int .i64 n, .slice a m c2]] w (Gives (CloneV n K) w) := by
  refine enter (args := [.agg #[.int .i64 n, .slice a m c2]]) Tryz.func68 Tryz.ntmps68 rfl rfl ?_
  subst hl
  (repeat (first | refine WC.seq ?_ | refine WC.region ?_))
  refine WL.boxA rfl rfl fun b1 => ?_
  (repeat (first | refine WL.step (Yl.assign rfl) rfl ?_ | (refine WL.k_load ?_; refine WL.step (Yl.loadBlk (T := 61) Tryz.isAgg61 rfl zH (by rfl)) rfl ?_) | (refine WL.k_fld ?_; refine WL.step (Yl.fldN0 (i := 1) (o := 1) (by kernel_rfl) rfl) rfl ?_) | refine WC.seq ?_ | refine WC.region ?_ | refine WL.nil ?_ | refine WN.then_normal ?_))
  refine WL.callR (g := 115) Tryz.call115 rfl (fun w0 st => icl_c a K.length c2 K w0 rfl hm (hr.keep st.kept)) rfl fun q hq => ?_
  simp only [id]
  (repeat (first | (refine WL.k_fld ?_; refine WL.step (Yl.fldN0 (i := 1) (o := 1) (by kernel_rfl) rfl) rfl ?_)))
  refine WL.storeAt (T := 61) Tryz.sizeOf61 rfl rfl rfl zK rfl ?_
  (repeat (first | refine WL.step (Yl.assign rfl) rfl ?_ | refine WC.seq ?_ | refine WC.region ?_ | refine WL.nil ?_ | refine WN.then_normal ?_ | refine WC.ret ?_))
  exact WN.ret1 rfl rfl ⟨b1, q.1, q.2, rfl, hq, rfl⟩ (.cons .here (.cons .here .nil))
theorem dbadk_c (k : Int) (w : World) : Calls Tryz.prog 127 #[.int .i64 k] w (Gives (Val (.bool (decide (¬ (0 ≤ k ∧ k ≤ 128))))) w) := by
  refine enter (args := [_]) Tryz.func127 Tryz.ntmps127 rfl rfl ?_
  by_cases h1 : k < 0
  · rw [decide_eq_true (by omega)]
    (repeat (first | refine WL.pass rfl rfl rfl rfl ?_ | refine WL.step (Yl.move rfl) rfl ?_ | refine WL.step (Yl.assign rfl) rfl ?_ | refine WL.step (Yl.pick_t rfl rfl rfl) rfl ?_ | (refine WL.k_bin .lss ?_; refine WL.step (Yl.lssT rfl rfl (by omega)) rfl ?_) | refine WC.seq ?_ | refine WC.region ?_ | refine WL.nil ?_ | refine WN.then_normal ?_ | refine WC.ret ?_))
    exact WN.ret1 rfl rfl ⟨rfl, rfl⟩ .nil
  · by_cases h2 : 128 < k
    · rw [decide_eq_true (by omega)]
      (repeat (first | refine WL.want rfl rfl rfl ?_ | refine WL.step (Yl.move rfl) rfl ?_ | refine WL.step (Yl.assign rfl) rfl ?_ | refine WL.step (Yl.pick_f rfl rfl rfl) rfl ?_ | (refine WL.k_bin .lss ?_; refine WL.step (Yl.lssF rfl rfl (by omega)) rfl ?_) | (refine WL.k_bin .gtr ?_; refine WL.step (Yl.gtrT rfl rfl (by omega)) rfl ?_) | refine WC.seq ?_ | refine WC.region ?_ | refine WL.nil ?_ | refine WN.then_normal ?_ | refine WC.ret ?_))
      exact WN.ret1 rfl rfl ⟨rfl, rfl⟩ .nil
    · rw [decide_eq_false (by omega)]
      (repeat (first | refine WL.want rfl rfl rfl ?_ | refine WL.step (Yl.move rfl) rfl ?_ | refine WL.step (Yl.assign rfl) rfl ?_ | refine WL.step (Yl.pick_f rfl rfl rfl) rfl ?_ | (refine WL.k_bin .lss ?_; refine WL.step (Yl.lssF rfl rfl (by omega)) rfl ?_) | (refine WL.k_bin .gtr ?_; refine WL.step (Yl.gtrF rfl rfl (by omega)) rfl ?_) | refine WC.seq ?_ | refine WC.region ?_ | refine WL.nil ?_ | refine WN.then_normal ?_ | refine WC.ret ?_))
      exact WN.ret1 rfl rfl ⟨rfl, rfl⟩ .nil
def IxV (K : List Int) : Value → List HA → Prop := fun u B => B = [] ∧ ∃ r : Int, u = .int .i64 r ∧ (0 ≤ r ↔ ¬ ∀ k ∈ K, 0 ≤ k ∧ k ≤ 128)
theorem dindex_c (a : Option Addr) (m c2 : Nat) (K : List Int) (w : World) (hl : K.length = m) (hm : m ≤ 100000) (hr : CellsAt w a (zcells K)) : Calls Tryz.prog 162 #[.slice a m c2, .func (.func 127) #[] #[]] w (Gives (IxV K) w) := by
  refine enter (args := [_, _]) Tryz.func162 Tryz.ntmps162 rfl rfl ?_
  (repeat (first | refine WL.step (Yl.move rfl) rfl ?_ | refine WL.step (Yl.assign rfl) rfl ?_ | refine WL.step (Yl.len (t := 61) Tryz.underlying61 rfl) rfl ?_ | refine WC.seq ?_ | refine WC.region ?_ | refine WL.nil ?_ | refine WN.then_normal ?_ | refine WC.block ?_))
  refine WC.loop (α := Nat) (fun i => [(0, .slice a m c2), (1, .func (.func 127) #[] #[]), (7, .int .i64 (m : Int)), (8, .int .i64 (i : Int))]) (fun _ => []) (fun i => i ≤ m ∧ ∀ k ∈ K.take i, 0 ≤ k ∧ k ≤ 128) (fun i => m - i) 0 zS .nil ⟨Nat.zero_le _, fun k hk => by simp at hk⟩ ?_
  intro i ⟨hi, hp⟩
  (repeat (first | refine WL.step (Yl.lss rfl rfl) rfl ?_ | refine WC.seq ?_ | refine WC.region ?_ | refine WL.nil ?_ | refine WN.then_normal ?_))
  refine WC.ite rfl (fun h1 => ?_) (fun h1 => ?_)
  · have him : i < K.length := by omega
    have hz := zcells_at him
    have hg : K[i]? = some (K.getD i 0) := by simp [List.getD, him]
    have hmem := List.mem_of_getElem? hg
    (repeat (first | refine WL.step (Yl.move rfl) rfl ?_ | refine WL.step (Yl.assign rfl) rfl ?_ | refine WL.step (Yl.load (T := 3) (a := a) (i := i) Tryz.isAgg3 rfl (Rd.old hr) hz) rfl ?_ | (refine WL.k_idxa ?_; refine WL.step (Yl.indexAddr1 (t := 61) (a := a) (j := i) Tryz.underlying61 Tryz.sizeOf3 rfl rfl (Rd.old hr) (zcells_ne him) (by omega)) rfl ?_) | refine WC.seq ?_ | refine WC.region ?_ | refine WL.nil ?_ | refine WN.then_normal ?_ | refine WC.block ?_ | refine WC.skip ?_))
    refine WL.callFV (g := 127) (v := .bool (decide (¬ (0 ≤ K.getD i 0 ∧ K.getD i 0 ≤ 128)))) (cs := []) Tryz.call127 rfl rfl (fun w0 st => dbadk_c _ w0) rfl ?_
    by_cases h2 : 0 ≤ K.getD i 0 ∧ K.getD i 0 ≤ 128
    · rw [decide_eq_false (fun h => h h2)]
      (repeat (first | refine WL.nil ?_ | refine WN.then_normal ?_))
      refine WC.cond_false rfl rfl ?_
      (repeat (first | refine WL.step (Yl.move rfl) rfl ?_ | (refine WL.k_bin .add ?_; refine WL.step (Yl.add64C rfl (by omega)) rfl ?_) | refine WC.region ?_ | refine WL.nil ?_ | refine WN.then_normal ?_ | refine WC.skip ?_ | refine WN.block_normal ?_))
      refine WN.next (i + 1) ⟨by omega, fun k hk => ?_⟩ (by omega) zS .nil
      rw [List.take_add_one, hg] at hk
      rcases List.mem_append.1 hk with h | h
      · exact hp k h
      · simp at h; subst h; simp only [List.getD_eq_getElem?_getD] at h2; exact h2
    · rw [decide_eq_true h2]
      (repeat (first | refine WL.nil ?_ | refine WN.then_normal ?_))
      refine WC.cond_true rfl rfl ?_
      (repeat (first | refine WL.step (Yl.move rfl) rfl ?_ | refine WL.step (Yl.assign rfl) rfl ?_ | refine WC.seq ?_ | refine WC.region ?_ | refine WL.nil ?_ | refine WN.then_normal ?_ | refine WC.ret ?_ | refine WN.then_ret ?_ | refine WN.block_ret ?_))
      exact WN.ret1 rfl rfl ⟨rfl, _, rfl, ⟨fun _ h => h2 (h _ hmem), fun _ => by omega⟩⟩ .nil
  · have hKm : K.take i = K := List.take_of_length_le (by omega)
    rw [hKm] at hp
    (repeat (first | refine WL.step (Yl.assign rfl) rfl ?_ | refine WC.seq ?_ | refine WC.region ?_ | refine WL.nil ?_ | refine WN.then_normal ?_ | refine WC.exit ?_ | refine WC.ret ?_ | refine WN.then_exit ?_ | refine WN.block_here ?_))
    exact WN.ret1 rfl rfl ⟨rfl, _, rfl, ⟨fun h => absurd h (by decide), fun h => absurd hp h⟩⟩ .nil
theorem dcont_c (a : Option Addr) (m c2 : Nat) (K : List Int) (w : World) (hl : K.length = m) (hm : m ≤ 100000) (hr : CellsAt w a (zcells K)) : Calls Tryz.prog 126 #[.slice a m c2, .func (.func 127) #[] #[]] w (Gives (Val (.bool (decide (¬ ∀ k ∈ K, 0 ≤ k ∧ k ≤ 128)))) w) := by
  refine enter (args := [_, _]) Tryz.func126 Tryz.ntmps126 rfl rfl ?_
  (repeat (first | refine WL.step (Yl.move rfl) rfl ?_ | refine WL.step (Yl.assign rfl) rfl ?_ | refine WC.seq ?_ | refine WC.region ?_ | refine WL.nil ?_ | refine WN.then_normal ?_))
  refine WL.call (g := 162) Tryz.call162 rfl (fun w0 st => dindex_c a m c2 K w0 hl hm (hr.keep st.kept)) rfl fun v B hv => ?_
  obtain ⟨rfl, r, rfl, hr2⟩ := hv
  rw [List.nil_append]
  rw [show decide (¬ ∀ k ∈ K, 0 ≤ k ∧ k ≤ 128) = decide (r ≥ 0) from decide_eq_decide.2 hr2.symm]
  (repeat (first | refine WL.step (Yl.assign rfl) rfl ?_ | refine WL.step (Yl.geq rfl rfl) rfl ?_ | refine WL.nil ?_ | refine WN.then_normal ?_ | refine WC.ret ?_))
  exact WN.ret1 rfl rfl ⟨rfl, rfl⟩ .nil
theorem dchk_c (n : Int) (a : Option Addr) (m c2 : Nat) (K : List Int) (w : World) (hl : K.length = m) (hm : m ≤ 9223372036854775807) (hr : CellsAt w a (zcells K)) : Calls Tryz.prog 100 #[.agg #[.int .i64 n, .slice a m c2]] w (Gives (Val (.int .i64 (if planOk n K then 0 else 2))) w) := by
  refine enter (args := [.agg #[.int .i64 n, .slice a m c2]]) Tryz.func100 Tryz.ntmps100 rfl rfl ?_
  subst hl
  (repeat (first | refine WC.seq ?_ | refine WC.region ?_))
  refine WL.boxA rfl rfl fun b1 => ?_
  by_cases h1 : n < 0
  · rw [if_neg (fun h => by have := h.1; omega)]
    (repeat (first | refine WL.pass rfl rfl rfl rfl ?_ | refine WL.step (Yl.move rfl) rfl ?_ | refine WL.step (Yl.assign rfl) rfl ?_ | (refine WL.k_load ?_; refine WL.step (Yl.loadBlk (T := 3) Tryz.isAgg3 rfl zH (by rfl)) rfl ?_) | (refine WL.k_fld ?_; refine WL.step (Yl.fldN0 (i := 0) (o := 0) (by kernel_rfl) rfl) rfl ?_) | refine WL.step (Yl.pick_t rfl rfl rfl) rfl ?_ | (refine WL.k_bin .lss ?_; refine WL.step (Yl.lssT rfl rfl (by omega)) rfl ?_) | refine WC.seq ?_ | refine WC.region ?_ | refine WL.nil ?_ | refine WN.then_normal ?_))
    refine WC.cond_true rfl rfl ?_
    (repeat (first | refine WL.step (Yl.assign rfl) rfl ?_ | refine WC.seq ?_ | refine WC.region ?_ | refine WL.nil ?_ | refine WN.then_normal ?_ | refine WC.ret ?_ | refine WN.then_ret ?_))
    exact WN.ret1 rfl rfl ⟨rfl, rfl⟩ .nil
  by_cases h2 : 1000000 < n
  · rw [if_neg (fun h => by have := h.2.1; omega)]
    (repeat (first | (refine WL.kG ?_; first | refine WL.want rfl rfl rfl ?_ | refine WL.pass rfl rfl rfl rfl ?_) | refine WL.step (Yl.move rfl) rfl ?_ | refine WL.step (Yl.assign rfl) rfl ?_ | (refine WL.k_load ?_; refine WL.step (Yl.loadBlk (T := 3) Tryz.isAgg3 rfl zH (by rfl)) rfl ?_) | (refine WL.k_fld ?_; refine WL.step (Yl.fldN0 (i := 0) (o := 0) (by kernel_rfl) rfl) rfl ?_) | (refine WL.k_pick ?_; first | refine WL.step (Yl.pick_t rfl rfl rfl) rfl ?_ | refine WL.step (Yl.pick_f rfl rfl rfl) rfl ?_) | (refine WL.k_bin .lss ?_; refine WL.step (Yl.lssF rfl rfl (by omega)) rfl ?_) | (refine WL.k_bin .gtr ?_; refine WL.step (Yl.gtrT rfl rfl (by omega)) rfl ?_) | refine WC.seq ?_ | refine WC.region ?_ | refine WL.nil ?_ | refine WN.then_normal ?_))
    refine WC.cond_true rfl rfl ?_
    (repeat (first | refine WL.step (Yl.assign rfl) rfl ?_ | refine WC.seq ?_ | refine WC.region ?_ | refine WL.nil ?_ | refine WN.then_normal ?_ | refine WC.ret ?_ | refine WN.then_ret ?_))
    exact WN.ret1 rfl rfl ⟨rfl, rfl⟩ .nil
  by_cases h3 : K.length < 1
  · rw [if_neg (fun h => by have := h.2.2.1; omega)]
    (repeat (first | (refine WL.kG ?_; first | refine WL.want rfl rfl rfl ?_ | refine WL.pass rfl rfl rfl rfl ?_) | refine WL.step (Yl.move rfl) rfl ?_ | refine WL.step (Yl.assign rfl) rfl ?_ | (refine WL.k_load ?_; first | refine WL.step (Yl.loadBlk (T := 3) Tryz.isAgg3 rfl zH (by rfl)) rfl ?_ | refine WL.step (Yl.loadBlk (T := 61) Tryz.isAgg61 rfl zH (by rfl)) rfl ?_) | (refine WL.k_fld ?_; first | refine WL.step (Yl.fldN0 (i := 0) (o := 0) (by kernel_rfl) rfl) rfl ?_ | refine WL.step (Yl.fldN0 (i := 1) (o := 1) (by kernel_rfl) rfl) rfl ?_) | (refine WL.k_pick ?_; first | refine WL.step (Yl.pick_t rfl rfl rfl) rfl ?_ | refine WL.step (Yl.pick_f rfl rfl rfl) rfl ?_) | refine WL.step (Yl.len (t := 61) Tryz.underlying61 rfl) rfl ?_ | (refine WL.k_bin .lss ?_; first | refine WL.step (Yl.lssT rfl rfl (by omega)) rfl ?_ | refine WL.step (Yl.lssF rfl rfl (by omega)) rfl ?_) | (refine WL.k_bin .gtr ?_; refine WL.step (Yl.gtrF rfl rfl (by omega)) rfl ?_) | refine WC.seq ?_ | refine WC.region ?_ | refine WL.nil ?_ | refine WN.then_normal ?_))
    refine WC.cond_true rfl rfl ?_
    (repeat (first | refine WL.step (Yl.assign rfl) rfl ?_ | refine WC.seq ?_ | refine WC.region ?_ | refine WL.nil ?_ | refine WN.then_normal ?_ | refine WC.ret ?_ | refine WN.then_ret ?_))
    exact WN.ret1 rfl rfl ⟨rfl, rfl⟩ .nil
  by_cases h4 : 64 < K.length
  · rw [if_neg (fun h => by have := h.2.2.2.1; omega)]
    (repeat (first | refine WL.want rfl rfl rfl ?_ | refine WL.step (Yl.move rfl) rfl ?_ | refine WL.step (Yl.assign rfl) rfl ?_ | (refine WL.k_load ?_; first | refine WL.step (Yl.loadBlk (T := 3) Tryz.isAgg3 rfl zH (by rfl)) rfl ?_ | refine WL.step (Yl.loadBlk (T := 61) Tryz.isAgg61 rfl zH (by rfl)) rfl ?_) | (refine WL.k_fld ?_; first | refine WL.step (Yl.fldN0 (i := 0) (o := 0) (by kernel_rfl) rfl) rfl ?_ | refine WL.step (Yl.fldN0 (i := 1) (o := 1) (by kernel_rfl) rfl) rfl ?_) | refine WL.step (Yl.pick_f rfl rfl rfl) rfl ?_ | refine WL.step (Yl.len (t := 61) Tryz.underlying61 rfl) rfl ?_ | (refine WL.k_bin .lss ?_; refine WL.step (Yl.lssF rfl rfl (by omega)) rfl ?_) | (refine WL.k_bin .gtr ?_; first | refine WL.step (Yl.gtrT rfl rfl (by omega)) rfl ?_ | refine WL.step (Yl.gtrF rfl rfl (by omega)) rfl ?_) | refine WC.seq ?_ | refine WC.region ?_ | refine WL.nil ?_ | refine WN.then_normal ?_))
    refine WC.cond_true rfl rfl ?_
    (repeat (first | refine WL.step (Yl.assign rfl) rfl ?_ | refine WC.seq ?_ | refine WC.region ?_ | refine WL.nil ?_ | refine WN.then_normal ?_ | refine WC.ret ?_ | refine WN.then_ret ?_))
    exact WN.ret1 rfl rfl ⟨rfl, rfl⟩ .nil
  (repeat (first | refine WL.want rfl rfl rfl ?_ | refine WL.step (Yl.move rfl) rfl ?_ | refine WL.step (Yl.assign rfl) rfl ?_ | (refine WL.k_load ?_; first | refine WL.step (Yl.loadBlk (T := 3) Tryz.isAgg3 rfl zH (by rfl)) rfl ?_ | refine WL.step (Yl.loadBlk (T := 61) Tryz.isAgg61 rfl zH (by rfl)) rfl ?_) | (refine WL.k_fld ?_; first | refine WL.step (Yl.fldN0 (i := 0) (o := 0) (by kernel_rfl) rfl) rfl ?_ | refine WL.step (Yl.fldN0 (i := 1) (o := 1) (by kernel_rfl) rfl) rfl ?_) | refine WL.step (Yl.pick_f rfl rfl rfl) rfl ?_ | refine WL.step (Yl.len (t := 61) Tryz.underlying61 rfl) rfl ?_ | (refine WL.k_bin .lss ?_; refine WL.step (Yl.lssF rfl rfl (by omega)) rfl ?_) | (refine WL.k_bin .gtr ?_; refine WL.step (Yl.gtrF rfl rfl (by omega)) rfl ?_) | refine WC.seq ?_ | refine WC.region ?_ | refine WL.nil ?_ | refine WN.then_normal ?_))
  refine WC.cond_false rfl rfl ?_
  (repeat (first | (refine WL.k_load ?_; refine WL.step (Yl.loadBlk (T := 61) Tryz.isAgg61 rfl zH (by rfl)) rfl ?_) | (refine WL.k_fld ?_; refine WL.step (Yl.fldN0 (i := 1) (o := 1) (by kernel_rfl) rfl) rfl ?_) | refine WC.seq ?_ | refine WC.region ?_ | refine WN.then_normal ?_ | refine WC.skip ?_))
  refine WL.callV (g := 126) (v := .bool (decide (¬ ∀ k ∈ K, 0 ≤ k ∧ k ≤ 128))) Tryz.call126 rfl (fun w0 st => dcont_c a K.length c2 K w0 rfl (by omega) (hr.keep st.kept)) rfl ?_
  by_cases h5 : ∀ k ∈ K, 0 ≤ k ∧ k ≤ 128
  · rw [decide_eq_false (fun h => h h5), if_pos ⟨by omega, by omega, by omega, by omega, h5⟩]
    (repeat (first | refine WL.nil ?_ | refine WN.then_normal ?_))
    refine WC.cond_false rfl rfl ?_
    (repeat (first | refine WL.step (Yl.assign rfl) rfl ?_ | refine WC.seq ?_ | refine WC.region ?_ | refine WL.nil ?_ | refine WN.then_normal ?_ | refine WC.skip ?_ | refine WC.ret ?_))
    exact WN.ret1 rfl rfl ⟨rfl, rfl⟩ .nil
  · rw [decide_eq_true h5, if_neg (fun h => h5 h.2.2.2.2)]
    (repeat (first | refine WL.nil ?_ | refine WN.then_normal ?_))
    refine WC.cond_true rfl rfl ?_
    (repeat (first | refine WL.step (Yl.assign rfl) rfl ?_ | refine WC.seq ?_ | refine WC.region ?_ | refine WL.nil ?_ | refine WN.then_normal ?_ | refine WC.ret ?_ | refine WN.then_ret ?_))
    exact WN.ret1 rfl rfl ⟨rfl, rfl⟩ .nil
section
variable {p : DP} {S : List Nat}
def DS.crash (s : DS) (K : List Int) : DS → Prop := fun t => t.d = (crashR K s.d s.F).1.1 ∧ t.F = (crashR K s.d s.F).1.2 ∧ t.down = true ∧ t.pl = none ∧ t.ops = s.ops ∧ t.rd = s.rd ∧ t.Ok p
theorem dcrash_r (s : DS) (a : Option Addr) (m c2 : Nat) (K : List Int) (w : World) (wf : BkWf s.d s.F) (hcap : s.d.length ≤ p.cap) (hM : MapIs s.d.length s.F s.M s.c) (hl : K.length = m) (hm : m ≤ 100000) (hK : keepOk K) (hr : CellsOut w S a (zcells K)) (st : St w S (.blk p.bd (drO p s) :: bankItems p.bk p.da p.cap p.mb s.d s.M s.c) w) :
    Calls Tryz.prog 101 #[bptr p.bd, .slice a m c2] w (GivesS S (DcV p (s.crash (p := p) K) 11) w) := by
  refine enterS (args := [.pointer (some ⟨p.bd, 0, none⟩), _]) Tryz.func101 Tryz.ntmps101 rfl rfl st ?_
  have hcw := crash_wf K wf
  have e2 : (crashR K s.d s.F).2 = 0 := by rw [crashR, if_pos hK]
  rw [drO]
  (repeat (first | refine WL.step (Yl.move rfl) rfl ?_ | refine WL.step (Yl.assign rfl) rfl ?_ | (refine WL.k_fld ?_; refine WL.step (Yl.fldN0 (i := 1) (o := 1) (by kernel_rfl) rfl) rfl ?_) | refine WL.step (Yl.nilCheck rfl) rfl ?_ | refine WC.seq ?_ | refine WC.region ?_ | refine WL.nil ?_ | refine WN.then_normal ?_))
  refine WL.storeAt (T := 4) Tryz.sizeOf4 rfl rfl rfl .here rfl ?_
  (repeat (first | (refine WL.k_fld ?_; refine WL.step (Yl.fldN0 (i := 2) (o := 2) (by kernel_rfl) rfl) rfl ?_) | refine WL.step (Yl.nilCheck rfl) rfl ?_))
  refine WL.storeAt (T := 73) Tryz.sizeOf73 rfl rfl rfl .here rfl ?_
  (repeat (first | refine WL.step (Yl.move rfl) rfl ?_ | (refine WL.k_load ?_; refine WL.step (Yl.loadBlk (T := 70) Tryz.isAgg70 rfl zH (by rfl)) rfl ?_) | (refine WL.k_fld ?_; refine WL.step (Yl.fldN0 (i := 0) (o := 0) (by kernel_rfl) rfl) rfl ?_) | refine WL.step (Yl.nilCheck rfl) rfl ?_ | refine WC.seq ?_ | refine WC.region ?_ | refine WL.nil ?_ | refine WN.then_normal ?_))
  refine WL.callS (g := 121) (A0 := bankItems p.bk p.da p.cap p.mb s.d s.M s.c) (B := [_]) Tryz.call121 rfl (List.perm_append_comm (l₁ := [_])) (fun w0 st2 s1 => bcrash_r a m c2 K s.M s.c w0 wf hcap hM hl (by omega) s1 (old_out st2 (List.perm_append_comm (l₁ := [_])) hr)) rfl fun v B hv => ?_
  obtain ⟨M1, c1, hM1, rfl, rfl⟩ := hv
  rw [e2]
  (repeat (first | refine WL.step (Yl.move rfl) rfl ?_ | refine WL.step (Yl.assign rfl) rfl ?_ | refine WL.step (Yl.neqF rfl rfl rfl) rfl ?_ | refine WC.seq ?_ | refine WC.region ?_ | refine WL.nil ?_ | refine WN.then_normal ?_))
  refine WC.cond_false rfl rfl ?_
  (repeat (first | refine WL.step (Yl.assign rfl) rfl ?_ | refine WC.seq ?_ | refine WC.region ?_ | refine WL.nil ?_ | refine WN.then_normal ?_ | refine WC.skip ?_ | refine WC.ret ?_))
  refine WN.ret1S rfl rfl ⟨rfl, ⟨(crashR K s.d s.F).1.1, (crashR K s.d s.F).1.2, M1, c1, true, none, s.ops, s.rd⟩, ⟨rfl, rfl, rfl, rfl, rfl, rfl, ⟨hcw.1, by simp only [hcw.2]; exact hcap, hM1, fun q hq => by cases hq⟩⟩, rfl⟩ ?_
  exact Part.perm (List.perm_append_comm (l₂ := [_]))
end
end Go.Proofs.YtbkdjfgkebkknaaGreatDoor
