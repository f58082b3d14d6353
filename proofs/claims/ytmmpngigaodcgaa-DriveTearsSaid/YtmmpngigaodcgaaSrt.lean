/- The keys of a map in their order: maps.Keys and slices.Sorted, by the kit's contracts. -/
import Derived.Test.YtmmpngigaodcgaaLay
import Derived.Test.YtmmpngigaodcgaaMap
import Derived.Test.YtmmpngigaodcgaaRnd
namespace Go.Proofs.Ytmmpngigaodcgaa
set_option linter.unusedVariables false
set_option linter.unusedSimpArgs false
open Go Go.RowKit Go.Shelf
set_option maxRecDepth 100000
set_option maxHeartbeats 4000000
def ncells (l : List Nat) : List Value := l.map fun (k : Nat) => Value.int .i64 (k : Int)
theorem ncells_len (l : List Nat) : (ncells l).length = l.length := List.length_map _
theorem ncells_at {l : List Nat} {i : Nat} (h : i < l.length) : (ncells l)[i]? = some (.int .i64 ((l.getD i 0 : Nat) : Int)) := by simp [ncells, List.getD, h]
theorem sorts_all (m : Nat) : AnyZI.SortsIn Try.prog sortedL_ren Fence.wide m :=
  ⟨fun blk off cap ss W hH hblk hsz => callsIn_wide.2 (AnyM.slices_Sort_int sortL blk off cap ss W hH hblk hsz),
   fun p cap W => callsIn_wide.2 (AnyM.slices_Sort_int_none sortL p cap W)⟩
section
variable {β : Type} {n c : Nat} {F : Nat → Option β} {M : List (Nat × β × Nat)} {enc : β → Value}
theorem rd_ment {P : Program} {K : TypeId} (hK : P.underlying K = some (.int .i64)) {x : Nat × β × Nat} (hx : x.1 < 1000000) :
    Go.WideElems.rd (H := Unit) P K (fun _ => some (DataW.nil, [])) (ment enc x) = some (Lit.int .i64 (x.1 : Int), DataW.nil) := by
  have hw : (Lit.int .i64 (x.1 : Int)).wf = true := by
    simp only [Lit.wf, Bool.and_eq_true, decide_eq_true_eq]
    have e1 : IntKind.i64.min = -9223372036854775808 := by decide
    have e2 : IntKind.i64.max = 9223372036854775807 := by decide
    rw [e1, e2]; omega
  simp [Go.WideElems.rd, ment, Maps.keyOf_int_mk hK hw]
theorem MapIs.owns {P : Program} {K : TypeId} (hK : P.underlying K = some (.int .i64)) (h : MapIs n F M c) (hn : n ≤ 1000000) {w : World} {b : Nat} (hb : w.heap[b]? = some (mobj enc M c)) :
    ∃ D : DataW Unit, w.ownsMap P K (fun _ => some (DataW.nil, [])) b M.length D ∧ (intKeys D).Perm (M.map fun x => (x.1 : Int)) ∧ Maps.size D = M.length := by
  have hc := h.count
  have hrd : ∀ x ∈ M, Go.WideElems.rd (H := Unit) P K (fun _ => some (DataW.nil, [])) (ment enc x) = some (Lit.int .i64 (x.1 : Int), DataW.nil) := fun x hx => rd_ment hK (by have := h.low x hx; omega)
  have hperm := WideShapes.sorted_perm ((M.map (ment enc)).toArray.toList.map (Go.WideElems.rg (H := Unit) P K (fun _ => some (DataW.nil, []))))
  have he : (M.map (ment enc)).toArray.toList.map (Go.WideElems.rg (H := Unit) P K (fun _ => some (DataW.nil, []))) = M.map fun x => (Lit.int .i64 (x.1 : Int), DataW.nil) := by
    rw [List.map_map]
    refine List.map_congr_left fun x hx => ?_
    simp [Go.WideElems.rg, hrd x hx]
  refine ⟨_, ⟨_, _, hb, ⟨by simp [maxLen]; omega, ⟨?_, ?_, ?_⟩, ?_⟩, by simp, rfl⟩, ?_, ?_⟩
  · intro e hx
    simp only [List.toList_toArray, List.mem_map] at hx
    obtain ⟨x, hx, rfl⟩ := hx
    exact h.born x hx
  · have : ((M.map (ment enc)).toArray.toList.map (·.born)) = M.map (·.2.2) := by rw [List.map_map]; rfl
    rw [this]; exact h.borns
  · have : ((M.map (ment enc)).toArray.toList.map (·.key)) = (M.map (·.1)).map fun (k : Nat) => Value.int .i64 (k : Int) := by rw [List.map_map, List.map_map]; rfl
    rw [this]
    exact List.Pairwise.map _ (fun a b hab e => hab (by simp at e; omega)) h.keys
  · intro e hx
    simp only [List.toList_toArray, List.mem_map] at hx
    obtain ⟨x, hx, rfl⟩ := hx
    exact ⟨_, hrd x hx⟩
  · have := hperm.map fun p => Go.intOf p.1
    rw [he, List.map_map] at this
    simp only [intKeys]
    rw [he]
    exact this
  · show (List.foldr DataW.insert [] _).length = _
    rw [hperm.length_eq]; simp
end
theorem gives_row {P : Program} {w w' : World} {v : Value} {T : TypeId} {m : Nat} {xs : List Value} (h : w'.ownsRow w.heap.size T 1 v m xs) (hb : Below w.heap.size w w') : Gives (NewRow id T 1 m xs) w (.returned v) w' := by
  obtain ⟨hl, ⟨rfl, rfl⟩ | ⟨g, cap, cur, rfl, hg, hc, h1, h2, h3, h4⟩⟩ := h
  · obtain rfl : xs = [] := List.eq_nil_of_length_eq_zero (by omega)
    exact ⟨_, _, rfl, ⟨none, 0, Nat.le_refl _, rfl, rfl⟩, ⟨Kept.of_below hb, fun x hx => by simp at hx; subst hx; exact .inl ⟨rfl, rfl⟩, by simp [HA.foot], fun x hx b hb => by simp at hx; subst hx; simp [HA.foot] at hb⟩⟩
  · refine ⟨_, _, rfl, ⟨some ⟨g, 0, none⟩, cap, h1, rfl, rfl⟩, ⟨Kept.of_below hb, fun x hx => ?_, ?_, fun x hx b hb => ?_⟩⟩
    · simp at hx; subst hx
      exact .inr ⟨g, cur, rfl, hc, h3, h2, by rw [h3]; have : m * 1 ≤ cap * 1 := Nat.mul_le_mul_right 1 h1; omega, by rw [hl]; exact h4⟩
    · simp only [List.filterMap_cons, List.filterMap_nil, HA.foot]; split <;> simp
    · simp at hx; subst hx
      simp only [HA.foot] at hb
      split at hb
      · cases hb
      · simp only [Option.map_some, Option.some.injEq] at hb; subst hb; exact .inr hg
def KeysV (mb : Nat) : Value → List HA → Prop := fun u B => ∃ bx, u = .func (.func 64) #[] #[.pointer (some ⟨bx, 0, none⟩)] ∧ B = [.blk bx (.cells #[.map (some mb)] 78 (0, 0))]
theorem keys_c (mb : Nat) (w : World) : Calls Try.prog 61 #[.map (some mb)] w (Gives (KeysV mb) w) := by
  have h : CallsIn Fence.wide 5 Try.prog 61 #[.map (some mb)] w fun e w' => e = .returned (.func (.func 64) #[] #[.pointer (some ⟨w.heap.size, 0, none⟩)]) ∧ w' = w.alloc (.cells #[.map (some mb)] 78) := AnyZI.keys_in keysL Fence.wide 5 trivial rfl (some mb) w
  refine ((callsIn_wide (n := 5)).1 h).mono ?_
  rintro e w' ⟨rfl, rfl⟩
  exact ⟨_, _, rfl, ⟨_, rfl, rfl⟩, (St.start w).alloc _⟩
theorem sorted_c {β : Type} {enc : β → Value} {n c : Nat} {F : Nat → Option β} {M : List (Nat × β × Nat)} (bx mb : Nat) (w : World) (h : MapIs n F M c) (hn : n ≤ 1000000)
    (hbx : w.heap[bx]? = some (.cells #[.map (some mb)] 78 (0, 0))) (hmb : w.heap[mb]? = some (mobj enc M c)) :
    Calls Try.prog 60 #[.func (.func 64) #[] #[.pointer (some ⟨bx, 0, none⟩)]] w (Gives (NewRow id 3 1 (dirtyOf n F).length (ncells (dirtyOf n F))) w) := by
  obtain ⟨D, hown, hperm, hsize⟩ := h.owns (P := Try.prog) (K := 3) Try.underlying3 hn hmb
  have hc := h.count
  have hseq : SeqGives Fence.wide 2 Try.prog 64 #[.pointer (some ⟨bx, 0, none⟩)] encZ (fun ss => ss.Perm (intKeys D)) (Maps.size D) w :=
    AnyZI.keys_gives (ρ := keysL_ren) { keysL with } Fence.wide _ trivial rfl (by omega) bx mb M.length D _ (lt_of_heap hbx) (by simp [World.cell?, hbx]) hown
  have cS := AnyZI.sorted_in sortedL Fence.wide 5 trivial trivial trivial trivial rfl (by omega) (sorts_all _) (enters_of Try.func63 (by kernel_rfl) rfl) 64 #[.pointer (some ⟨bx, 0, none⟩)] trivial (enters_of Try.func64 (by kernel_rfl) rfl) _ _ (by rw [hsize]; simp only [maxLen]; omega) (by rw [hsize]; omega) _ hseq
  refine ((callsIn_wide (n := 5)).1 cS).mono ?_
  rintro e w' ⟨v, ss, rfl, hS, hrow, _, hb⟩
  have hs := h.sorted (hS.trans hperm)
  have hl : ss.length = (dirtyOf n F).length := by
    have := congrArg List.length hs
    rwa [List.length_mergeSort, List.length_map] at this
  rw [hs, hl, List.map_map] at hrow
  exact gives_row (P := Try.prog) (T := 3) (xs := ncells (dirtyOf n F)) hrow hb
end Go.Proofs.Ytmmpngigaodcgaa
