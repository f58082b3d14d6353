/- Maps with natural numbers as keys, as lists of entries: what is found, put, taken out; the keys in their order. -/
import Derived.Test.YtmmpngigaodcgaaHeld
import Derived.MapKept
import Derived.WideMake
import Derived.Maps.Own
import Derived.Lib.SlKeysI
namespace Go.Proofs.Ytmmpngigaodcgaa
set_option linter.unusedVariables false
set_option linter.unusedSimpArgs false
open Go Go.RowKit
set_option maxRecDepth 100000
section
variable {β : Type}
def ment (enc : β → Value) (x : Nat × β × Nat) : MapEntry := { key := .int .i64 (x.1 : Int), val := enc x.2.1, born := x.2.2 }
def mobj (enc : β → Value) (M : List (Nat × β × Nat)) (c : Nat) : Obj := .map (M.map (ment enc)).toArray c
def fnd : List (Nat × β × Nat) → Nat → Nat → Option (Nat × β)
  | [], _, _ => none
  | x :: M, k, i => if x.1 = k then some (i, x.2.1) else fnd M k (i + 1)
def mput : List (Nat × β × Nat) → Nat → β → List (Nat × β × Nat)
  | [], _, _ => []
  | x :: M, k, v => if x.1 = k then (x.1, v, x.2.2) :: M else x :: mput M k v
def mdel : List (Nat × β × Nat) → Nat → List (Nat × β × Nat)
  | [], _ => []
  | x :: M, k => if x.1 = k then M else x :: mdel M k
/-- What a map has for each key; every key lies below n. -/
structure MapIs (n : Nat) (F : Nat → Option β) (M : List (Nat × β × Nat)) (c : Nat) : Prop where
  keys : (M.map (·.1)).Nodup
  get : ∀ k v, F k = some v ↔ ∃ b, (k, v, b) ∈ M
  low : ∀ x ∈ M, x.1 < n
  born : ∀ x ∈ M, x.2.2 < c
  borns : (M.map (·.2.2)).Nodup
def setF (F : Nat → Option β) (k : Nat) (o : Option β) : Nat → Option β := fun j => if j = k then o else F j
theorem findNow_fnd (enc : β → Value) (k : Nat) : ∀ (M : List (Nat × β × Nat)) (i : Nat), Instr.findNow (.int .i64) (.int .i64 (k : Int)) (M.map (ment enc)) i = some ((fnd M k i).map fun p => (p.1, enc p.2))
  | [], _ => rfl
  | x :: M, i => by
    simp only [List.map_cons, Instr.findNow, ment, Instr.sameNow, if_true, fnd]
    by_cases h : x.1 = k
    · subst h; simp
    · have h' : ((k : Int) == (x.1 : Int)) = false := by
        rw [beq_eq_false_iff_ne]; exact fun e => h (by omega)
      rw [h', if_neg h]
      exact findNow_fnd enc k M (i + 1)
theorem fnd_none {k : Nat} : ∀ {M : List (Nat × β × Nat)} {i : Nat}, fnd M k i = none → ∀ x ∈ M, x.1 ≠ k
  | [], _, _, _, h => by cases h
  | y :: M, i, h, x, hx => by
    unfold fnd at h
    split at h
    · cases h
    · rcases List.mem_cons.1 hx with rfl | hx
      · assumption
      · exact fnd_none h x hx
theorem fnd_some {k : Nat} : ∀ {M : List (Nat × β × Nat)} {i j : Nat} {v : β}, fnd M k i = some (j, v) → i ≤ j ∧ ∃ b, M[j - i]? = some (k, v, b)
  | [], _, _, _, h => by cases h
  | y :: M, i, j, v, h => by
    unfold fnd at h
    split at h
    · rename_i e
      simp only [Option.some.injEq, Prod.mk.injEq] at h
      obtain ⟨rfl, rfl⟩ := h
      exact ⟨Nat.le_refl _, y.2.2, by simp [← e]⟩
    · obtain ⟨h1, b, h2⟩ := fnd_some h
      refine ⟨by omega, b, ?_⟩
      rw [show j - i = (j - (i + 1)) + 1 by omega, List.getElem?_cons_succ]
      exact h2
theorem mput_modify (enc : β → Value) (k : Nat) (v : β) : ∀ {M : List (Nat × β × Nat)} {i j : Nat} {u : β}, fnd M k i = some (j, u) →
    (M.map (ment enc)).modify (j - i) (fun e => { e with key := .int .i64 (k : Int), val := enc v }) = (mput M k v).map (ment enc)
  | [], _, _, _, h => by cases h
  | y :: M, i, j, u, h => by
    have h0 := h
    unfold fnd at h
    unfold mput
    split at h
    · rename_i e
      simp only [Option.some.injEq, Prod.mk.injEq] at h
      obtain ⟨rfl, rfl⟩ := h
      rw [if_pos e]
      simp [ment, e]
    · rename_i e
      obtain ⟨h1, _⟩ := fnd_some h
      rw [if_neg e, show j - i = (j - (i + 1)) + 1 by omega, List.map_cons, List.modify_succ_cons, mput_modify enc k v h]
      rfl
theorem mdel_erase (enc : β → Value) (k : Nat) : ∀ {M : List (Nat × β × Nat)} {i j : Nat} {u : β}, fnd M k i = some (j, u) → (M.map (ment enc)).eraseIdx (j - i) = (mdel M k).map (ment enc)
  | [], _, _, _, h => by cases h
  | y :: M, i, j, u, h => by
    unfold fnd at h
    unfold mdel
    split at h
    · rename_i e
      simp only [Option.some.injEq, Prod.mk.injEq] at h
      obtain ⟨rfl, rfl⟩ := h
      rw [if_pos e]
      simp
    · rename_i e
      obtain ⟨h1, _⟩ := fnd_some h
      rw [if_neg e, show j - i = (j - (i + 1)) + 1 by omega, List.map_cons, List.eraseIdx_cons_succ, mdel_erase enc k h]
      rfl
theorem mput_map (k : Nat) (v : β) : ∀ {M : List (Nat × β × Nat)}, (M.map (·.1)).Nodup → mput M k v = M.map fun x => if x.1 = k then (x.1, v, x.2.2) else x
  | [], _ => rfl
  | y :: M, h => by
    rw [List.map_cons, List.nodup_cons] at h
    unfold mput
    split
    · rename_i e
      rw [List.map_cons, if_pos e]
      congr 1
      conv => lhs; rw [← List.map_id M]
      refine List.map_congr_left fun x hx => ?_
      rw [if_neg (fun e2 => h.1 (List.mem_map.2 ⟨x, hx, by rw [e2, e]⟩))]
      rfl
    · rename_i e
      rw [List.map_cons, if_neg e, mput_map k v h.2]
theorem mdel_filter (k : Nat) : ∀ {M : List (Nat × β × Nat)}, (M.map (·.1)).Nodup → mdel M k = M.filter fun x => decide (x.1 ≠ k)
  | [], _ => rfl
  | y :: M, h => by
    rw [List.map_cons, List.nodup_cons] at h
    unfold mdel
    split
    · rename_i e
      rw [List.filter_cons, if_neg (by simpa using e)]
      refine (List.filter_eq_self.2 fun x hx => ?_).symm
      simp only [decide_eq_true_eq]
      exact fun e2 => h.1 (List.mem_map.2 ⟨x, hx, by rw [e2, e]⟩)
    · rename_i e
      rw [List.filter_cons, if_pos (by simpa using e), mdel_filter k h.2]
theorem MapIs.empty (n : Nat) : MapIs (β := β) n (fun _ => none) [] 0 := ⟨List.nodup_nil, fun _ _ => ⟨fun h => (by cases h), fun ⟨_, h⟩ => (by cases h)⟩, fun _ h => (by cases h), fun _ h => (by cases h), List.nodup_nil⟩
section
variable {n c : Nat} {F : Nat → Option β} {M : List (Nat × β × Nat)}
theorem MapIs.fnd_eq (h : MapIs n F M c) (k : Nat) : (fnd M k 0).map (·.2) = F k := by
  cases e : fnd M k 0 with
  | none =>
    cases e2 : F k with
    | none => rfl
    | some v => obtain ⟨b, hb⟩ := (h.get k v).1 e2; exact absurd rfl (fnd_none e _ hb)
  | some p =>
    obtain ⟨j, v⟩ := p
    obtain ⟨_, b, hb⟩ := fnd_some e
    exact ((h.get k v).2 ⟨b, List.mem_of_getElem? hb⟩).symm
theorem MapIs.put {k : Nat} {u v : β} (h : MapIs n F M c) (hk : F k = some u) : MapIs n (setF F k (some v)) (mput M k v) c := by
  rw [mput_map k v h.keys]
  have e1 : (M.map fun x => if x.1 = k then (x.1, v, x.2.2) else x).map (·.1) = M.map (·.1) := by
    rw [List.map_map]; refine List.map_congr_left fun x _ => ?_; simp only [Function.comp]; split <;> rfl
  have e2 : (M.map fun x => if x.1 = k then (x.1, v, x.2.2) else x).map (·.2.2) = M.map (·.2.2) := by
    rw [List.map_map]; refine List.map_congr_left fun x _ => ?_; simp only [Function.comp]; split <;> rfl
  refine ⟨by rw [e1]; exact h.keys, fun j w => ?_, fun x hx => ?_, fun x hx => ?_, by rw [e2]; exact h.borns⟩
  · unfold setF
    by_cases e : j = k
    · subst e
      rw [if_pos rfl]
      constructor
      · intro hv
        cases hv
        obtain ⟨b, hb⟩ := (h.get j u).1 hk
        exact ⟨b, List.mem_map.2 ⟨_, hb, by simp⟩⟩
      · rintro ⟨b, hb⟩
        obtain ⟨x, hx, he⟩ := List.mem_map.1 hb
        split at he
        · simp only [Prod.mk.injEq] at he; rw [he.2.1]
        · rename_i hne; subst he; exact absurd rfl hne
    · rw [if_neg e, h.get]
      constructor
      · rintro ⟨b, hb⟩; exact ⟨b, List.mem_map.2 ⟨_, hb, if_neg e⟩⟩
      · rintro ⟨b, hb⟩
        obtain ⟨x, hx, he⟩ := List.mem_map.1 hb
        split at he
        · rename_i e3; simp only [Prod.mk.injEq] at he; exact absurd (he.1.symm.trans e3) e
        · subst he; exact ⟨b, hx⟩
  · obtain ⟨y, hy, he⟩ := List.mem_map.1 hx
    have := h.low y hy
    split at he <;> subst he <;> exact this
  · obtain ⟨y, hy, he⟩ := List.mem_map.1 hx
    have := h.born y hy
    split at he <;> subst he <;> exact this
theorem MapIs.push {k : Nat} {v : β} (h : MapIs n F M c) (hk : F k = none) (hn : k < n) : MapIs n (setF F k (some v)) (M ++ [(k, v, c)]) (c + 1) := by
  have hno : ∀ x ∈ M, x.1 ≠ k := fun x hx e => by
    have := (h.get x.1 x.2.1).2 ⟨x.2.2, hx⟩
    rw [e, hk] at this; cases this
  refine ⟨?_, fun j w => ?_, fun x hx => ?_, fun x hx => ?_, ?_⟩
  · rw [List.map_append, List.nodup_append]
    exact ⟨h.keys, by simp, fun a ha b hb e => by
      simp at hb
      obtain ⟨x, hx, rfl⟩ := List.mem_map.1 ha
      exact hno x hx (by rw [e, hb])⟩
  · unfold setF
    by_cases e : j = k
    · subst e
      rw [if_pos rfl]
      constructor
      · intro hv; cases hv; exact ⟨c, by simp⟩
      · rintro ⟨b, hb⟩
        rcases List.mem_append.1 hb with hb | hb
        · exact absurd rfl (hno _ hb)
        · simp at hb; rw [hb.1]
    · rw [if_neg e, h.get]
      constructor
      · rintro ⟨b, hb⟩; exact ⟨b, List.mem_append_left _ hb⟩
      · rintro ⟨b, hb⟩
        rcases List.mem_append.1 hb with hb | hb
        · exact ⟨b, hb⟩
        · simp at hb; exact absurd hb.1 e
  · rcases List.mem_append.1 hx with hx | hx
    · exact h.low x hx
    · simp at hx; subst hx; exact hn
  · rcases List.mem_append.1 hx with hx | hx
    · have := h.born x hx; omega
    · simp at hx; subst hx; exact Nat.lt_succ_self _
  · rw [List.map_append, List.nodup_append]
    exact ⟨h.borns, by simp, fun a ha b hb e => by
      simp at hb
      obtain ⟨x, hx, rfl⟩ := List.mem_map.1 ha
      have := h.born x hx
      omega⟩
theorem MapIs.del (h : MapIs n F M c) (k : Nat) : MapIs n (setF F k none) (mdel M k) c := by
  rw [mdel_filter k h.keys]
  refine ⟨(List.Sublist.map _ List.filter_sublist).nodup h.keys, fun j w => ?_, fun x hx => h.low x ((List.mem_filter.1 hx).1), fun x hx => h.born x ((List.mem_filter.1 hx).1), (List.Sublist.map _ List.filter_sublist).nodup h.borns⟩
  unfold setF
  by_cases e : j = k
  · subst e
    rw [if_pos rfl]
    exact ⟨fun h => (by cases h), fun ⟨b, hb⟩ => (by simp at hb)⟩
  · rw [if_neg e, h.get]
    constructor
    · rintro ⟨b, hb⟩; exact ⟨b, List.mem_filter.2 ⟨hb, by simpa using e⟩⟩
    · rintro ⟨b, hb⟩; exact ⟨b, (List.mem_filter.1 hb).1⟩
theorem setF_id {k : Nat} (hk : F k = none) : setF F k none = F := by
  funext j; unfold setF; split
  · rename_i e; rw [e, hk]
  · rfl
/-- The keys in their order. -/
def dirtyOf (n : Nat) (F : Nat → Option β) : List Nat := (List.range n).filter fun k => (F k).isSome
theorem MapIs.sorted (h : MapIs n F M c) {ss : List Int} (hp : ss.Perm (M.map fun x => (x.1 : Int))) : ss.mergeSort (fun x y => decide (x ≤ y)) = (dirtyOf n F).map fun (k : Nat) => (k : Int) := by
  have h1 : (ss.mergeSort (fun x y => decide (x ≤ y))).Pairwise (fun a b => decide (a ≤ b) = true) := List.pairwise_mergeSort (fun a b c h1 h2 => by simp at *; omega) (fun a b => by simp; omega) ss
  have h2 : ((dirtyOf n F).map fun (k : Nat) => (k : Int)).Pairwise (fun a b => decide (a ≤ b) = true) := by
    rw [List.pairwise_map]
    exact (List.pairwise_lt_range.filter _).imp fun hab => by simp; omega
  refine List.Perm.eq_of_pairwise (fun a b _ _ h1 h2 => by simp at h1 h2; omega) h1 h2 ((List.mergeSort_perm _ _).trans (hp.trans ?_))
  rw [show (M.map fun x => (x.1 : Int)) = (M.map (·.1)).map (fun (k : Nat) => (k : Int)) by rw [List.map_map]; rfl]
  refine List.Perm.map _ ((List.perm_ext_iff_of_nodup h.keys (List.filter_sublist.nodup List.nodup_range)).2 fun k => ?_)
  constructor
  · intro hk
    obtain ⟨x, hx, rfl⟩ := List.mem_map.1 hk
    refine List.mem_filter.2 ⟨List.mem_range.2 (h.low x hx), ?_⟩
    rw [(h.get x.1 x.2.1).2 ⟨x.2.2, hx⟩]; rfl
  · intro hk
    have := (List.mem_filter.1 hk).2
    obtain ⟨v, hv⟩ := Option.isSome_iff_exists.1 this
    obtain ⟨b, hb⟩ := (h.get k v).1 hv
    exact List.mem_map.2 ⟨_, hb, rfl⟩
theorem dirty_lt {k : Nat} (h : k ∈ dirtyOf n F) : k < n := List.mem_range.1 ((List.mem_filter.1 h).1)
theorem dirty_some {k : Nat} (h : k ∈ dirtyOf n F) : ∃ v, F k = some v := Option.isSome_iff_exists.1 (List.mem_filter.1 h).2
theorem dirty_len (n : Nat) (F : Nat → Option β) : (dirtyOf n F).length ≤ n := by
  have := List.length_filter_le (fun k => (F k).isSome) (List.range n)
  simpa [dirtyOf] using this
theorem MapIs.count (h : MapIs n F M c) : M.length ≤ n := by
  have hp := h.sorted (ss := M.map fun x => (x.1 : Int)) (List.Perm.refl _)
  have := congrArg List.length hp
  rw [List.length_mergeSort, List.length_map, List.length_map] at this
  have := dirty_len n F
  omega
end
end
end Go.Proofs.Ytmmpngigaodcgaa
