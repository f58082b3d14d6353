/- What a crash leaves in each sector. -/
import Derived.Test.YtmmpngigaodcgaaBnkP
import Derived.Test.YtmmpngigaodcgaaSl
namespace Go.Proofs.Ytmmpngigaodcgaa
set_option linter.unusedVariables false
set_option linter.unusedSimpArgs false
open Go Go.RowKit
set_option maxRecDepth 100000
theorem cf_atK (K : List Int) (d : List (List UInt8)) (F : Nat → Option (List UInt8)) : ∀ m, m ≤ d.length →
    (cfold K (d, F) (dpre F m)).1.length = d.length ∧
    (∀ j, m ≤ j → (cfold K (d, F) (dpre F m)).2 j = F j ∧ (cfold K (d, F) (dpre F m)).1.getD j [] = d.getD j []) ∧
    (∀ j, j < m → (cfold K (d, F) (dpre F m)).2 j = none ∧ (F j = none → (cfold K (d, F) (dpre F m)).1.getD j [] = d.getD j []) ∧ ∀ u, F j = some u → (cfold K (d, F) (dpre F m)).1.getD j [] = u.take (keepAt K (dpre F j).length) ++ (d.getD j []).drop (keepAt K (dpre F j).length)) := by
  intro m
  induction m with
  | zero => intro _; exact ⟨rfl, fun j _ => ⟨rfl, rfl⟩, fun j hj => by omega⟩
  | succ m ih =>
    intro hm
    obtain ⟨h1, h2, h3⟩ := ih (by omega)
    cases e : F m with
    | none =>
      rw [dpre_none e]
      refine ⟨h1, fun j hj => h2 j (by omega), fun j hj => ?_⟩
      by_cases ej : j = m
      · subst ej
        have := h2 j (Nat.le_refl _)
        exact ⟨by rw [this.1, e], fun _ => this.2, fun u hu => by rw [e] at hu; cases hu⟩
      · exact h3 j (by omega)
    | some u =>
      rw [dpre_some e, cfold_snoc]
      have hm2 := h2 m (Nat.le_refl _)
      generalize cfold K (d, F) (dpre F m) = s at *
      have hl : m < s.1.length := by omega
      have hset : ∀ j, (cstep K s (dpre F m).length m).1.getD j [] = if j = m then u.take (keepAt K (dpre F m).length) ++ (d.getD m []).drop (keepAt K (dpre F m).length) else s.1.getD j [] := fun j => by
        by_cases ej : j = m
        · subst ej
          rw [if_pos rfl]
          simp only [cstep, hm2.1, e, hm2.2]
          simp [List.getD, hl]
        · rw [if_neg ej]
          simp [cstep, List.getD, List.getElem?_set_ne (Ne.symm ej)]
      have hsf : ∀ j, (cstep K s (dpre F m).length m).2 j = if j = m then none else s.2 j := fun j => rfl
      refine ⟨by rw [cstep_len]; exact h1, fun j hj => ?_, fun j hj => ?_⟩
      · rw [hset, hsf, if_neg (by omega), if_neg (by omega)]
        exact h2 j (by omega)
      · rw [hset, hsf]
        by_cases ej : j = m
        · subst ej
          rw [if_pos rfl, if_pos rfl]
          exact ⟨rfl, fun h => (by rw [e] at h; cases h), fun u' hu => by rw [e] at hu; cases hu; rfl⟩
        · rw [if_neg ej, if_neg ej]
          exact h3 j (by omega)
theorem crashK {K : List Int} (hK : keepOk K) (d : List (List UInt8)) (F : Nat → Option (List UInt8)) : (crashR K d F).1.1.length = d.length ∧ ∀ i, i < d.length →
    (crashR K d F).1.2 i = none ∧ (F i = none → (crashR K d F).1.1.getD i [] = d.getD i []) ∧ ∀ u, F i = some u → (crashR K d F).1.1.getD i [] = u.take (keepAt K (dpre F i).length) ++ (d.getD i []).drop (keepAt K (dpre F i).length) := by
  rw [crashR, if_pos hK]
  obtain ⟨h1, _, h3⟩ := cf_atK K d F d.length (Nat.le_refl _)
  rw [dpre_all] at h1 h3
  exact ⟨h1, h3⟩
end Go.Proofs.Ytmmpngigaodcgaa
