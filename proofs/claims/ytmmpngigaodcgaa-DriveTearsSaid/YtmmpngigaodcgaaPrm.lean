/- Memory in another order. -/
import Derived.Test.YtmmpngigaodcgaaSl
namespace Go.Proofs.Ytmmpngigaodcgaa
set_option linter.unusedVariables false
set_option linter.unusedSimpArgs false
open Go Go.RowKit
theorem Pick.of_mem {x : HA} : ∀ {A : List HA}, x ∈ A → ∃ B, Pick x A B
  | y :: A, h => by
    rcases List.mem_cons.1 h with rfl | h
    · exact ⟨A, .here⟩
    · obtain ⟨B, p⟩ := Pick.of_mem h
      exact ⟨y :: B, .there p⟩
theorem Part.perm : ∀ {B A : List HA}, A.Perm B → Part A B
  | [], _, _ => .nil
  | x :: B, A, h => by
    obtain ⟨A', p⟩ := Pick.of_mem (h.mem_iff.2 (.head _))
    exact .cons p (Part.perm ((List.perm_cons x).1 (p.perm.symm.trans h)))
theorem perm3 (a b r : List HA) : (a ++ (b ++ r)).Perm (b ++ (a ++ r)) := by
  classical
  rw [List.perm_iff_count]; intro x; simp only [List.count_append]; omega
theorem WL.part {X : Cx} {ops : Array Oper} {Q : Exit → Act → World → Prop} {l : List Oper} {ρ : Env} {A B : List HA} (hp : Part A B) (h : WL X ops Q l ρ B) : WL X ops Q l ρ A := fun a w f s => h a w f (s.part hp)
theorem WC.part {X : Cx} {c : Code} {Q : Exit → Act → World → Prop} {ρ : Env} {A B : List HA} (hp : Part A B) (h : WC X c Q ρ B) : WC X c Q ρ A := fun a w f s => h a w f (s.part hp)
/-- The rows behind are given a name. -/
theorem WL.hide {X : Cx} {ops : Array Oper} {Q : Exit → Act → World → Prop} {l : List Oper} {ρ : Env} {D Z : List HA} (h : ∀ Z2, Z2 = Z → WL X ops Q l ρ (D ++ Z2)) : WL X ops Q l ρ (D ++ Z) := h Z rfl
end Go.Proofs.Ytmmpngigaodcgaa
