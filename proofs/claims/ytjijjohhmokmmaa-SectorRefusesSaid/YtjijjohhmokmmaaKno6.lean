/- Crashes that keep all, and nothing. -/
import Derived.Test.YtjijjohhmokmmaaKno5
namespace Go.Proofs.Ytjijjohhmokmmaa
set_option linter.unusedVariables false
set_option linter.unusedSimpArgs false
open Go Go.RowKit
set_option maxRecDepth 100000
theorem cf_at (k : Nat) (d : List (List UInt8)) (F : Nat → Option (List UInt8)) : ∀ m, m ≤ d.length →
    (cfold [(k : Int)] (d, F) (dpre F m)).1.length = d.length ∧
    (∀ j, m ≤ j → (cfold [(k : Int)] (d, F) (dpre F m)).2 j = F j ∧ (cfold [(k : Int)] (d, F) (dpre F m)).1.getD j [] = d.getD j []) ∧
    (∀ j, j < m → (cfold [(k : Int)] (d, F) (dpre F m)).2 j = none ∧ (F j = none → (cfold [(k : Int)] (d, F) (dpre F m)).1.getD j [] = d.getD j []) ∧ ∀ u, F j = some u → (cfold [(k : Int)] (d, F) (dpre F m)).1.getD j [] = u.take k ++ (d.getD j []).drop k) := by
  intro m
  induction m with
  | zero => intro _; exact ⟨rfl, fun j _ => ⟨rfl, rfl⟩, fun j hj => by omega⟩
  | succ m ih =>
    intro hm
    obtain ⟨h1, h2, h3⟩ := ih (by omega)
    cases e : F m with
    | none =>
      rw [dpre_none e]
      refine ⟨h1, fun j hj => h2 j (by omega), fun j hj => ?_⟩
      by_cases ej : j = m
      · subst ej
        have := h2 j (Nat.le_refl _)
        exact ⟨by rw [this.1, e], fun _ => this.2, fun u hu => by rw [e] at hu; cases hu⟩
      · exact h3 j (by omega)
    | some u =>
      rw [dpre_some e, cfold_snoc]
      have hm2 := h2 m (Nat.le_refl _)
      have hka : keepAt [(k : Int)] (dpre F m).length = k := by simp [keepAt, Nat.mod_one]
      generalize cfold [(k : Int)] (d, F) (dpre F m) = s at *
      have hl : m < s.1.length := by omega
      have hset : ∀ j, (cstep [(k : Int)] s (dpre F m).length m).1.getD j [] = if j = m then u.take k ++ (d.getD m []).drop k else s.1.getD j [] := fun j => by
        by_cases ej : j = m
        · subst ej
          rw [if_pos rfl]
          simp only [cstep, hka, hm2.1, e, hm2.2]
          simp [List.getD, hl]
        · rw [if_neg ej]
          simp [cstep, List.getD, List.getElem?_set_ne (Ne.symm ej)]
      have hsf : ∀ j, (cstep [(k : Int)] s (dpre F m).length m).2 j = if j = m then none else s.2 j := fun j => rfl
      refine ⟨by rw [cstep_len]; exact h1, fun j hj => ?_, fun j hj => ?_⟩
      · rw [hset, hsf, if_neg (by omega), if_neg (by omega)]
        exact h2 j (by omega)
      · rw [hset, hsf]
        by_cases ej : j = m
        · subst ej
          rw [if_pos rfl, if_pos rfl]
          exact ⟨rfl, fun h => (by rw [e] at h; cases h), fun u' hu => by rw [e] at hu; cases hu; rfl⟩
        · rw [if_neg ej, if_neg ej]
          exact h3 j (by omega)
/-- A crash that keeps k bytes of each sector. -/
theorem crash_k (k : Nat) (hk : k ≤ 128) (d : List (List UInt8)) (F : Nat → Option (List UInt8)) (hwf : BkWf d F) : ∃ d' F', crashR [(k : Int)] d F = ((d', F'), 0) ∧ BkWf d' F' ∧ d'.length = d.length ∧ dirtyOf d.length F' = [] ∧
    ∀ i, i < d.length → readR d' F' (i : Int) = (d'.getD i [], 0) ∧ durR d' (i : Int) = (d'.getD i [], 0) ∧ (F i = none → d'.getD i [] = d.getD i []) ∧ ∀ u, F i = some u → d'.getD i [] = u.take k ++ (d.getD i []).drop k := by
  have hko : keepOk [(k : Int)] := ⟨by simp, fun x hx => by simp at hx; omega⟩
  have e1 : crashR [(k : Int)] d F = (cfold [(k : Int)] (d, F) (dirtyOf d.length F), 0) := by rw [crashR, if_pos hko]
  have hcw := crash_wf [(k : Int)] hwf
  rw [e1] at hcw
  obtain ⟨h1, _, h3⟩ := cf_at k d F d.length (Nat.le_refl _)
  rw [dpre_all] at h1 h3
  generalize cfold [(k : Int)] (d, F) (dirtyOf d.length F) = s at *
  obtain ⟨d', F'⟩ := s
  simp only at h1 h3 hcw
  refine ⟨d', F', e1, hcw.1, hcw.2, ?_, fun i hi => ?_⟩
  · refine List.filter_eq_nil_iff.2 fun j hj => ?_
    have := (h3 j (List.mem_range.1 hj)).1
    simp [this]
  · obtain ⟨g1, g2, g3⟩ := h3 i hi
    have hb : bchk d'.length (i : Int) = 0 := bchk_in (by rw [h1]; exact hi)
    exact ⟨by rw [readR, if_pos hb, Int.toNat_natCast, g1]; rfl, by rw [durR, if_pos hb, Int.toNat_natCast], g2, g3⟩
theorem WC.memEq {X : Cx} {c : Code} {Q : Exit → Act → World → Prop} {ρ : Env} {A A' : List HA} (h : A = A') (k : WC X c Q ρ A') : WC X c Q ρ A := by rw [h]; exact k
theorem crash_again {d : List (List UInt8)} {F : Nat → Option (List UInt8)} (h : dirtyOf d.length F = []) : crashR [0] d F = ((d, F), 0) := by
  rw [crashR, if_pos (by decide), h]; rfl
end Go.Proofs.Ytjijjohhmokmmaa
