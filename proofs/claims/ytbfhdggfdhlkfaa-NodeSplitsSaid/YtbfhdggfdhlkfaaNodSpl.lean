/- Plain laws of the halves of a node: nothing is lost, and all stay in their order around the key between. No Go in it. -/
import Derived.Test.YtbfhdggfdhlkfaaNodThm
namespace Go.Proofs.Ytbfhdggfdhlkfaa.Nod
set_option linter.unusedVariables false
set_option linter.unusedSimpArgs false
set_option maxRecDepth 100000
theorem take_key {l : List K} {i : Nat} (h : i < l.length) : l.take (i + 1) = l.take i ++ [key l i] := by
  rw [key_eq h]; simp
theorem halves {x : N} (hf : Full x) : (low x).ks ++ (if x.leaf then [] else [mid x]) ++ (high x).ks = x.ks ∧ (low x).vs ++ (high x).vs = x.vs ∧ (low x).cs ++ (high x).cs = x.cs := by
  have hl := full_len hf
  have h2 := hf.1.2
  unfold low high mid
  cases hlf : x.leaf
  · rw [hlf] at hl h2
    simp only [Bool.false_eq_true, if_false] at hl h2 ⊢
    refine ⟨?_, ?_, List.take_append_drop 7 x.cs⟩
    · rw [← take_key (by omega)]; exact List.take_append_drop 7 x.ks
    · exact (List.eq_nil_of_length_eq_zero h2.2.2).symm
  · rw [hlf] at hl h2
    simp only [if_true] at hl h2 ⊢
    refine ⟨?_, List.take_append_drop 4 x.vs, ?_⟩
    · rw [List.append_nil]; exact List.take_append_drop 4 x.ks
    · exact (List.eq_nil_of_length_eq_zero h2.2).symm
theorem low_lt {x : N} (hf : Full x) {i : Nat} (h : i < (low x).ks.length) : cmp (key (low x).ks i) (mid x) < 0 := by
  have hl := full_len hf
  have ha := hf.1.1
  unfold low mid at *
  cases hlf : x.leaf
  · rw [hlf] at hl h
    simp only [Bool.false_eq_true, if_false, List.length_take] at hl h ⊢
    rw [key_take (by omega)]; exact asc_lt ha (by omega) (by omega)
  · rw [hlf] at hl h
    simp only [if_true, List.length_take] at hl h ⊢
    rw [key_take (by omega)]; exact asc_lt ha (by omega) (by omega)
theorem high_ge {x : N} (hf : Full x) {i : Nat} (h : i < (high x).ks.length) : 0 ≤ cmp (key (high x).ks i) (mid x) ∧ (cmp (key (high x).ks i) (mid x) = 0 → x.leaf = true ∧ i = 0) := by
  have hl := full_len hf
  have ha := hf.1.1
  unfold high mid at *
  cases hlf : x.leaf
  · rw [hlf] at hl h
    simp only [Bool.false_eq_true, if_false, List.length_drop] at hl h ⊢
    rw [key_drop]
    have h1 := asc_lt ha (show 6 < 7 + i by omega) (by omega)
    have h3 := cmp_swap (key x.ks 6) (key x.ks (7 + i))
    omega
  · rw [hlf] at hl h
    simp only [if_true, List.length_drop] at hl h ⊢
    rw [key_drop]
    by_cases h0 : i = 0
    · subst h0; rw [Nat.add_zero, cmp_self]; exact ⟨Int.le_refl 0, fun _ => ⟨trivial, rfl⟩⟩
    · have h1 := asc_lt ha (show 4 < 4 + i by omega) (by omega)
      have h3 := cmp_swap (key x.ks 4) (key x.ks (4 + i))
      omega
theorem half_lens {x : N} (hf : Full x) : 0 < (low x).ks.length ∧ 0 < (high x).ks.length ∧ (x.leaf = true → 0 < (low x).vs.length) ∧ (x.leaf = false → 0 < (low x).cs.length) ∧ (low x).leaf = x.leaf ∧ (high x).leaf = x.leaf := by
  have hl := full_len hf
  have h2 := hf.1.2
  unfold low high
  cases hlf : x.leaf
  · rw [hlf] at hl h2
    simp only [Bool.false_eq_true, if_false, List.length_take, List.length_drop] at hl h2 ⊢
    refine ⟨by omega, by omega, fun h => (by cases h), fun _ => by omega, by trivial, by trivial⟩
  · rw [hlf] at hl h2
    simp only [if_true, List.length_take, List.length_drop] at hl h2 ⊢
    refine ⟨by omega, by omega, fun _ => by omega, fun h => (by cases h), by trivial, by trivial⟩
end Go.Proofs.Ytbfhdggfdhlkfaa.Nod
