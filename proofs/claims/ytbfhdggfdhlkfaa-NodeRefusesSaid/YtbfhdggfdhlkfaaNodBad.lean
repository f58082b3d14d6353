/- Plain laws of nodes of which one thing is not as it has to be. No Go in it. -/
import Derived.Test.YtbfhdggfdhlkfaaNodThm
namespace Go.Proofs.Ytbfhdggfdhlkfaa.Nod
set_option linter.unusedVariables false
set_option linter.unusedSimpArgs false
theorem bad_vals {x : N} (h : Formed x) (v : List UInt8) : ¬ Formed ⟨x.leaf, x.ks, x.vs ++ [v], x.cs⟩ := fun q => by
  have h2 := h.2; have q2 := q.2
  simp only at q2
  split at h2 <;> rename_i hl <;> simp only [hl, List.length_append, List.length_singleton, if_true, if_false, Bool.false_eq_true] at q2 <;> omega
theorem bad_kids {x : N} (h : Formed x) (c : Int) : ¬ Formed ⟨x.leaf, x.ks, x.vs, x.cs ++ [c]⟩ := fun q => by
  have h2 := h.2; have q2 := q.2
  simp only at q2
  split at h2 <;> rename_i hl <;> simp only [hl, List.length_append, List.length_singleton, if_true, if_false, Bool.false_eq_true] at q2 <;> omega
theorem key_set_self {l : List K} {i : Nat} (h : i < l.length) (k : K) : key (l.set i k) i = k := by simp [key, List.getD, h]
theorem key_set_ne {l : List K} {i j : Nat} (h : i ≠ j) (k : K) : key (l.set i k) j = key l j := by simp [key, List.getD, List.getElem?_set_ne h]
theorem bad_dup {x : N} {i : Nat} (hi : i + 1 < x.ks.length) : ¬ Formed ⟨x.leaf, x.ks.set (i + 1) (key x.ks i), x.vs, x.cs⟩ := fun q => by
  have h := q.1 i (by simpa using hi)
  simp only at h
  rw [key_set_self hi, key_set_ne (by omega), cmp_self] at h
  omega
theorem bad_swap {x : N} {n : Nat} (h : Formed x) (h1 : 1 ≤ n) (hn : n < x.ks.length) : ¬ Formed ⟨x.leaf, (x.ks.set 0 (key x.ks n)).set n (key x.ks 0), x.vs, x.cs⟩ := fun q => by
  have ha := asc_lt h.1 (show 0 < n by omega) hn
  have hb := asc_lt q.1 (show 0 < n by omega) (by simpa using hn)
  simp only at hb
  rw [key_set_self (by simpa using hn), key_set_ne (by omega), key_set_self (by omega), cmp_swap] at hb
  omega
theorem bad_kid {x : N} {i : Nat} {c : Int} (hl : x.leaf = false) (hi : i < x.cs.length) (hc : ¬ kidOk c) : ¬ Formed ⟨x.leaf, x.ks, x.vs, x.cs.set i c⟩ := fun q => by
  have q2 := q.2
  simp only [hl, Bool.false_eq_true, if_false] at q2
  exact hc (q2.1 c (List.mem_set hi c))
theorem bad_flip {x : N} (h : Formed x) (hk : 1 ≤ x.ks.length) : ¬ Formed ⟨!x.leaf, x.ks, x.vs, x.cs⟩ := fun q => by
  have h2 := h.2; have q2 := q.2
  simp only at q2
  split at h2 <;> rename_i hl <;> simp only [hl, Bool.not_true, Bool.not_false, if_true, if_false, Bool.false_eq_true] at q2 <;> omega
theorem formed_sizes {x : N} (h : Formed x) (hk : x.ks.length ≤ 12) : x.vs.length ≤ 12 ∧ x.cs.length ≤ 13 := by
  have h2 := h.2
  split at h2 <;> omega
theorem set_wf {l : List K} (h : ∀ k ∈ l, k.Wf) {i : Nat} {k : K} (hk : k.Wf) : ∀ x ∈ l.set i k, x.Wf := fun x hx => by
  rcases List.mem_or_eq_of_mem_set hx with h1 | rfl
  · exact h x h1
  · exact hk
end Go.Proofs.Ytbfhdggfdhlkfaa.Nod
