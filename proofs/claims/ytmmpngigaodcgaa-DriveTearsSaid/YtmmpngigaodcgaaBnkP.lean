/- Banks: plain facts; the examples of the chapter. -/
import Derived.Test.YtmmpngigaodcgaaBnk5
namespace Go.Proofs.Ytmmpngigaodcgaa
set_option linter.unusedVariables false
set_option linter.unusedSimpArgs false
open Go Go.RowKit
set_option maxRecDepth 100000
theorem write_wf {d : List (List UInt8)} {F : Nat → Option (List UInt8)} (h : BkWf d F) (s : Int) (x : List UInt8) : BkWf d (writeF d.length F s x) := by
  refine ⟨h.pos, h.le, h.len, fun k v hv => ?_⟩
  unfold writeF at hv
  split at hv
  · rename_i hc
    unfold setF at hv
    split at hv
    · cases hv; exact hc.2
    · exact h.val k v hv
  · exact h.val k v hv
theorem cfold_wf {K : List Int} (hk : keepOk K) : ∀ {pre : List Nat} {s : BSt}, BkWf s.1 s.2 → (∀ x ∈ pre, x < s.1.length) → BkWf (cfold K s pre).1 (cfold K s pre).2 ∧ (cfold K s pre).1.length = s.1.length := by
  intro pre
  obtain ⟨n, hn⟩ : ∃ n, pre.length = n := ⟨_, rfl⟩
  induction n generalizing pre with
  | zero => intro s h _; rw [List.eq_nil_of_length_eq_zero hn]; exact ⟨h, rfl⟩
  | succ n ih =>
    intro s h hx
    rcases List.eq_nil_or_concat pre with rfl | ⟨l, x, rfl⟩
    · simp at hn
    · rw [List.concat_eq_append] at *
      obtain ⟨h1, h2⟩ := ih (by simpa using hn) h (fun y hy => hx y (List.mem_append_left _ hy))
      rw [cfold_snoc]
      exact ⟨cstep_wf h1 (by rw [h2]; exact hx x (by simp)) (keepAt_le hk _).1, by rw [cstep_len, h2]⟩
theorem crash_wf {d : List (List UInt8)} {F : Nat → Option (List UInt8)} (K : List Int) (h : BkWf d F) : BkWf (crashR K d F).1.1 (crashR K d F).1.2 ∧ (crashR K d F).1.1.length = d.length := by
  unfold crashR
  split
  · rename_i hk
    exact cfold_wf (s := (d, F)) hk h (fun x hx => dirty_lt hx)
  · exact ⟨h, rfl⟩
theorem new_wf {n : Nat} (h1 : 1 ≤ n) (h2 : n ≤ 4096) : BkWf (List.replicate n zblk) (fun _ => none) :=
  ⟨by rw [List.length_replicate]; omega, by rw [List.length_replicate]; exact h2, fun x hx => by rw [List.eq_of_mem_replicate hx]; rfl, fun k v h => (by cases h)⟩
abbrev letter (c : UInt8) : List UInt8 := List.replicate 128 c
theorem works_plain : ∃ (d0 : List (List UInt8)) (F1 F2 : Nat → Option (List UInt8)) (d1 : List (List UInt8)) (F5 F6 : Nat → Option (List UInt8)) (d2 : List (List UInt8)) (F7 : Nat → Option (List UInt8)) (d3 : List (List UInt8)) (F8 : Nat → Option (List UInt8)),
    d0 = List.replicate 3 zblk ∧ BkWf d0 (fun _ => none) ∧ d0.length = 3 ∧
    writeF d0.length (fun _ => none) 0 (letter 97) = F1 ∧ writeE d0.length 0 (letter 97) = 0 ∧ BkWf d0 F1 ∧
    writeF d0.length F1 2 (letter 98) = F2 ∧ writeE d0.length 2 (letter 98) = 0 ∧ BkWf d0 F2 ∧
    writeF d0.length F2 3 (letter 97) = F2 ∧ writeE d0.length 3 (letter 97) = 3 ∧
    writeF d0.length F2 0 ((letter 97).drop 1) = F2 ∧ writeE d0.length 0 ((letter 97).drop 1) = 2 ∧
    dirtyOf d0.length F2 = [0, 2] ∧
    crashR [5, 128] d0 F2 = ((d1, F5), 0) ∧ BkWf d1 F5 ∧ d1.length = d0.length ∧
    readR d1 F5 0 = (List.replicate 5 97 ++ List.replicate (128 - 5) 0, 0) ∧ readR d1 F5 2 = (List.replicate 128 98 ++ List.replicate (128 - 128) 0, 0) ∧ dirtyOf d1.length F5 = [] ∧
    writeF d1.length F5 2 (letter 99) = F6 ∧ writeE d1.length 2 (letter 99) = 0 ∧ BkWf d1 F6 ∧
    crashR [128] d1 F6 = ((d2, F7), 0) ∧ BkWf d2 F7 ∧ d2.length = d1.length ∧
    crashR [0] d2 F7 = ((d3, F8), 0) ∧ BkWf d3 F8 ∧ d3.length = d2.length ∧
    readR d3 F8 2 = (List.replicate 128 99 ++ List.replicate (128 - 128) 0, 0) ∧
    crashR [] d3 F8 = ((d3, F8), 2) ∧ crashR [129] d3 F8 = ((d3, F8), 2) := by
  have w0 := new_wf (n := 3) (by decide) (by decide)
  have w1 := write_wf w0 0 (letter 97)
  have w2 := write_wf w1 2 (letter 98)
  have w5 := crash_wf [5, 128] w2
  have w6 := write_wf w5.1 2 (letter 99)
  have w7 := crash_wf [128] w6
  have w8 := crash_wf [0] w7.1
  have e5 : (crashR [5, 128] (List.replicate 3 zblk) (writeF (List.replicate 3 zblk).length (writeF (List.replicate 3 zblk).length (fun _ => none) 0 (letter 97)) 2 (letter 98))).2 = 0 := by decide +kernel
  refine ⟨_, _, _, _, _, _, _, _, _, _, rfl, w0, List.length_replicate, rfl, ?_, w1, rfl, ?_, w2, ?_, ?_, ?_, ?_, ?_, ?_, w5.1, w5.2, ?_, ?_, ?_, rfl, ?_, w6, ?_, w7.1, w7.2, ?_, w8.1, w8.2, ?_, ?_, ?_⟩
  · decide +kernel
  · decide +kernel
  · rw [writeF, if_neg (by decide +kernel)]
  · decide +kernel
  · rw [writeF, if_neg (by decide +kernel)]
  · decide +kernel
  · decide +kernel
  · exact Prod.ext (Prod.ext rfl rfl) e5
  · decide +kernel
  · decide +kernel
  · decide +kernel
  · decide +kernel
  · exact Prod.ext (Prod.ext rfl rfl) (by decide +kernel)
  · exact Prod.ext (Prod.ext rfl rfl) (by decide +kernel)
  · decide +kernel
  · rw [crashR, if_neg (by decide)]
  · rw [crashR, if_neg (by decide)]
end Go.Proofs.Ytmmpngigaodcgaa
