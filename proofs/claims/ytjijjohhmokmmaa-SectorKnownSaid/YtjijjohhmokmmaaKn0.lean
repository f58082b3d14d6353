/- The greatest bank: plain facts. -/
import Derived.Test.YtjijjohhmokmmaaBnkP
namespace Go.Proofs.Ytjijjohhmokmmaa
set_option linter.unusedVariables false
set_option linter.unusedSimpArgs false
open Go Go.RowKit
set_option maxRecDepth 100000
theorem known_dirty : dirtyOf 4096 (writeF 4096 (writeF 4096 (fun _ => none) 4095 (letter 122)) 0 (letter 121)) = [0, 4095] := by decide +kernel
theorem known_plain : ∃ (d0 : List (List UInt8)) (F1 F2 : Nat → Option (List UInt8)) (d1 : List (List UInt8)) (F5 : Nat → Option (List UInt8)),
    d0 = List.replicate 4096 zblk ∧ BkWf d0 (fun _ => none) ∧ d0.length = 4096 ∧
    writeF d0.length (fun _ => none) 4095 (letter 122) = F1 ∧ writeE d0.length 4095 (letter 122) = 0 ∧ BkWf d0 F1 ∧
    writeF d0.length F1 0 (letter 121) = F2 ∧ writeE d0.length 0 (letter 121) = 0 ∧ BkWf d0 F2 ∧
    writeF d0.length F2 4096 (letter 122) = F2 ∧ writeE d0.length 4096 (letter 122) = 3 ∧
    dirtyOf d0.length F2 = [0, 4095] ∧
    crashR [1, 127] d0 F2 = ((d1, F5), 0) ∧ BkWf d1 F5 ∧ d1.length = d0.length ∧
    readR d1 F5 0 = (List.replicate 1 121 ++ List.replicate (128 - 1) 0, 0) ∧ readR d1 F5 4095 = (List.replicate 127 122 ++ List.replicate (128 - 127) 0, 0) ∧ readR d1 F5 7 = (List.replicate 0 0 ++ List.replicate (128 - 0) 0, 0) := by
  obtain ⟨d0, hd0⟩ : ∃ d0, d0 = List.replicate 4096 zblk := ⟨_, rfl⟩
  have w0 := new_wf (n := 4096) (by decide) (by decide)
  rw [← hd0] at w0
  have hl : d0.length = 4096 := by rw [hd0, List.length_replicate]
  have w1 := write_wf w0 4095 (letter 122)
  have w2 := write_wf w1 0 (letter 121)
  have w5 := crash_wf [1, 127] w2
  have hdd := known_dirty
  rw [hl] at w1 w2 w5
  have e5 : crashR [1, 127] d0 (writeF 4096 (writeF 4096 (fun _ => none) 4095 (letter 122)) 0 (letter 121)) = (cfold [1, 127] (d0, writeF 4096 (writeF 4096 (fun _ => none) 4095 (letter 122)) 0 (letter 121)) [0, 4095], 0) := by
    rw [crashR, if_pos (by decide), hl, hdd]
  rw [e5] at w5
  have hl5 := w5.2
  refine ⟨d0, _, _, _, _, hd0, w0, hl, rfl, ?_, ?_, rfl, ?_, ?_, ?_, ?_, ?_, ?_, w5.1, ?_, ?_, ?_, ?_⟩
  · rw [hl]; decide +kernel
  · rw [hl]; exact w1
  · rw [hl]; decide +kernel
  · rw [hl]; exact w2
  · rw [hl, writeF, if_neg (by decide +kernel)]
  · rw [hl]; decide +kernel
  · rw [hl]; exact hdd
  · rw [hl]; exact e5
  · rw [hl]; exact hl5
  · rw [readR, hl5, hd0, if_pos (by decide)]; decide +kernel
  · rw [readR, hl5, hd0, if_pos (by decide)]; decide +kernel
  · rw [readR, hl5, hd0, if_pos (by decide)]; decide +kernel
end Go.Proofs.Ytjijjohhmokmmaa
