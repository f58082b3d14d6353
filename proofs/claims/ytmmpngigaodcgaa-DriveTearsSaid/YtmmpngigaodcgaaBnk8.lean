/- What 'has' sees; the examples of the chapter. -/
import Derived.Test.YtmmpngigaodcgaaBnk7
import Derived.Test.YtmmpngigaodcgaaBnkP
namespace Go.Proofs.Ytmmpngigaodcgaa
set_option linter.unusedVariables false
set_option linter.unusedSimpArgs false
open Go Go.RowKit
set_option maxRecDepth 100000
set_option maxHeartbeats 8000000
theorem two_get {n k : Nat} {c r : UInt8} (hk : k < 128) (hn : n ≤ 128) : (List.replicate n c ++ List.replicate (128 - n) r).getD k 0 = if k < n then c else r := by
  rw [List.getD_eq_getElem?_getD]
  by_cases h : k < n
  · rw [if_pos h, List.getElem?_append_left (by rw [List.length_replicate]; exact h)]; simp [h]
  · rw [if_neg h, List.getElem?_append_right (by rw [List.length_replicate]; omega), List.length_replicate, List.getElem?_replicate, if_pos (by omega)]; rfl
theorem two_len {n : Nat} (c r : UInt8) (hn : n ≤ 128) : (List.replicate n c ++ List.replicate (128 - n) r).length = 128 := by simp; omega
theorem CellsOut.cut {w : World} {S : List Nat} {a : Option Addr} {l : List UInt8} {cap : Nat} (h : CellsOut w S a (bs l)) (lo m : Nat) (hl : l.length ≤ cap) : CellsOut w S (cutA a lo cap 1) (bs ((l.drop lo).take m)) := by
  rcases h with h | ⟨b, off, rfl, hb, hc⟩
  · refine .inl ?_
    have : l = [] := by simpa [bs] using h
    subst this; simp [bs]
  · by_cases he : cap = lo
    · refine .inl ?_
      rw [List.drop_eq_nil_of_le (by omega)]; simp [bs]
    · refine .inr ⟨b, off + lo, by simp only [cutA, if_neg he, Option.map_some, Addr.add, Nat.mul_one]; split <;> simp_all, hb, fun i v hv => ?_⟩
      have hv2 : (bs l)[lo + i]? = some v := by
        have e : bs ((l.drop lo).take m) = ((bs l).drop lo).take m := by simp [bs, List.map_take, List.map_drop]
        rw [e, List.getElem?_take] at hv
        split at hv
        · rwa [List.getElem?_drop] at hv
        · cases hv
      rw [Nat.add_assoc]
      exact hc _ v hv2
theorem CellsOut.cutd {w : World} {S : List Nat} {a : Option Addr} {l : List UInt8} {cap : Nat} (h : CellsOut w S a (bs l)) (lo : Nat) (hl : l.length ≤ cap) : CellsOut w S (cutA a lo cap 1) (bs (l.drop lo)) := by
  have := h.cut lo (l.drop lo).length hl
  rwa [List.take_of_length_le (Nat.le_refl _)] at this
attribute [local irreducible] WL WC WN Yl WH WQ WT WE WU WG
end Go.Proofs.Ytmmpngigaodcgaa
