/- From what a row's proof knows of the arguments to what the contracts ask. -/
import Derived.Test.YtloaielfjfofgaaCall
import Derived.OpenShut
namespace Go.Proofs.Ytloaielfjfofgaa
open Go Go.RowKit
theorem good {w w' : World} {e : Ending} (h : Gives (Val (.bool true)) w e w') : e = .returned (.bool true) ∧ Below w.heap.size w w' := by
  obtain ⟨v, B, rfl, ⟨rfl, rfl⟩, s⟩ := h
  exact ⟨rfl, s.below⟩
theorem wf_u8 {n : Int} (h : (Lit.int .u8 n).wf = true) : 0 ≤ n ∧ n < 256 := by
  simp [Lit.wf, IntKind.min, IntKind.max, IntKind.signed, IntKind.bits] at h; omega
theorem wf_u16 {n : Int} (h : (Lit.int .u16 n).wf = true) : ∃ m : Nat, n = (m : Int) ∧ m < 65536 := by
  simp [Lit.wf, IntKind.min, IntKind.max, IntKind.signed, IntKind.bits] at h; exact ⟨n.toNat, by omega, by omega⟩
theorem wf_u32 {n : Int} (h : (Lit.int .u32 n).wf = true) : ∃ m : Nat, n = (m : Int) ∧ m < 4294967296 := by
  simp [Lit.wf, IntKind.min, IntKind.max, IntKind.signed, IntKind.bits] at h; exact ⟨n.toNat, by omega, by omega⟩
theorem wf_u64 {n : Int} (h : (Lit.int .u64 n).wf = true) : ∃ m : Nat, n = (m : Int) ∧ m < 18446744073709551616 := by
  simp [Lit.wf, IntKind.min, IntKind.max, IntKind.signed, IntKind.bits] at h; exact ⟨n.toNat, by omega, by omega⟩
theorem wf_i64 {n : Int} (h : (Lit.int .i64 n).wf = true) : -9223372036854775808 ≤ n ∧ n ≤ 9223372036854775807 := by
  simp [Lit.wf, IntKind.min, IntKind.max, IntKind.signed, IntKind.bits] at h; omega
theorem wf_byte {n : Int} (h : (Lit.int .u8 n).wf = true) : ∃ c : UInt8, n = (c.toNat : Int) := by
  have := wf_u8 h
  have e := UInt8.toNat_ofNat_of_lt' (show n.toNat < UInt8.size by simp only [UInt8.size]; omega)
  exact ⟨UInt8.ofNat n.toNat, by rw [e]; omega⟩
/-- A slice of bytes that came in. -/
theorem bytes_in {w : World} {a : Option Addr} {len cap : Nat} {zs : List Int}
    (h : (a = none ∧ len = 0 ∧ cap = 0 ∧ zs = []) ∨ ∃ x, a = some x ∧ len ≤ cap ∧ cap ≤ maxLen ∧ zs.length = cap ∧ (∀ i, i < zs.length → w.cell? (x.add i) = some (.int .u8 (zs.getD i 0))) ∧ ∀ n ∈ zs, (Lit.int .u8 n).wf = true) :
    ∃ l : List UInt8, l.length = len ∧ len ≤ cap ∧ cap ≤ 9223372036854775807 ∧ CellsAt w a (bs l) := by
  rcases h with ⟨rfl, rfl, rfl, rfl⟩ | ⟨x, rfl, hl, hm, hz, hc, hw⟩
  · exact ⟨[], rfl, Nat.le_refl _, by omega, .nil _ _⟩
  · refine ⟨(zs.take len).map fun n => UInt8.ofNat n.toNat, by simp; omega, hl, by simpa [maxLen] using hm, ?_⟩
    by_cases h0 : len = 0
    · subst h0; exact .inl (by simp [bs])
    · have hx := hc 0 (by rw [hz]; omega)
      obtain ⟨b, off, spot⟩ := x
      have hspot : spot = none := by simpa [Addr.add] using World.cell?_spot hx
      subst hspot
      refine .inr ⟨b, off, rfl, fun i v hv => ?_⟩
      have hi : i < len := by
        have := (List.getElem?_eq_some_iff.1 hv).1
        simp [bs] at this; omega
      have hiz : i < zs.length := by rw [hz]; omega
      have hci := hc i hiz
      have ea : (⟨b, off, none⟩ : Addr).add i = ⟨b, off + i, none⟩ := by unfold Addr.add; split <;> simp_all
      rw [ea] at hci
      rw [hci, ← hv]
      have hwf := wf_u8 (hw zs[i] (List.getElem_mem hiz))
      simp only [bs, List.map_map, List.getElem?_map, List.getElem?_take, hi, if_true, List.getElem?_eq_getElem hiz, Option.map_some, Function.comp, bv, List.getD_eq_getElem?_getD, Option.getD_some]
      have e := UInt8.toNat_ofNat_of_lt' (show zs[i].toNat < UInt8.size by simp only [UInt8.size]; omega)
      rw [e]
      congr 2; omega
end Go.Proofs.Ytloaielfjfofgaa
