/- From what a row's proof knows of the arguments to what the contracts ask. -/
import Derived.Test.YtmmpngigaodcgaaCall
import Derived.OpenShut
import Derived.Deep.Matrix
namespace Go.Proofs.Ytmmpngigaodcgaa
set_option linter.unusedVariables false
set_option linter.unusedSimpArgs false
open Go Go.RowKit
theorem good {w w' : World} {e : Ending} (h : Gives (Val (.bool true)) w e w') : e = .returned (.bool true) ∧ Below w.heap.size w w' := by
  obtain ⟨v, B, rfl, ⟨rfl, rfl⟩, s⟩ := h
  exact ⟨rfl, s.below⟩
theorem wf_u8 {n : Int} (h : (Lit.int .u8 n).wf = true) : 0 ≤ n ∧ n < 256 := by
  simp [Lit.wf, IntKind.min, IntKind.max, IntKind.signed, IntKind.bits] at h; omega
theorem wf_u16 {n : Int} (h : (Lit.int .u16 n).wf = true) : ∃ m : Nat, n = (m : Int) ∧ m < 65536 := by
  simp [Lit.wf, IntKind.min, IntKind.max, IntKind.signed, IntKind.bits] at h; exact ⟨n.toNat, by omega, by omega⟩
theorem wf_u32 {n : Int} (h : (Lit.int .u32 n).wf = true) : ∃ m : Nat, n = (m : Int) ∧ m < 4294967296 := by
  simp [Lit.wf, IntKind.min, IntKind.max, IntKind.signed, IntKind.bits] at h; exact ⟨n.toNat, by omega, by omega⟩
theorem wf_u64 {n : Int} (h : (Lit.int .u64 n).wf = true) : ∃ m : Nat, n = (m : Int) ∧ m < 18446744073709551616 := by
  simp [Lit.wf, IntKind.min, IntKind.max, IntKind.signed, IntKind.bits] at h; exact ⟨n.toNat, by omega, by omega⟩
theorem wf_i64 {n : Int} (h : (Lit.int .i64 n).wf = true) : -9223372036854775808 ≤ n ∧ n ≤ 9223372036854775807 := by
  simp [Lit.wf, IntKind.min, IntKind.max, IntKind.signed, IntKind.bits] at h; omega
theorem wf_byte {n : Int} (h : (Lit.int .u8 n).wf = true) : ∃ c : UInt8, n = (c.toNat : Int) := by
  have := wf_u8 h
  have e := UInt8.toNat_ofNat_of_lt' (show n.toNat < UInt8.size by simp only [UInt8.size]; omega)
  exact ⟨UInt8.ofNat n.toNat, by rw [e]; omega⟩
/-- A slice of bytes that came in. -/
theorem bytes_in {w : World} {a : Option Addr} {len cap : Nat} {zs : List Int}
    (h : (a = none ∧ len = 0 ∧ cap = 0 ∧ zs = []) ∨ ∃ x, a = some x ∧ len ≤ cap ∧ cap ≤ maxLen ∧ zs.length = cap ∧ (∀ i, i < zs.length → w.cell? (x.add i) = some (.int .u8 (zs.getD i 0))) ∧ ∀ n ∈ zs, (Lit.int .u8 n).wf = true) :
    ∃ l : List UInt8, l.length = len ∧ len ≤ cap ∧ cap ≤ 9223372036854775807 ∧ CellsAt w a (bs l) := by
  rcases h with ⟨rfl, rfl, rfl, rfl⟩ | ⟨x, rfl, hl, hm, hz, hc, hw⟩
  · exact ⟨[], rfl, Nat.le_refl _, by omega, .nil _ _⟩
  · refine ⟨(zs.take len).map fun n => UInt8.ofNat n.toNat, by simp; omega, hl, by simpa [maxLen] using hm, ?_⟩
    by_cases h0 : len = 0
    · subst h0; exact .inl (by simp [bs])
    · have hx := hc 0 (by rw [hz]; omega)
      obtain ⟨b, off, spot⟩ := x
      have hspot : spot = none := by simpa [Addr.add] using World.cell?_spot hx
      subst hspot
      refine .inr ⟨b, off, rfl, fun i v hv => ?_⟩
      have hi : i < len := by
        have := (List.getElem?_eq_some_iff.1 hv).1
        simp [bs] at this; omega
      have hiz : i < zs.length := by rw [hz]; omega
      have hci := hc i hiz
      have ea : (⟨b, off, none⟩ : Addr).add i = ⟨b, off + i, none⟩ := by unfold Addr.add; split <;> simp_all
      rw [ea] at hci
      rw [hci, ← hv]
      have hwf := wf_u8 (hw zs[i] (List.getElem_mem hiz))
      simp only [bs, List.map_map, List.getElem?_map, List.getElem?_take, hi, if_true, List.getElem?_eq_getElem hiz, Option.map_some, Function.comp, bv, List.getD_eq_getElem?_getD, Option.getD_some]
      have e := UInt8.toNat_ofNat_of_lt' (show zs[i].toNat < UInt8.size by simp only [UInt8.size]; omega)
      rw [e]
      congr 2; omega
/-- A row of bytes, as a cell of a row of rows has it. -/
theorem bytes_at {w : World} {a : Option Addr} {n c : Nat} {zs : List Int} (hnc : n ≤ c) (hz : zs.length = c) (hw : ∀ n ∈ zs, (Lit.int .u8 n).wf = true) (hn : a = none → c = 0)
    (hc : ∀ x, a = some x → ∀ i, i < c → w.cell? (x.add i) = some (.int .u8 (zs.getD i 0))) : ∃ l : List UInt8, l.length = n ∧ CellsAt w a (bs l) := by
  refine ⟨(zs.take n).map fun n => UInt8.ofNat n.toNat, by simp; omega, ?_⟩
  cases a with
  | none =>
    have := hn rfl
    obtain rfl : n = 0 := by omega
    exact .inl (by simp [bs])
  | some x =>
    by_cases h0 : n = 0
    · subst h0; exact .inl (by simp [bs])
    · have hx := hc x rfl 0 (by omega)
      obtain ⟨b, off, spot⟩ := x
      have hspot : spot = none := by simpa [Addr.add] using World.cell?_spot hx
      subst hspot
      refine .inr ⟨b, off, rfl, fun i v hv => ?_⟩
      have hi : i < n := by
        have := (List.getElem?_eq_some_iff.1 hv).1
        simp [bs] at this; omega
      have hiz : i < zs.length := by rw [hz]; omega
      have hci := hc _ rfl i (by omega)
      have ea : (⟨b, off, none⟩ : Addr).add i = ⟨b, off + i, none⟩ := by unfold Addr.add; split <;> simp_all
      rw [ea] at hci
      rw [hci, ← hv]
      have hwf := wf_u8 (hw zs[i] (List.getElem_mem hiz))
      simp only [bs, List.map_map, List.getElem?_map, List.getElem?_take, hi, if_true, List.getElem?_eq_getElem hiz, Option.map_some, Function.comp, bv, List.getD_eq_getElem?_getD, Option.getD_some]
      have e := UInt8.toNat_ofNat_of_lt' (show zs[i].toNat < UInt8.size by simp only [UInt8.size]; omega)
      rw [e]
      congr 2; omega
/-- A slice of slices of bytes. -/
def Deep (w : World) (a : Option Addr) (n : Nat) (vs : List Value) : Prop :=
  vs.length = n ∧ n ≤ 9223372036854775807 ∧ CellsAt w a vs ∧ ∀ (i : Nat) (v : Value), vs[i]? = some v → ∃ (b : Option Addr) (m c : Nat) (l : List UInt8), v = Value.slice b m c ∧ l.length = m ∧ m ≤ c ∧ c ≤ 9223372036854775807 ∧ CellsAt w b (bs l)
theorem deep_in {H : Type} {enc : TypeId × Value → H} {P : Program} {w : World} {t e q : TypeId} {fuel n cap : Nat} {a : Option Addr} {x : DataW H × List MemPlace} (ht : P.underlying t = some (.slice e)) (he : P.underlying e = some (.slice q)) (hq : P.underlying q = some (.int .u8))
    (ce : P.cellsOf e = 1) (cq : P.cellsOf q = 1) (h : DataW.trod enc P w 0 (fun _ => true) true fuel t [.slice a n cap] = some x) : ∃ vs, Deep w a n vs := by
  rcases Go.Deep.open_int_rows ht he hq ce cq h with ⟨hcs, _⟩ | ⟨b, l, c, A, L, C, Z, hcs, _, hl, hm, _, hx⟩
  · simp at hcs
    obtain ⟨rfl, rfl, rfl⟩ := hcs
    exact ⟨[], rfl, by omega, .nil _ _, fun i v hv => by simp at hv⟩
  · simp at hcs
    obtain ⟨rfl, rfl, rfl⟩ := hcs
    refine ⟨(List.range n).map fun r => .slice (A r) (L r) (C r), by simp, ?_, ?_, fun i v hv => ?_⟩
    · simp only [maxLen] at hm; omega
    · by_cases h0 : n = 0
      · subst h0; exact .inl rfl
      · have h1 := (hx 0 (by omega)).1
        obtain ⟨b, off, spot⟩ := b
        have hspot : spot = none := by simpa [Addr.add] using World.cell?_spot h1
        subst hspot
        refine .inr ⟨b, off, rfl, fun i v hv => ?_⟩
        have ea : (⟨b, off, none⟩ : Addr).add i = ⟨b, off + i, none⟩ := by unfold Addr.add; split <;> simp_all
        simp only [List.getElem?_map, Option.map_eq_some_iff] at hv
        obtain ⟨j, hj, rfl⟩ := hv
        have hjn := List.getElem?_eq_some_iff.1 hj
        simp at hjn
        obtain ⟨hlt, rfl⟩ := hjn
        have h2 := (hx i (by omega)).1
        rw [ea] at h2
        exact h2
    · simp only [List.getElem?_map, Option.map_eq_some_iff] at hv
      obtain ⟨j, hj, rfl⟩ := hv
      have hjn := List.getElem?_eq_some_iff.1 hj
      simp at hjn
      obtain ⟨hlt, rfl⟩ := hjn
      obtain ⟨_, h2, h3, h4, h5, h6, h7⟩ := hx i (by omega)
      obtain ⟨l, hl1, hl2⟩ := bytes_at h2 h4 h5 h6 (fun a' ha c hc => (h7 a' ha).2 c hc)
      exact ⟨A i, L i, C i, l, rfl, hl1, h2, by simpa [maxLen] using h3, hl2⟩
end Go.Proofs.Ytmmpngigaodcgaa
