/- What the rows of chapter 33 know of their arguments. -/
import Derived.Test.YtmmpngigaodcgaaStp
import Derived.Test.YtmmpngigaodcgaaRow
import Derived.OpenShut
import Derived.ProofKit
import Derived.Deep.Slices
namespace Go.Proofs.Ytmmpngigaodcgaa
set_option linter.unusedVariables false
set_option linter.unusedSimpArgs false
open Go Go.RowKit Go.ChangeShapes Go.WideShapes Go.ChangeAt
set_option maxRecDepth 100000
theorem cU8 : Try.prog.cellsOf 5 = 1 := by kernel_rfl
theorem cInt : Try.prog.cellsOf 3 = 1 := by kernel_rfl
theorem cMove : Try.prog.cellsOf 32 = 3 := by kernel_rfl
/-- A step by numbers. -/
structure Mv where
  k : UInt8
  s : UInt8
  f : UInt8
def Mv.cs (m : Mv) : List Value := [bv m.k, bv m.s, bv m.f]
theorem Mv.len (m : Mv) : m.cs.length = 3 := rfl
instance : Inhabited Mv := ⟨⟨0, 0, 0⟩⟩
section
variable {H : Type} {enc : TypeId × Value → H} {W : World} {base : Nat} {held : Bool}
theorem slice_in {α : Type} [Inhabited α] {G : α → Prop} {f : α → List Value} {k : Nat} {t e : TypeId} {v : Value} {x : DataW H × List MemPlace} {fuel : Nat} (ht : Try.prog.underlying t = some (.slice e)) (hce : Try.prog.cellsOf e = k) (hk : 0 < k) (hfl : ∀ y, G y → (f y).length = k)
    (hel : ∀ n cs y, DataW.trod enc Try.prog W base (fun _ => true) held n e cs = some y → ∃ a, G a ∧ cs = f a) (h : DataW.trod enc Try.prog W base (fun _ => true) held fuel t [v] = some x) :
    ∃ (a : Option Addr) (n cap : Nat) (l : List α), v = .slice a n cap ∧ l.length = n ∧ n ≤ cap ∧ cap ≤ 9223372036854775807 ∧ (∀ y ∈ l, G y) ∧ CellsAt W a (l.flatMap f) := by
  rcases Go.Deep.open_slice ht h with ⟨hcs, _⟩ | ⟨a, len, cap, m, n, D, Pl, hcs, hb, hl, hm, hmm, _, hx⟩
  · obtain rfl : v = .slice none 0 0 := by injection hcs
    exact ⟨none, 0, 0, [], rfl, rfl, Nat.le_refl _, by decide, fun y hy => (by cases hy), .nil _ _⟩
  · obtain rfl : v = .slice (some a) len cap := by injection hcs
    have hlm : len ≤ m := by rw [hmm]; split <;> omega
    obtain ⟨g, hg⟩ := Go.Deep.choose_lt (p := fun i y => G y ∧ W.cells? base (a.add (i * k)) k = some (f y)) (n := len) (fun i hi => by
      obtain ⟨cs', h1, h2⟩ := hx i (by omega)
      obtain ⟨y, hy, rfl⟩ := hel _ _ _ h2
      rw [hce] at h1
      exact ⟨y, hy, h1⟩)
    have hG : ∀ y ∈ (List.range len).map g, G y := fun y hy => by
      obtain ⟨i, hi, rfl⟩ := List.mem_map.1 hy; exact (hg i (List.mem_range.1 hi)).1
    refine ⟨some a, len, cap, (List.range len).map g, rfl, by simp, hl, by simpa [maxLen] using hm, hG, ?_⟩
    by_cases h0 : len = 0
    · subst h0; exact .nil _ _
    · obtain ⟨b, off, spot⟩ := a
      have hcell : ∀ i r, i < len → r < k → W.cell? ((⟨b, off, spot⟩ : Addr).add (i * k + r)) = (f (g i))[r]? := fun i r hi hr => by
        have := (World.cells?_some (hg i hi).2).2.2 r hr
        rwa [Go.Deep.add_add] at this
      have hspot : spot = none := by
        have h1 := hcell 0 0 (by omega) hk
        obtain ⟨v0, hv0⟩ : ∃ v, (f (g 0))[0]? = some v := ⟨_, List.getElem?_eq_getElem (by rw [hfl _ (hg 0 (by omega)).1]; exact hk)⟩
        rw [hv0] at h1
        simpa [Addr.add] using World.cell?_spot h1
      subst hspot
      refine .inr ⟨b, off, rfl, fun i v hv => ?_⟩
      have hlen : (((List.range len).map g).flatMap f).length = len * k := by rw [flat_len (k := k) (fun y hy => hfl y (hG y hy))]; simp
      have hi : i < len * k := by have := (List.getElem?_eq_some_iff.1 hv).1; omega
      have hq : i / k < len := Nat.div_lt_of_lt_mul (by rw [Nat.mul_comm]; exact hi)
      have hr : i % k < k := Nat.mod_lt _ hk
      have e : i / k * k + i % k = i := by rw [Nat.mul_comm]; exact Nat.div_add_mod i k
      have h1 := hcell (i / k) (i % k) hq hr
      rw [e] at h1
      have ea : (⟨b, off, none⟩ : Addr).add i = ⟨b, off + i, none⟩ := by unfold Addr.add; split <;> simp_all
      rw [ea] at h1
      rw [h1, ← hv]
      have hch := chunk (f := f) (k := k) (l := (List.range len).map g) (i := i / k) (x := g (i / k)) (fun y hy => hfl y (hG y hy)) (by simp [hq])
      rw [← hch, List.getElem?_take, if_pos hr, List.getElem?_drop, e]
theorem int_el {n : Nat} {cs : List Value} {y : DataW H × List MemPlace} (h : DataW.trod enc Try.prog W base (fun _ => true) held n 3 cs = some y) : ∃ c : Int, True ∧ cs = [.int .i64 c] := by
  obtain ⟨z, e0, _, w0⟩ := DataW.trod_int Try.underlying3 h
  exact ⟨z, trivial, e0⟩
theorem u8_el {n : Nat} {cs : List Value} {y : DataW H × List MemPlace} (h : DataW.trod enc Try.prog W base (fun _ => true) held n 5 cs = some y) : ∃ c : UInt8, True ∧ cs = [bv c] := by
  obtain ⟨z, e0, _, w0⟩ := DataW.trod_int Try.underlying5 h
  obtain ⟨c, rfl⟩ := wf_byte w0
  exact ⟨c, trivial, e0⟩
theorem move_el {n : Nat} {cs : List Value} {y : DataW H × List MemPlace} (h : DataW.trod enc Try.prog W base (fun _ => true) held n 32 cs = some y) : ∃ s : Mv, True ∧ cs = s.cs := by
  obtain ⟨xs, k, _, _, hsz, hxs, hf⟩ := DataW.trod_struct Try.underlying32 h
  have hl4 : cs.length = 3 := by rw [hsz]; kernel_rfl
  match cs, hl4, xs, hxs, hf with
  | [v0, v1, v2], _, [x0, x1, x2], _, hf =>
    have f0 := hf 0 _ rfl
    have f1 := hf 1 _ rfl
    have f2 := hf 2 _ rfl
    obtain ⟨z0, _, e0⟩ := u8_el (show DataW.trod enc Try.prog W base _ held k 5 [v0] = some x0 from f0)
    obtain ⟨z1, _, e1⟩ := u8_el (show DataW.trod enc Try.prog W base _ held k 5 [v1] = some x1 from f1)
    obtain ⟨z2, _, e2⟩ := u8_el (show DataW.trod enc Try.prog W base _ held k 5 [v2] = some x2 from f2)
    obtain rfl : v0 = bv z0 := by injection e0
    obtain rfl : v1 = bv z1 := by injection e1
    obtain rfl : v2 = bv z2 := by injection e2
    exact ⟨⟨z0, z1, z2⟩, trivial, rfl⟩
theorem move_in {x : DataW H × List MemPlace} {cs : Array Value} (h : ∃ m, DataW.trod enc Try.prog W base (fun _ => true) held m 32 (Value.agg cs).cells.toList = some x) : ∃ s : Mv, cs = s.cs.toArray := by
  obtain ⟨m, h⟩ := h
  obtain ⟨s, hs, e⟩ := move_el (show DataW.trod enc Try.prog W base (fun _ => true) held m 32 cs.toList = some x from h)
  exact ⟨s, by rw [← e]⟩
theorem moves_in {x : DataW H × List MemPlace} {a : Option Addr} {n cap : Nat} (h : ∃ m, DataW.trod enc Try.prog W base (fun _ => true) held m 29 [.slice a n cap] = some x) :
    ∃ S : List Mv, S.length = n ∧ n ≤ cap ∧ cap ≤ 9223372036854775807 ∧ (∀ s ∈ S, True) ∧ CellsAt W a (S.flatMap Mv.cs) := by
  obtain ⟨m, h⟩ := h
  obtain ⟨a', n', c', l, e, h⟩ := slice_in (G := fun _ : Mv => True) (f := Mv.cs) Try.underlying29 cMove (by decide) (fun y hy => rfl) (fun n cs y => move_el) h
  cases e
  exact ⟨l, h⟩
theorem plan_el {n : Nat} {cs : List Value} {y : DataW H × List MemPlace} (h : DataW.trod enc Try.prog W base (fun _ => true) held n 24 cs = some y) :
    ∃ (z : Int) (a : Option Addr) (m c : Nat) (K : List Int), cs = [.int .i64 z, .slice a m c] ∧ K.length = m ∧ m ≤ c ∧ c ≤ 9223372036854775807 ∧ CellsAt W a (K.map fun k => Value.int .i64 k) := by
  obtain ⟨xs, k, _, _, hsz, hxs, hf⟩ := DataW.trod_struct Try.underlying24 h
  have hl4 : cs.length = 2 := by rw [hsz]; kernel_rfl
  match cs, hl4, xs, hxs, hf with
  | [v0, v1], _, [x0, x1], _, hf =>
    have f0 := hf 0 _ rfl
    have f1 := hf 1 _ rfl
    obtain ⟨z0, _, e0⟩ := int_el (show DataW.trod enc Try.prog W base _ held k 3 [v0] = some x0 from f0)
    obtain rfl : v0 = .int .i64 z0 := by injection e0
    obtain ⟨a2, n2, c2, K, rfl, m1, m2, m3, m4, m5⟩ := slice_in (G := fun _ : Int => True) (f := fun c : Int => [Value.int .i64 c]) Try.underlying22 cInt (by decide) (fun y hy => rfl) (fun n cs y => int_el) (show DataW.trod enc Try.prog W base _ held k 22 [v1] = some x1 from f1)
    simp only [← List.map_eq_flatMap] at m5
    exact ⟨z0, a2, n2, c2, K, rfl, m1, m2, m3, m5⟩
theorem plan_in {x : DataW H × List MemPlace} {cs : Array Value} (h : ∃ m, DataW.trod enc Try.prog W base (fun _ => true) held m 24 (Value.agg cs).cells.toList = some x) :
    ∃ (z : Int) (a : Option Addr) (m c : Nat) (K : List Int), cs = #[.int .i64 z, .slice a m c] ∧ K.length = m ∧ m ≤ c ∧ c ≤ 9223372036854775807 ∧ CellsAt W a (K.map fun k => Value.int .i64 k) := by
  obtain ⟨m, h⟩ := h
  obtain ⟨z, a, m2, c, K, e, h2⟩ := plan_el (show DataW.trod enc Try.prog W base (fun _ => true) held m 24 cs.toList = some x from h)
  exact ⟨z, a, m2, c, K, by rw [← Array.toArray_toList (xs := cs), e], h2⟩
end
end Go.Proofs.Ytmmpngigaodcgaa
