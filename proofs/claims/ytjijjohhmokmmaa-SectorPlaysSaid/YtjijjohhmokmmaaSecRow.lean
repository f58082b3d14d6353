/- What the rows of chapter 32 know of their arguments. -/
import Derived.Test.YtjijjohhmokmmaaStp
import Derived.Test.YtjijjohhmokmmaaTrn
import Derived.Test.YtjijjohhmokmmaaRow
import Derived.OpenShut
import Derived.ProofKit
import Derived.Deep.Slices
namespace Go.Proofs.Ytjijjohhmokmmaa
set_option linter.unusedVariables false
set_option linter.unusedSimpArgs false
open Go Go.RowKit Go.ChangeShapes Go.WideShapes Go.ChangeAt
set_option maxRecDepth 100000
theorem cU8 : Try.prog.cellsOf 5 = 1 := by kernel_rfl
theorem cInt : Try.prog.cellsOf 3 = 1 := by kernel_rfl
theorem cStep : Try.prog.cellsOf 63 = 4 := by kernel_rfl
theorem cTurn : Try.prog.cellsOf 48 = 4 := by kernel_rfl
instance : Inhabited Step := ⟨⟨0, 0, none, 0, 0, [], none, 0, 0, []⟩⟩
instance : Inhabited Turn := ⟨⟨0, 0, 0, 0⟩⟩
section
variable {H : Type} {enc : TypeId × Value → H} {W : World} {base : Nat} {held : Bool}
theorem slice_in {α : Type} [Inhabited α] {G : α → Prop} {f : α → List Value} {k : Nat} {t e : TypeId} {v : Value} {x : DataW H × List MemPlace} {fuel : Nat} (ht : Try.prog.underlying t = some (.slice e)) (hce : Try.prog.cellsOf e = k) (hk : 0 < k) (hfl : ∀ y, G y → (f y).length = k)
    (hel : ∀ n cs y, DataW.trod enc Try.prog W base (fun _ => true) held n e cs = some y → ∃ a, G a ∧ cs = f a) (h : DataW.trod enc Try.prog W base (fun _ => true) held fuel t [v] = some x) :
    ∃ (a : Option Addr) (n cap : Nat) (l : List α), v = .slice a n cap ∧ l.length = n ∧ n ≤ cap ∧ cap ≤ 9223372036854775807 ∧ (∀ y ∈ l, G y) ∧ CellsAt W a (l.flatMap f) := by
  rcases Go.Deep.open_slice ht h with ⟨hcs, _⟩ | ⟨a, len, cap, m, n, D, Pl, hcs, hb, hl, hm, hmm, _, hx⟩
  · obtain rfl : v = .slice none 0 0 := by injection hcs
    exact ⟨none, 0, 0, [], rfl, rfl, Nat.le_refl _, by decide, fun y hy => (by cases hy), .nil _ _⟩
  · obtain rfl : v = .slice (some a) len cap := by injection hcs
    have hlm : len ≤ m := by rw [hmm]; split <;> omega
    obtain ⟨g, hg⟩ := Go.Deep.choose_lt (p := fun i y => G y ∧ W.cells? base (a.add (i * k)) k = some (f y)) (n := len) (fun i hi => by
      obtain ⟨cs', h1, h2⟩ := hx i (by omega)
      obtain ⟨y, hy, rfl⟩ := hel _ _ _ h2
      rw [hce] at h1
      exact ⟨y, hy, h1⟩)
    have hG : ∀ y ∈ (List.range len).map g, G y := fun y hy => by
      obtain ⟨i, hi, rfl⟩ := List.mem_map.1 hy; exact (hg i (List.mem_range.1 hi)).1
    refine ⟨some a, len, cap, (List.range len).map g, rfl, by simp, hl, by simpa [maxLen] using hm, hG, ?_⟩
    by_cases h0 : len = 0
    · subst h0; exact .nil _ _
    · obtain ⟨b, off, spot⟩ := a
      have hcell : ∀ i r, i < len → r < k → W.cell? ((⟨b, off, spot⟩ : Addr).add (i * k + r)) = (f (g i))[r]? := fun i r hi hr => by
        have := (World.cells?_some (hg i hi).2).2.2 r hr
        rwa [Go.Deep.add_add] at this
      have hspot : spot = none := by
        have h1 := hcell 0 0 (by omega) hk
        obtain ⟨v0, hv0⟩ : ∃ v, (f (g 0))[0]? = some v := ⟨_, List.getElem?_eq_getElem (by rw [hfl _ (hg 0 (by omega)).1]; exact hk)⟩
        rw [hv0] at h1
        simpa [Addr.add] using World.cell?_spot h1
      subst hspot
      refine .inr ⟨b, off, rfl, fun i v hv => ?_⟩
      have hlen : (((List.range len).map g).flatMap f).length = len * k := by rw [flat_len (k := k) (fun y hy => hfl y (hG y hy))]; simp
      have hi : i < len * k := by have := (List.getElem?_eq_some_iff.1 hv).1; omega
      have hq : i / k < len := Nat.div_lt_of_lt_mul (by rw [Nat.mul_comm]; exact hi)
      have hr : i % k < k := Nat.mod_lt _ hk
      have e : i / k * k + i % k = i := by rw [Nat.mul_comm]; exact Nat.div_add_mod i k
      have h1 := hcell (i / k) (i % k) hq hr
      rw [e] at h1
      have ea : (⟨b, off, none⟩ : Addr).add i = ⟨b, off + i, none⟩ := by unfold Addr.add; split <;> simp_all
      rw [ea] at h1
      rw [h1, ← hv]
      have hch := chunk (f := f) (k := k) (l := (List.range len).map g) (i := i / k) (x := g (i / k)) (fun y hy => hfl y (hG y hy)) (by simp [hq])
      rw [← hch, List.getElem?_take, if_pos hr, List.getElem?_drop, e]
theorem int_el {n : Nat} {cs : List Value} {y : DataW H × List MemPlace} (h : DataW.trod enc Try.prog W base (fun _ => true) held n 3 cs = some y) : ∃ c : Int, True ∧ cs = [.int .i64 c] := by
  obtain ⟨z, e0, _, w0⟩ := DataW.trod_int Try.underlying3 h
  exact ⟨z, trivial, e0⟩
theorem u8_el {n : Nat} {cs : List Value} {y : DataW H × List MemPlace} (h : DataW.trod enc Try.prog W base (fun _ => true) held n 5 cs = some y) : ∃ c : UInt8, True ∧ cs = [bv c] := by
  obtain ⟨z, e0, _, w0⟩ := DataW.trod_int Try.underlying5 h
  obtain ⟨c, rfl⟩ := wf_byte w0
  exact ⟨c, trivial, e0⟩
theorem step_el {n : Nat} {cs : List Value} {y : DataW H × List MemPlace} (h : DataW.trod enc Try.prog W base (fun _ => true) held n 63 cs = some y) : ∃ s : Step, s.Ok W ∧ cs = s.cs := by
  obtain ⟨xs, k, _, _, hsz, hxs, hf⟩ := DataW.trod_struct Try.underlying63 h
  have hl4 : cs.length = 4 := by rw [hsz]; kernel_rfl
  match cs, hl4, xs, hxs, hf with
  | [v0, v1, v2, v3], _, [x0, x1, x2, x3], _, hf =>
    have f0 := hf 0 _ rfl
    have f1 := hf 1 _ rfl
    have f2 := hf 2 _ rfl
    have f3 := hf 3 _ rfl
    obtain ⟨z0, _, e0⟩ := int_el (show DataW.trod enc Try.prog W base _ held k 3 [v0] = some x0 from f0)
    obtain rfl : v0 = .int .i64 z0 := by injection e0
    obtain ⟨z1, _, e1⟩ := int_el (show DataW.trod enc Try.prog W base _ held k 3 [v1] = some x1 from f1)
    obtain rfl : v1 = .int .i64 z1 := by injection e1
    obtain ⟨a, n, c, l, rfl, k1, k2, k3, k4, k5⟩ := slice_in (G := fun _ : UInt8 => True) (f := fun c : UInt8 => [bv c]) Try.underlying22 cU8 (by decide) (fun y hy => rfl) (fun n cs y => u8_el) (show DataW.trod enc Try.prog W base _ held k 22 [v2] = some x2 from f2)
    obtain ⟨a2, n2, c2, K, rfl, m1, m2, m3, m4, m5⟩ := slice_in (G := fun _ : Int => True) (f := fun c : Int => [Value.int .i64 c]) Try.underlying41 cInt (by decide) (fun y hy => rfl) (fun n cs y => int_el) (show DataW.trod enc Try.prog W base _ held k 41 [v3] = some x3 from f3)
    simp only [← List.map_eq_flatMap] at k5 m5
    exact ⟨⟨z0, z1, a, n, c, l, a2, n2, c2, K⟩, ⟨k1, k2, k3, k5, m1, m2, m3, m5⟩, rfl⟩
theorem turn_el {n : Nat} {cs : List Value} {y : DataW H × List MemPlace} (h : DataW.trod enc Try.prog W base (fun _ => true) held n 48 cs = some y) : ∃ s : Turn, True ∧ cs = s.cs := by
  obtain ⟨xs, k, _, _, hsz, hxs, hf⟩ := DataW.trod_struct Try.underlying48 h
  have hl4 : cs.length = 4 := by rw [hsz]; kernel_rfl
  match cs, hl4, xs, hxs, hf with
  | [v0, v1, v2, v3], _, [x0, x1, x2, x3], _, hf =>
    have f0 := hf 0 _ rfl
    have f1 := hf 1 _ rfl
    have f2 := hf 2 _ rfl
    have f3 := hf 3 _ rfl
    obtain ⟨z0, _, e0⟩ := u8_el (show DataW.trod enc Try.prog W base _ held k 5 [v0] = some x0 from f0)
    obtain ⟨z1, _, e1⟩ := u8_el (show DataW.trod enc Try.prog W base _ held k 5 [v1] = some x1 from f1)
    obtain ⟨z2, _, e2⟩ := u8_el (show DataW.trod enc Try.prog W base _ held k 5 [v2] = some x2 from f2)
    obtain ⟨z3, _, e3⟩ := u8_el (show DataW.trod enc Try.prog W base _ held k 5 [v3] = some x3 from f3)
    obtain rfl : v0 = bv z0 := by injection e0
    obtain rfl : v1 = bv z1 := by injection e1
    obtain rfl : v2 = bv z2 := by injection e2
    obtain rfl : v3 = bv z3 := by injection e3
    exact ⟨⟨z0, z1, z2, z3⟩, trivial, rfl⟩
theorem step_in {x : DataW H × List MemPlace} {cs : Array Value} (h : ∃ m, DataW.trod enc Try.prog W base (fun _ => true) held m 63 (Value.agg cs).cells.toList = some x) : ∃ s : Step, cs = s.cs.toArray ∧ s.Ok W := by
  obtain ⟨m, h⟩ := h
  obtain ⟨s, hs, e⟩ := step_el (show DataW.trod enc Try.prog W base (fun _ => true) held m 63 cs.toList = some x from h)
  exact ⟨s, by rw [← e], hs⟩
theorem turn_in {x : DataW H × List MemPlace} {cs : Array Value} (h : ∃ m, DataW.trod enc Try.prog W base (fun _ => true) held m 48 (Value.agg cs).cells.toList = some x) : ∃ s : Turn, cs = s.cs.toArray := by
  obtain ⟨m, h⟩ := h
  obtain ⟨s, hs, e⟩ := turn_el (show DataW.trod enc Try.prog W base (fun _ => true) held m 48 cs.toList = some x from h)
  exact ⟨s, by rw [← e]⟩
theorem steps_in {x : DataW H × List MemPlace} {a : Option Addr} {n cap : Nat} (h : ∃ m, DataW.trod enc Try.prog W base (fun _ => true) held m 57 [.slice a n cap] = some x) :
    ∃ S : List Step, S.length = n ∧ n ≤ cap ∧ cap ≤ 9223372036854775807 ∧ (∀ s ∈ S, s.Ok W) ∧ CellsAt W a (S.flatMap Step.cs) := by
  obtain ⟨m, h⟩ := h
  obtain ⟨a', n', c', l, e, h⟩ := slice_in (G := fun s : Step => s.Ok W) (f := Step.cs) Try.underlying57 cStep (by decide) (fun y hy => rfl) (fun n cs y => step_el) h
  cases e
  exact ⟨l, h⟩
theorem turns_in {x : DataW H × List MemPlace} {a : Option Addr} {n cap : Nat} (h : ∃ m, DataW.trod enc Try.prog W base (fun _ => true) held m 43 [.slice a n cap] = some x) :
    ∃ S : List Turn, S.length = n ∧ n ≤ cap ∧ cap ≤ 9223372036854775807 ∧ (∀ s ∈ S, True) ∧ CellsAt W a (S.flatMap Turn.cs) := by
  obtain ⟨m, h⟩ := h
  obtain ⟨a', n', c', l, e, h⟩ := slice_in (G := fun _ : Turn => True) (f := Turn.cs) Try.underlying43 cTurn (by decide) (fun y hy => rfl) (fun n cs y => turn_el) h
  cases e
  exact ⟨l, h⟩
end
end Go.Proofs.Ytjijjohhmokmmaa
