/- What the rows of chapter 38 know of their arguments. -/
import Derived.Test.YtbfhdggfdhlkfaaNod20
import Derived.Test.YtbfhdggfdhlkfaaRow
import Derived.OpenShut
import Derived.ProofKit
import Derived.Deep.Slices
namespace Go.Proofs.Ytbfhdggfdhlkfaa
set_option linter.unusedVariables false
set_option linter.unusedSimpArgs false
open Go Go.RowKit Go.ChangeShapes Go.WideShapes Go.ChangeAt
set_option maxRecDepth 100000
theorem cU8 : Try.prog.cellsOf 5 = 1 := by kernel_rfl
theorem cU64 : Try.prog.cellsOf 39 = 1 := by kernel_rfl
theorem cA32 : Try.prog.cellsOf 40 = 32 := by kernel_rfl
theorem cKey : Try.prog.cellsOf 42 = 33 := by kernel_rfl
theorem cVal : Try.prog.cellsOf 73 = 20 := by kernel_rfl
theorem cInt : Try.prog.cellsOf 3 = 1 := by kernel_rfl
theorem cU16 : Try.prog.cellsOf 66 = 1 := by kernel_rfl
section
variable {H : Type} {enc : TypeId × Value → H} {W : World} {base : Nat} {held : Bool}
theorem arr_bytes {fuel : Nat} {t : TypeId} {n : Nat} {cs : List Value} {x : DataW H × List MemPlace} (ht : Try.prog.underlying t = some (.array n 5)) (hc : Try.prog.cellsOf t = n) (h : DataW.trod enc Try.prog W base (fun _ => true) held fuel t cs = some x) :
    ∃ l : List UInt8, l.length = n ∧ cs = bs l := by
  obtain ⟨xs, m, _, _, hl, hn, hf⟩ := DataW.trod_array ht h
  rw [hc] at hl
  have each : ∀ i, i < n → ∃ c : UInt8, cs[i]? = some (bv c) := fun i hi => by
    have h1 := hf i hi
    rw [List.getElem?_eq_getElem (show i < xs.length by omega), cU8] at h1
    obtain ⟨z, e, _, hw⟩ := DataW.trod_int Try.underlying5 h1
    obtain ⟨c, rfl⟩ := wf_byte hw
    refine ⟨c, ?_⟩
    have h5 := congrArg (fun l : List Value => l[0]?) e
    simp only [List.getElem?_cons_zero, List.getElem?_take, List.getElem?_drop, Nat.add_zero, Nat.mul_one] at h5
    rwa [if_pos (by decide)] at h5
  obtain ⟨f, hf2⟩ := Go.Deep.choose_lt each
  refine ⟨(List.range n).map f, by simp, List.ext_getElem? fun i => ?_⟩
  by_cases hi : i < n
  · rw [hf2 i hi]; simp [bs, hi]
  · rw [List.getElem?_eq_none (by omega), List.getElem?_eq_none (by simp [bs]; omega)]
theorem slice_in {α : Type} [Inhabited α] {G : α → Prop} {f : α → List Value} {k : Nat} {t e : TypeId} {v : Value} {x : DataW H × List MemPlace} {fuel : Nat} (ht : Try.prog.underlying t = some (.slice e)) (hce : Try.prog.cellsOf e = k) (hk : 0 < k) (hfl : ∀ y, G y → (f y).length = k)
    (hel : ∀ n cs y, DataW.trod enc Try.prog W base (fun _ => true) held n e cs = some y → ∃ a, G a ∧ cs = f a) (h : DataW.trod enc Try.prog W base (fun _ => true) held fuel t [v] = some x) :
    ∃ (a : Option Addr) (n cap : Nat) (l : List α), v = .slice a n cap ∧ l.length = n ∧ n ≤ cap ∧ cap ≤ 9223372036854775807 ∧ (∀ y ∈ l, G y) ∧ CellsAt W a (l.flatMap f) := by
  rcases Go.Deep.open_slice ht h with ⟨hcs, _⟩ | ⟨a, len, cap, m, n, D, Pl, hcs, hb, hl, hm, hmm, _, hx⟩
  · obtain rfl : v = .slice none 0 0 := by injection hcs
    exact ⟨none, 0, 0, [], rfl, rfl, Nat.le_refl _, by decide, fun y hy => (by cases hy), .nil _ _⟩
  · obtain rfl : v = .slice (some a) len cap := by injection hcs
    have hlm : len ≤ m := by rw [hmm]; split <;> omega
    obtain ⟨g, hg⟩ := Go.Deep.choose_lt (p := fun i y => G y ∧ W.cells? base (a.add (i * k)) k = some (f y)) (n := len) (fun i hi => by
      obtain ⟨cs', h1, h2⟩ := hx i (by omega)
      obtain ⟨y, hy, rfl⟩ := hel _ _ _ h2
      rw [hce] at h1
      exact ⟨y, hy, h1⟩)
    have hG : ∀ y ∈ (List.range len).map g, G y := fun y hy => by
      obtain ⟨i, hi, rfl⟩ := List.mem_map.1 hy; exact (hg i (List.mem_range.1 hi)).1
    refine ⟨some a, len, cap, (List.range len).map g, rfl, by simp, hl, by simpa [maxLen] using hm, hG, ?_⟩
    by_cases h0 : len = 0
    · subst h0; exact .nil _ _
    · obtain ⟨b, off, spot⟩ := a
      have hcell : ∀ i r, i < len → r < k → W.cell? ((⟨b, off, spot⟩ : Addr).add (i * k + r)) = (f (g i))[r]? := fun i r hi hr => by
        have := (World.cells?_some (hg i hi).2).2.2 r hr
        rwa [Go.Deep.add_add] at this
      have hspot : spot = none := by
        have h1 := hcell 0 0 (by omega) hk
        obtain ⟨v0, hv0⟩ : ∃ v, (f (g 0))[0]? = some v := ⟨_, List.getElem?_eq_getElem (by rw [hfl _ (hg 0 (by omega)).1]; exact hk)⟩
        rw [hv0] at h1
        simpa [Addr.add] using World.cell?_spot h1
      subst hspot
      refine .inr ⟨b, off, rfl, fun i v hv => ?_⟩
      have hlen : (((List.range len).map g).flatMap f).length = len * k := by rw [flat_len (k := k) (fun y hy => hfl y (hG y hy))]; simp
      have hi : i < len * k := by have := (List.getElem?_eq_some_iff.1 hv).1; omega
      have hq : i / k < len := Nat.div_lt_of_lt_mul (by rw [Nat.mul_comm]; exact hi)
      have hr : i % k < k := Nat.mod_lt _ hk
      have e : i / k * k + i % k = i := by rw [Nat.mul_comm]; exact Nat.div_add_mod i k
      have h1 := hcell (i / k) (i % k) hq hr
      rw [e] at h1
      have ea : (⟨b, off, none⟩ : Addr).add i = ⟨b, off + i, none⟩ := by unfold Addr.add; split <;> simp_all
      rw [ea] at h1
      rw [h1, ← hv]
      have hch := chunk (f := f) (k := k) (l := (List.range len).map g) (i := i / k) (x := g (i / k)) (fun y hy => hfl y (hG y hy)) (by simp [hq])
      rw [← hch, List.getElem?_take, if_pos hr, List.getElem?_drop, e]
theorem key_el {n : Nat} {cs : List Value} {y : DataW H × List MemPlace} (h : DataW.trod enc Try.prog W base (fun _ => true) held n 42 cs = some y) : ∃ k : Nod.K, k.Wf ∧ cs = kv k := by
  obtain ⟨xs, m, _, _, hsz, hxs, hf⟩ := DataW.trod_struct Try.underlying42 h
  rw [cKey] at hsz
  replace hxs : xs.length = 2 := hxs
  match xs, hxs, hf with
  | [x0, x1], _, hf =>
    have f0 := hf 0 _ rfl
    have f1 := hf 1 _ rfl
    obtain ⟨z, e0, _, w0⟩ := DataW.trod_int Try.underlying39 (show DataW.trod enc Try.prog W base _ held m 39 ((cs.drop 0).take (Try.prog.cellsOf 39)) = some x0 from f0)
    obtain ⟨l, hl, e1⟩ := arr_bytes Try.underlying40 cA32 (show DataW.trod enc Try.prog W base _ held m 40 ((cs.drop 1).take (Try.prog.cellsOf 40)) = some x1 from f1)
    rw [cU64, List.drop_zero] at e0
    rw [cA32, List.take_of_length_le (by rw [List.length_drop]; omega)] at e1
    obtain ⟨z', rfl, hz⟩ := wf_u64 w0
    refine ⟨⟨z', l⟩, ⟨hz, hl⟩, ?_⟩
    show cs = [.int .u64 (z' : Int)] ++ bs l
    rw [← e1, ← e0, List.take_append_drop]
theorem val_el {n : Nat} {cs : List Value} {y : DataW H × List MemPlace} (h : DataW.trod enc Try.prog W base (fun _ => true) held n 73 cs = some y) : ∃ l : List UInt8, l.length = 20 ∧ cs = bs l := arr_bytes Try.underlying73 cVal h
theorem int_el {n : Nat} {cs : List Value} {y : DataW H × List MemPlace} (h : DataW.trod enc Try.prog W base (fun _ => true) held n 3 cs = some y) : ∃ c : Int, (-9223372036854775808 ≤ c ∧ c ≤ 9223372036854775807) ∧ cs = [.int .i64 c] := by
  obtain ⟨z, e0, _, w0⟩ := DataW.trod_int Try.underlying3 h
  exact ⟨z, wf_i64 w0, e0⟩
theorem u16_el {n : Nat} {cs : List Value} {y : DataW H × List MemPlace} (h : DataW.trod enc Try.prog W base (fun _ => true) held n 66 cs = some y) : ∃ c : Nat, c < 65536 ∧ cs = [.int .u16 (c : Int)] := by
  obtain ⟨z, e0, _, w0⟩ := DataW.trod_int Try.underlying66 h
  obtain ⟨m, rfl, hm⟩ := wf_u16 w0
  exact ⟨m, hm, e0⟩
theorem u8_el {n : Nat} {cs : List Value} {y : DataW H × List MemPlace} (h : DataW.trod enc Try.prog W base (fun _ => true) held n 5 cs = some y) : ∃ c : UInt8, True ∧ cs = [bv c] := by
  obtain ⟨z, e0, _, w0⟩ := DataW.trod_int Try.underlying5 h
  obtain ⟨c, rfl⟩ := wf_byte w0
  exact ⟨c, trivial, e0⟩
theorem key_in {x : DataW H × List MemPlace} {cs : Array Value} (h : ∃ m, DataW.trod enc Try.prog W base (fun _ => true) held m 42 (Value.agg cs).cells.toList = some x) : ∃ k : Nod.K, cs = (kv k).toArray ∧ k.Wf := by
  obtain ⟨m, h⟩ := h
  obtain ⟨k, hk, e⟩ := key_el (show DataW.trod enc Try.prog W base (fun _ => true) held m 42 cs.toList = some x from h)
  exact ⟨k, by rw [← e], hk⟩
theorem node_in {x : DataW H × List MemPlace} {cs : Array Value} (h : ∃ m, DataW.trod enc Try.prog W base (fun _ => true) held m 26 (Value.agg cs).cells.toList = some x) :
    ∃ (n : Nod.N) (p : Pl), cs = (ndl n p).toArray ∧ n.Wf0 ∧ NdAt W n p := by
  obtain ⟨m, h⟩ := h
  have h' : DataW.trod enc Try.prog W base (fun _ => true) held m 26 cs.toList = some x := h
  obtain ⟨xs, k, _, _, hsz, hxs, hf⟩ := DataW.trod_struct Try.underlying26 h'
  have hl4 : cs.toList.length = 4 := by rw [hsz]; kernel_rfl
  obtain ⟨L⟩ := cs
  replace hl4 : L.length = 4 := hl4
  match L, hl4, xs, hxs, hf with
  | [v0, v1, v2, v3], _, [x0, x1, x2, x3], _, hf =>
    have f0 := hf 0 _ rfl
    have f1 := hf 1 _ rfl
    have f2 := hf 2 _ rfl
    have f3 := hf 3 _ rfl
    simp only at f0 f1 f2 f3
    obtain ⟨b, e0, _⟩ := DataW.trod_bool Try.underlying4 (show DataW.trod enc Try.prog W base _ held k 4 [v0] = some x0 from f0)
    obtain rfl : v0 = .bool b := by injection e0
    obtain ⟨ka, kn, kc, ks, rfl, k1, k2, k3, k4, k5⟩ := slice_in Try.underlying22 cKey (by decide) (fun y hy => kv_len hy) (fun n cs y => key_el) (show DataW.trod enc Try.prog W base _ held k 22 [v1] = some x1 from f1)
    obtain ⟨va, vn, vc, vs, rfl, w1', w2', w3', w4', w5'⟩ := slice_in (G := fun l : List UInt8 => l.length = 20) Try.underlying23 cVal (by decide) (fun y hy => by rw [bs_length, hy]) (fun n cs y => val_el) (show DataW.trod enc Try.prog W base _ held k 23 [v2] = some x2 from f2)
    obtain ⟨ca, cn, cc, cs, rfl, c1, c2, c3, c4, c5⟩ := slice_in (f := fun c : Int => [Value.int .i64 c]) Try.underlying24 cInt (by decide) (fun y hy => rfl) (fun n cs y => int_el) (show DataW.trod enc Try.prog W base _ held k 24 [v3] = some x3 from f3)
    subst k1; subst w1'; subst c1
    refine ⟨⟨b, ks, vs, cs⟩, ⟨ka, kc, va, vc, ca, cc⟩, rfl, ⟨k4, w4', c4⟩, ⟨k5, w5', ?_, k2, w2', c2⟩⟩
    simp only [← List.map_eq_flatMap] at c5
    exact c5
theorem draft_in {x : DataW H × List MemPlace} {cs : Array Value} (h : ∃ m, DataW.trod enc Try.prog W base (fun _ => true) held m 65 (Value.agg cs).cells.toList = some x) :
    ∃ (d : Nod.D) (sa va ka : Option Addr) (sc vc cc : Nat), cs = #[.bool d.leaf, .int .u64 (d.first : Int), .slice sa d.steps.length sc, .slice va d.vals.length vc, .slice ka d.kids.length cc] ∧ d.Wf ∧ DAt W d sa va ka := by
  obtain ⟨m, h⟩ := h
  have h' : DataW.trod enc Try.prog W base (fun _ => true) held m 65 cs.toList = some x := h
  obtain ⟨xs, k, _, _, hsz, hxs, hf⟩ := DataW.trod_struct Try.underlying65 h'
  have hl5 : cs.toList.length = 5 := by rw [hsz]; kernel_rfl
  obtain ⟨L⟩ := cs
  replace hl5 : L.length = 5 := hl5
  match L, hl5, xs, hxs, hf with
  | [v0, v1, v2, v3, v4], _, [x0, x1, x2, x3, x4], _, hf =>
    have f0 := hf 0 _ rfl
    have f1 := hf 1 _ rfl
    have f2 := hf 2 _ rfl
    have f3 := hf 3 _ rfl
    have f4 := hf 4 _ rfl
    simp only at f0 f1 f2 f3 f4
    obtain ⟨b, e0, _⟩ := DataW.trod_bool Try.underlying4 (show DataW.trod enc Try.prog W base _ held k 4 [v0] = some x0 from f0)
    obtain rfl : v0 = .bool b := by injection e0
    obtain ⟨z, e1, _, w1⟩ := DataW.trod_int Try.underlying39 (show DataW.trod enc Try.prog W base _ held k 39 [v1] = some x1 from f1)
    obtain rfl : v1 = .int .u64 z := by injection e1
    obtain ⟨f, rfl, hfz⟩ := wf_u64 w1
    obtain ⟨sa, sn, sc, st, rfl, s1, s2, s3, s4, s5⟩ := slice_in (f := fun c : Nat => [Value.int .u16 (c : Int)]) Try.underlying63 cU16 (by decide) (fun y hy => rfl) (fun n cs y => u16_el) (show DataW.trod enc Try.prog W base _ held k 63 [v2] = some x2 from f2)
    obtain ⟨va, vn, vc, vs, rfl, w1', w2', w3', w4', w5'⟩ := slice_in (f := fun c : UInt8 => [bv c]) Try.underlying34 cU8 (by decide) (fun y hy => rfl) (fun n cs y => u8_el) (show DataW.trod enc Try.prog W base _ held k 34 [v3] = some x3 from f3)
    obtain ⟨ca, cn, cc, cs, rfl, c1, c2, c3, c4, c5⟩ := slice_in (f := fun c : Nat => [Value.int .u16 (c : Int)]) Try.underlying63 cU16 (by decide) (fun y hy => rfl) (fun n cs y => u16_el) (show DataW.trod enc Try.prog W base _ held k 63 [v4] = some x4 from f4)
    subst s1; subst w1'; subst c1
    simp only [← List.map_eq_flatMap] at s5 w5' c5
    exact ⟨⟨b, f, st, vs, cs⟩, sa, va, ca, sc, vc, cc, rfl, ⟨hfz, s4, c4⟩, ⟨s5, w5', c5, Nat.le_trans s2 s3, Nat.le_trans w2' w3', Nat.le_trans c2 c3⟩⟩
end
end Go.Proofs.Ytbfhdggfdhlkfaa
