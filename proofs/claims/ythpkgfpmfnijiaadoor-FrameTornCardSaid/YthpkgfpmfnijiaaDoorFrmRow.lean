/- What the rows of chapter 34 know of their arguments and of the table of the kinds. -/
import Derived.Test.YthpkgfpmfnijiaaDoorFrm1
import Derived.Test.YthpkgfpmfnijiaaDoorRow
import Derived.Test.YthpkgfpmfnijiaaDoorRows
import Derived.LaidMore
import Derived.LaidHandle
import Derived.MakeChecks
import Derived.FnData
import Derived.OpenShut
import Derived.ProofKit
namespace Go.Proofs.YthpkgfpmfnijiaaDoor
open Go Go.RowKit Go.ChangeShapes Go.WideShapes Go.ChangeAt
/-- A number in an array of structs, by what the array reads as. -/
theorem arr_struct_int {H : Type} {enc : TypeId × Value → H} {P : Program} {w : World} {base : Nat} {sp : Nat → Bool} {held : Bool} {fuel : Nat} {t e : TypeId} {n : Nat} {fs : Array Field} {cs : List Value} {ds : List (DataW H)} {p : List MemPlace}
    (ht : P.underlying t = some (.array n e)) (he : P.underlying e = some (.struct fs)) (h : DataW.trod enc P w base sp held fuel t cs = some (.agg ds, p)) (i j : Nat) {rs : List (DataW H)} {fd : Field} {z : Int} {k : Nat} (hk : P.cellsOf e = k)
    (hin : i < n) (hi : ds[i]? = some (.agg rs)) (hf : fs[j]? = some fd) (hj : rs[j]? = some (.lit (.int .i64 z))) (hu : P.underlying fd.type = some (.int .i64)) (hc : P.cellsOf fd.type = 1) (hofs : fd.offset < k) : cs[i * k + fd.offset]? = some (.int .i64 z) := by
  subst hk
  obtain ⟨xs, m, _, hx, _, hn, hel⟩ := DataW.trod_array ht h
  have hlt : i < xs.length := by omega
  have h1 := hel i hin
  rw [List.getElem?_eq_getElem hlt] at h1
  have hds : (xs[i]).1 = .agg rs := by
    have : ds = xs.map (·.1) := by have := congrArg (fun q : DataW H × List MemPlace => match q.1 with | .agg l => l | _ => []) hx; exact this
    rw [this, List.getElem?_map, List.getElem?_eq_getElem hlt] at hi
    exact Option.some.inj hi
  obtain ⟨ys, m2, _, hy, _, hny, hf2⟩ := DataW.trod_struct he h1
  have h2 := hf2 j fd hf
  have hjl : j < ys.length := by
    rw [hny]; exact (Array.getElem?_eq_some_iff.1 hf).1
  rw [List.getElem?_eq_getElem hjl] at h2
  have hrs : (ys[j]).1 = .lit (.int .i64 z) := by
    have h3 := congrArg (fun q : DataW H × List MemPlace => q.1) hy
    simp only at h3
    rw [hds] at h3
    have h4 : rs = ys.map (·.1) := by injection h3
    rw [h4, List.getElem?_map, List.getElem?_eq_getElem hjl] at hj
    exact Option.some.inj hj
  obtain ⟨z', hcs, hz, _⟩ := DataW.trod_int hu h2
  have hz' : z' = z := by
    have h3 := congrArg (fun q : DataW H × List MemPlace => q.1) hz
    simp only at h3
    rw [hrs] at h3
    injection h3 with h3; injection h3 with _ h3; exact h3.symm
  subst hz'
  rw [hc] at hcs
  have h5 := congrArg (fun l : List Value => l[0]?) hcs
  simp only [List.getElem?_cons_zero, List.getElem?_take, List.getElem?_drop, Nat.add_zero] at h5
  rw [if_pos (by decide), if_pos hofs] at h5
  exact h5
theorem gKinds : Tryd.prog.globalNamed "tempo/frame.kinds" = some 0 := by kernel_rfl
theorem tKinds : (Tryd.prog.globals[0]?).map (·.type) = some 69 := by kernel_rfl
theorem cKind : Tryd.prog.cellsOf 68 = 5 := by kernel_rfl
theorem cInt : Tryd.prog.cellsOf 3 = 1 := by kernel_rfl
abbrev laidKinds : List (String × DataW Unit) := [("tempo/frame.kinds", Rows.laid_tempo_frame_kinds)]
/-- The table lies in memory as the program's text lays it. -/
theorem tab_of {W : World} (h : laidMetH Tryd.prog laidKinds W) : Tab W := by
  rw [MakeChecks.laidMetH_plain _ _ _ (by kernel_rfl)] at h
  obtain ⟨ps, ⟨g0, t0, cs0, f0, p0, q0, hg0, ht0, hv0, hd0, _⟩, _, _⟩ := h
  obtain rfl := Option.some.inj (gKinds.symm.trans hg0)
  obtain rfl := Option.some.inj (tKinds.symm.trans ht0)
  unfold Rows.laid_tempo_frame_kinds at hd0
  have key := fun i j {rs fd z} => arr_struct_int (rs := rs) (fd := fd) (z := z) Tryd.underlying69 Tryd.underlying68 hd0 i j cKind
  refine .inr ⟨0, 0, rfl, fun k v hk => ?_⟩
  rw [Nat.zero_add, World.var?_cell hg0 hv0]
  have hc : ∀ (i j : Nat) (z : Int), cs0.toList[i * 5 + j]? = some (.int .i64 z) → tabCells[i * 5 + j]? = some (.int .i64 z) → k = i * 5 + j → cs0[k]? = some v := fun i j z h1 h2 e => by
    subst e
    rw [h2] at hk
    obtain rfl := Option.some.inj hk
    simpa using h1
  have hlen : k < 15 := by
    have := (List.getElem?_eq_some_iff.1 hk).1
    exact this
  rcases (show k = 0 ∨ k = 1 ∨ k = 2 ∨ k = 3 ∨ k = 4 ∨ k = 5 ∨ k = 6 ∨ k = 7 ∨ k = 8 ∨ k = 9 ∨ k = 10 ∨ k = 11 ∨ k = 12 ∨ k = 13 ∨ k = 14 by omega) with e | e | e | e | e | e | e | e | e | e | e | e | e | e | e
  · exact hc 0 0 _ (key 0 0 (by decide) rfl rfl rfl Tryd.underlying3 cInt (by decide)) rfl e
  · exact hc 0 1 _ (key 0 1 (by decide) rfl rfl rfl Tryd.underlying3 cInt (by decide)) rfl e
  · exact hc 0 2 _ (key 0 2 (by decide) rfl rfl rfl Tryd.underlying3 cInt (by decide)) rfl e
  · exact hc 0 3 _ (key 0 3 (by decide) rfl rfl rfl Tryd.underlying3 cInt (by decide)) rfl e
  · exact hc 0 4 _ (key 0 4 (by decide) rfl rfl rfl Tryd.underlying3 cInt (by decide)) rfl e
  · exact hc 1 0 _ (key 1 0 (by decide) rfl rfl rfl Tryd.underlying3 cInt (by decide)) rfl e
  · exact hc 1 1 _ (key 1 1 (by decide) rfl rfl rfl Tryd.underlying3 cInt (by decide)) rfl e
  · exact hc 1 2 _ (key 1 2 (by decide) rfl rfl rfl Tryd.underlying3 cInt (by decide)) rfl e
  · exact hc 1 3 _ (key 1 3 (by decide) rfl rfl rfl Tryd.underlying3 cInt (by decide)) rfl e
  · exact hc 1 4 _ (key 1 4 (by decide) rfl rfl rfl Tryd.underlying3 cInt (by decide)) rfl e
  · exact hc 2 0 _ (key 2 0 (by decide) rfl rfl rfl Tryd.underlying3 cInt (by decide)) rfl e
  · exact hc 2 1 _ (key 2 1 (by decide) rfl rfl rfl Tryd.underlying3 cInt (by decide)) rfl e
  · exact hc 2 2 _ (key 2 2 (by decide) rfl rfl rfl Tryd.underlying3 cInt (by decide)) rfl e
  · exact hc 2 3 _ (key 2 3 (by decide) rfl rfl rfl Tryd.underlying3 cInt (by decide)) rfl e
  · exact hc 2 4 _ (key 2 4 (by decide) rfl rfl rfl Tryd.underlying3 cInt (by decide)) rfl e
/-- The door's own heap meets the condition. -/
theorem door_met (os : Os) (args : Array Value) : laidMetH Tryd.prog laidKinds ((World.doorLaid Tryd.prog 400 os).forCall (fun _ _ => 0) ⟨#[], args, []⟩).memory :=
  laidMetH_of_parts3 (fuel := 8) (laidMet_of_run' 8 (by kernel_rfl) (by kernel_rfl)) (by kernel_rfl) (by kernel_rfl)
/-- What a draft that is handed in holds. -/
theorem draft_in {H : Type} {enc : TypeId × Value → H} {W : World} {base : Nat} {held : Bool} {x : DataW H × List MemPlace} {cs : Array Value}
    (h : ∃ m, DataW.trod enc Tryd.prog W base (fun _ => true) held m 50 (Value.agg cs).cells.toList = some x) :
    ∃ (b : Bool) (e t i n : Nat) (c : UInt8), cs = #[.bool b, .int .u64 (e : Int), .int .u32 (t : Int), .int .u16 (i : Int), .int .u16 (n : Int), bv c] ∧ e < 18446744073709551616 ∧ t < 4294967296 ∧ i < 65536 ∧ n < 65536 := by
  obtain ⟨m, h⟩ := h
  have h' : DataW.trod enc Tryd.prog W base (fun _ => true) held m 50 cs.toList = some x := h
  obtain ⟨xs, k, _, _, hsz, hxs, hf⟩ := DataW.trod_struct Tryd.underlying50 h'
  have hl6 : cs.toList.length = 6 := by rw [hsz]; kernel_rfl
  obtain ⟨L⟩ := cs
  replace hl6 : L.length = 6 := hl6
  match L, hl6, xs, hxs, hf with
  | [v0, v1, v2, v3, v4, v5], _, [x0, x1, x2, x3, x4, x5], _, hf =>
    have f0 := hf 0 _ rfl
    have f1 := hf 1 _ rfl
    have f2 := hf 2 _ rfl
    have f3 := hf 3 _ rfl
    have f4 := hf 4 _ rfl
    have f5 := hf 5 _ rfl
    simp only at f0 f1 f2 f3 f4 f5
    obtain ⟨b, e0, _⟩ := DataW.trod_bool Tryd.underlying4 (show DataW.trod enc Tryd.prog W base _ held k 4 [v0] = some x0 from f0)
    obtain ⟨e, e1, _, w1⟩ := DataW.trod_int Tryd.underlying46 (show DataW.trod enc Tryd.prog W base _ held k 46 [v1] = some x1 from f1)
    obtain ⟨t, e2, _, w2⟩ := DataW.trod_int Tryd.underlying47 (show DataW.trod enc Tryd.prog W base _ held k 47 [v2] = some x2 from f2)
    obtain ⟨i, e3, _, w3⟩ := DataW.trod_int Tryd.underlying48 (show DataW.trod enc Tryd.prog W base _ held k 48 [v3] = some x3 from f3)
    obtain ⟨n, e4, _, w4⟩ := DataW.trod_int Tryd.underlying48 (show DataW.trod enc Tryd.prog W base _ held k 48 [v4] = some x4 from f4)
    obtain ⟨c, e5, _, w5⟩ := DataW.trod_int Tryd.underlying5 (show DataW.trod enc Tryd.prog W base _ held k 5 [v5] = some x5 from f5)
    obtain rfl : v0 = .bool b := by injection e0
    obtain rfl : v1 = .int .u64 e := by injection e1
    obtain rfl : v2 = .int .u32 t := by injection e2
    obtain rfl : v3 = .int .u16 i := by injection e3
    obtain rfl : v4 = .int .u16 n := by injection e4
    obtain rfl : v5 = .int .u8 c := by injection e5
    obtain ⟨e', rfl, h1⟩ := wf_u64 w1
    obtain ⟨t', rfl, h2⟩ := wf_u32 w2
    obtain ⟨i', rfl, h3⟩ := wf_u16 w3
    obtain ⟨n', rfl, h4⟩ := wf_u16 w4
    obtain ⟨c', rfl⟩ := wf_byte w5
    exact ⟨b, e', t', i', n', c', rfl, h1, h2, h3, h4⟩
/-- What a frame that is handed in holds. -/
theorem frame_in {H : Type} {enc : TypeId × Value → H} {W : World} {base : Nat} {held : Bool} {x : DataW H × List MemPlace} {cs : Array Value}
    (h : ∃ m, DataW.trod enc Tryd.prog W base (fun _ => true) held m 24 (Value.agg cs).cells.toList = some x) :
    ∃ (kd ep tx ix no : Int) (a : Option Addr) (n cap : Nat) (l : List UInt8), cs = #[.int .i64 kd, .int .i64 ep, .int .i64 tx, .int .i64 ix, .int .i64 no, .slice a n cap] ∧ l.length = n ∧ n ≤ cap ∧ cap ≤ 9223372036854775807 ∧ CellsAt W a (bs l) := by
  obtain ⟨m, h⟩ := h
  have h' : DataW.trod enc Tryd.prog W base (fun _ => true) held m 24 cs.toList = some x := h
  obtain ⟨xs, k, _, _, hsz, hxs, hf⟩ := DataW.trod_struct Tryd.underlying24 h'
  have hl6 : cs.toList.length = 6 := by rw [hsz]; kernel_rfl
  obtain ⟨L⟩ := cs
  replace hl6 : L.length = 6 := hl6
  match L, hl6, xs, hxs, hf with
  | [v0, v1, v2, v3, v4, v5], _, [x0, x1, x2, x3, x4, x5], _, hf =>
    have f0 := hf 0 _ rfl
    have f1 := hf 1 _ rfl
    have f2 := hf 2 _ rfl
    have f3 := hf 3 _ rfl
    have f4 := hf 4 _ rfl
    have f5 := hf 5 _ rfl
    simp only at f0 f1 f2 f3 f4 f5
    obtain ⟨kd, e0, _, _⟩ := DataW.trod_int Tryd.underlying3 (show DataW.trod enc Tryd.prog W base _ held k 3 [v0] = some x0 from f0)
    obtain ⟨ep, e1, _, _⟩ := DataW.trod_int Tryd.underlying2 (show DataW.trod enc Tryd.prog W base _ held k 2 [v1] = some x1 from f1)
    obtain ⟨tx, e2, _, _⟩ := DataW.trod_int Tryd.underlying3 (show DataW.trod enc Tryd.prog W base _ held k 3 [v2] = some x2 from f2)
    obtain ⟨ix, e3, _, _⟩ := DataW.trod_int Tryd.underlying3 (show DataW.trod enc Tryd.prog W base _ held k 3 [v3] = some x3 from f3)
    obtain ⟨no, e4, _, _⟩ := DataW.trod_int Tryd.underlying3 (show DataW.trod enc Tryd.prog W base _ held k 3 [v4] = some x4 from f4)
    obtain rfl : v0 = .int .i64 kd := by injection e0
    obtain rfl : v1 = .int .i64 ep := by injection e1
    obtain rfl : v2 = .int .i64 tx := by injection e2
    obtain rfl : v3 = .int .i64 ix := by injection e3
    obtain rfl : v4 = .int .i64 no := by injection e4
    rcases open_ints Tryd.underlying22 Tryd.underlying5 (by kernel_rfl) (show DataW.trod enc Tryd.prog W base _ held k 22 [v5] = some x5 from f5) with ⟨hcs, _⟩ | ⟨b, l, c, zs, hcs, _, hl, hm, hz, _, hcell, hwz⟩
    · obtain rfl : v5 = .slice none 0 0 := by injection hcs
      obtain ⟨l, h1, h2, h3, h4⟩ := bytes_in (w := W) (a := none) (len := 0) (cap := 0) (zs := []) (.inl ⟨rfl, rfl, rfl, rfl⟩)
      exact ⟨kd, ep, tx, ix, no, none, 0, 0, l, rfl, h1, h2, h3, h4⟩
    · obtain rfl : v5 = .slice (some b) l c := by injection hcs
      obtain ⟨l', h1, h2, h3, h4⟩ := bytes_in (w := W) (a := some b) (len := l) (cap := c) (zs := zs) (.inr ⟨_, rfl, hl, hm, by simpa using hz, hcell, hwz⟩)
      exact ⟨kd, ep, tx, ix, no, some b, l, c, l', rfl, h1, h2, h3, h4⟩
end Go.Proofs.YthpkgfpmfnijiaaDoor
