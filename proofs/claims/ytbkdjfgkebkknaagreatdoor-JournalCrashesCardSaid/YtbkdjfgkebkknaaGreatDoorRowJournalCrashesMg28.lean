import Derived.Test.YtbkdjfgkebkknaaGreatDoorRowJournalCrashesMg2
import Derived.OpenShut
import Derived.Deep.Matrix
import Derived.Test.YtbkdjfgkebkknaaGreatDoorRowJournalCrashesMg12
import Derived.Test.YtbkdjfgkebkknaaGreatDoorRows
import Derived.LaidMore
import Derived.LaidHandle
import Derived.MakeChecks
import Derived.FnData
import Derived.ProofKit
import Derived.Test.YtbkdjfgkebkknaaGreatDoorRowJournalCrashesMg25
import Derived.Test.YtbkdjfgkebkknaaGreatDoorRowJournalCrashesMg26
namespace Go.Proofs.YtbkdjfgkebkknaaGreatDoor
set_option linter.unusedVariables false
set_option linter.unusedSimpArgs false
open Go Go.RowKit
theorem good {w w' : World} {e : Ending} (h : Gives (Val (.bool true)) w e w') : e = .returned (.bool true) ∧ Below w.heap.size w w' := by
  obtain ⟨v, B, rfl, ⟨rfl, rfl⟩, s⟩ := h
  exact ⟨rfl, s.below⟩
theorem wf_u8 {n : Int} (h : (Lit.int .u8 n).wf = true) : 0 ≤ n ∧ n < 256 := by
  simp [Lit.wf, IntKind.min, IntKind.max, IntKind.signed, IntKind.bits] at h; omega
theorem wf_byte {n : Int} (h : (Lit.int .u8 n).wf = true) : ∃ c : UInt8, n = (c.toNat : Int) := by
  have := wf_u8 h
  have e := UInt8.toNat_ofNat_of_lt' (show n.toNat < UInt8.size by simp only [UInt8.size]; omega)
  exact ⟨UInt8.ofNat n.toNat, by rw [e]; omega⟩
theorem bytes_in {w : World} {a : Option Addr} {len cap : Nat} {zs : List Int}
    (h : (a = none ∧ len = 0 ∧ cap = 0 ∧ zs = []) ∨ ∃ x, a = some x ∧ len ≤ cap ∧ cap ≤ maxLen ∧ zs.length = cap ∧ (∀ i, i < zs.length → w.cell? (x.add i) = some (.int .u8 (zs.getD i 0))) ∧ ∀ n ∈ zs, (Lit.int .u8 n).wf = true) :
    ∃ l : List UInt8, l.length = len ∧ len ≤ cap ∧ cap ≤ 9223372036854775807 ∧ CellsAt w a (bs l) := by
  rcases h with ⟨rfl, rfl, rfl, rfl⟩ | ⟨x, rfl, hl, hm, hz, hc, hw⟩
  · exact ⟨[], rfl, Nat.le_refl _, by omega, .nil _ _⟩
  · refine ⟨(zs.take len).map fun n => UInt8.ofNat n.toNat, by simp; omega, hl, by simpa [maxLen] using hm, ?_⟩
    by_cases h0 : len = 0
    · subst h0; exact .inl (by simp [bs])
    · have hx := hc 0 (by rw [hz]; omega)
      obtain ⟨b, off, spot⟩ := x
      have hspot : spot = none := by simpa [Addr.add] using World.cell?_spot hx
      subst hspot
      refine .inr ⟨b, off, rfl, fun i v hv => ?_⟩
      have hi : i < len := by
        have := (List.getElem?_eq_some_iff.1 hv).1
        simp [bs] at this; omega
      have hiz : i < zs.length := by rw [hz]; omega
      have hci := hc i hiz
      have ea : (⟨b, off, none⟩ : Addr).add i = ⟨b, off + i, none⟩ := by unfold Addr.add; split <;> simp_all
      rw [ea] at hci
      rw [hci, ← hv]
      have hwf := wf_u8 (hw zs[i] (List.getElem_mem hiz))
      simp only [bs, List.map_map, List.getElem?_map, List.getElem?_take, hi, if_true, List.getElem?_eq_getElem hiz, Option.map_some, Function.comp, bv, List.getD_eq_getElem?_getD, Option.getD_some]
      have e := UInt8.toNat_ofNat_of_lt' (show zs[i].toNat < UInt8.size by simp only [UInt8.size]; omega)
      rw [e]
      congr 2; omega
def Deep (w : World) (a : Option Addr) (n : Nat) (vs : List Value) : Prop :=
  vs.length = n ∧ n ≤ 9223372036854775807 ∧ CellsAt w a vs ∧ ∀ (i : Nat) (v : Value), vs[i]? = some v → ∃ (b : Option Addr) (m c : Nat) (l : List UInt8), v = Value.slice b m c ∧ l.length = m ∧ m ≤ c ∧ c ≤ 9223372036854775807 ∧ CellsAt w b (bs l)
end Go.Proofs.YtbkdjfgkebkknaaGreatDoor
namespace Go.Proofs.YtbkdjfgkebkknaaGreatDoor
set_option linter.unusedVariables false
set_option linter.unusedSimpArgs false
open Go Go.RowKit Go.ChangeShapes Go.WideShapes Go.ChangeAt
theorem arr_struct_int {H : Type} {enc : TypeId × Value → H} {P : Program} {w : World} {base : Nat} {sp : Nat → Bool} {held : Bool} {fuel : Nat} {t e : TypeId} {n : Nat} {fs : Array Field} {cs : List Value} {ds : List (DataW H)} {p : List MemPlace}
    (ht : P.underlying t = some (.array n e)) (he : P.underlying e = some (.struct fs)) (h : DataW.trod enc P w base sp held fuel t cs = some (.agg ds, p)) (i j : Nat) {rs : List (DataW H)} {fd : Field} {z : Int} {k : Nat} (hk : P.cellsOf e = k)
    (hin : i < n) (hi : ds[i]? = some (.agg rs)) (hf : fs[j]? = some fd) (hj : rs[j]? = some (.lit (.int .i64 z))) (hu : P.underlying fd.type = some (.int .i64)) (hc : P.cellsOf fd.type = 1) (hofs : fd.offset < k) : cs[i * k + fd.offset]? = some (.int .i64 z) := by
  subst hk
  obtain ⟨xs, m, _, hx, _, hn, hel⟩ := DataW.trod_array ht h
  have hlt : i < xs.length := by omega
  have h1 := hel i hin
  rw [List.getElem?_eq_getElem hlt] at h1
  have hds : (xs[i]).1 = .agg rs := by
    have : ds = xs.map (·.1) := by have := congrArg (fun q : DataW H × List MemPlace => match q.1 with | .agg l => l | _ => []) hx; exact this
    rw [this, List.getElem?_map, List.getElem?_eq_getElem hlt] at hi
    exact Option.some.inj hi
  obtain ⟨ys, m2, _, hy, _, hny, hf2⟩ := DataW.trod_struct he h1
  have h2 := hf2 j fd hf
  have hjl : j < ys.length := by
    rw [hny]; exact (Array.getElem?_eq_some_iff.1 hf).1
  rw [List.getElem?_eq_getElem hjl] at h2
  have hrs : (ys[j]).1 = .lit (.int .i64 z) := by
    have h3 := congrArg (fun q : DataW H × List MemPlace => q.1) hy
    simp only at h3
    rw [hds] at h3
    have h4 : rs = ys.map (·.1) := by injection h3
    rw [h4, List.getElem?_map, List.getElem?_eq_getElem hjl] at hj
    exact Option.some.inj hj
  obtain ⟨z', hcs, hz, _⟩ := DataW.trod_int hu h2
  have hz' : z' = z := by
    have h3 := congrArg (fun q : DataW H × List MemPlace => q.1) hz
    simp only at h3
    rw [hrs] at h3
    injection h3 with h3; injection h3 with _ h3; exact h3.symm
  subst hz'
  rw [hc] at hcs
  have h5 := congrArg (fun l : List Value => l[0]?) hcs
  simp only [List.getElem?_cons_zero, List.getElem?_take, List.getElem?_drop, Nat.add_zero] at h5
  rw [if_pos (by decide), if_pos hofs] at h5
  exact h5
theorem gKinds : Tryz.prog.globalNamed "tempo/frame.kinds" = some 0 := by kernel_rfl
theorem tKinds : (Tryz.prog.globals[0]?).map (·.type) = some 212 := by kernel_rfl
theorem cKind : Tryz.prog.cellsOf 211 = 5 := by kernel_rfl
theorem cInt : Tryz.prog.cellsOf 3 = 1 := by kernel_rfl
abbrev laidKinds : List (String × DataW Unit) := [("tempo/frame.kinds", Rows.laid_tempo_frame_kinds)]
theorem tab_of {W : World} (h : laidMetH Tryz.prog laidKinds W) : Tab W := by
  rw [MakeChecks.laidMetH_plain _ _ _ (by kernel_rfl)] at h
  obtain ⟨ps, ⟨g0, t0, cs0, f0, p0, q0, hg0, ht0, hv0, hd0, _⟩, _, _⟩ := h
  obtain rfl := Option.some.inj (gKinds.symm.trans hg0)
  obtain rfl := Option.some.inj (tKinds.symm.trans ht0)
  unfold Rows.laid_tempo_frame_kinds at hd0
  have key := fun i j {rs fd z} => arr_struct_int (rs := rs) (fd := fd) (z := z) Tryz.underlying212 Tryz.underlying211 hd0 i j cKind
  refine .inr ⟨0, 0, rfl, fun k v hk => ?_⟩
  rw [Nat.zero_add, World.var?_cell hg0 hv0]
  have hc : ∀ (i j : Nat) (z : Int), cs0.toList[i * 5 + j]? = some (.int .i64 z) → tabCells[i * 5 + j]? = some (.int .i64 z) → k = i * 5 + j → cs0[k]? = some v := fun i j z h1 h2 e => by
    subst e
    rw [h2] at hk
    obtain rfl := Option.some.inj hk
    simpa using h1
  have hlen : k < 15 := by
    have := (List.getElem?_eq_some_iff.1 hk).1
    exact this
  rcases (show k = 0 ∨ k = 1 ∨ k = 2 ∨ k = 3 ∨ k = 4 ∨ k = 5 ∨ k = 6 ∨ k = 7 ∨ k = 8 ∨ k = 9 ∨ k = 10 ∨ k = 11 ∨ k = 12 ∨ k = 13 ∨ k = 14 by omega) with e | e | e | e | e | e | e | e | e | e | e | e | e | e | e
  · exact hc 0 0 _ (key 0 0 (by decide) rfl rfl rfl Tryz.underlying3 cInt (by decide)) rfl e
  · exact hc 0 1 _ (key 0 1 (by decide) rfl rfl rfl Tryz.underlying3 cInt (by decide)) rfl e
  · exact hc 0 2 _ (key 0 2 (by decide) rfl rfl rfl Tryz.underlying3 cInt (by decide)) rfl e
  · exact hc 0 3 _ (key 0 3 (by decide) rfl rfl rfl Tryz.underlying3 cInt (by decide)) rfl e
  · exact hc 0 4 _ (key 0 4 (by decide) rfl rfl rfl Tryz.underlying3 cInt (by decide)) rfl e
  · exact hc 1 0 _ (key 1 0 (by decide) rfl rfl rfl Tryz.underlying3 cInt (by decide)) rfl e
  · exact hc 1 1 _ (key 1 1 (by decide) rfl rfl rfl Tryz.underlying3 cInt (by decide)) rfl e
  · exact hc 1 2 _ (key 1 2 (by decide) rfl rfl rfl Tryz.underlying3 cInt (by decide)) rfl e
  · exact hc 1 3 _ (key 1 3 (by decide) rfl rfl rfl Tryz.underlying3 cInt (by decide)) rfl e
  · exact hc 1 4 _ (key 1 4 (by decide) rfl rfl rfl Tryz.underlying3 cInt (by decide)) rfl e
  · exact hc 2 0 _ (key 2 0 (by decide) rfl rfl rfl Tryz.underlying3 cInt (by decide)) rfl e
  · exact hc 2 1 _ (key 2 1 (by decide) rfl rfl rfl Tryz.underlying3 cInt (by decide)) rfl e
  · exact hc 2 2 _ (key 2 2 (by decide) rfl rfl rfl Tryz.underlying3 cInt (by decide)) rfl e
  · exact hc 2 3 _ (key 2 3 (by decide) rfl rfl rfl Tryz.underlying3 cInt (by decide)) rfl e
  · exact hc 2 4 _ (key 2 4 (by decide) rfl rfl rfl Tryz.underlying3 cInt (by decide)) rfl e
theorem door_met (os : Os) (args : Array Value) : laidMetH Tryz.prog laidKinds ((World.doorLaid Tryz.prog 400 os).forCall (fun _ _ => 0) ⟨#[], args, []⟩).memory :=
  laidMetH_of_parts3 (fuel := 8) (laidMet_of_run' 8 (by kernel_rfl) (by kernel_rfl)) (by kernel_rfl) (by kernel_rfl)
end Go.Proofs.YtbkdjfgkebkknaaGreatDoor
namespace Go.Proofs.YtbkdjfgkebkknaaGreatDoor
set_option linter.unusedVariables false
set_option linter.unusedSimpArgs false
open Go Go.RowKit Go.ChangeShapes Go.WideShapes Go.ChangeAt
set_option maxRecDepth 100000
section
variable {H : Type} {enc : TypeId × Value → H} {W : World} {base : Nat} {held : Bool} {m : Nat} {x : DataW H × List MemPlace}
theorem bytes_of {v : Value} (h : DataW.trod enc Tryz.prog W base (fun _ => true) held m 23 [v] = some x) : ∃ (a : Option Addr) (c : Nat) (l : List UInt8), v = .slice a l.length c ∧ l.length ≤ c ∧ c ≤ 9223372036854775807 ∧ CellsAt W a (bs l) := by
  rcases open_ints Tryz.underlying23 Tryz.underlying5 (by kernel_rfl) h with ⟨hcs, _⟩ | ⟨b, l, c, zs, hcs, _, hl, hm, hz, _, hcell, hwz⟩
  · obtain rfl : v = .slice none 0 0 := by injection hcs
    exact ⟨none, 0, [], rfl, Nat.le_refl _, by decide, .inl rfl⟩
  · obtain rfl : v = .slice (some b) l c := by injection hcs
    obtain ⟨l', h1, h2, h3, h4⟩ := bytes_in (w := W) (a := some b) (len := l) (cap := c) (zs := zs) (.inr ⟨_, rfl, hl, hm, by simpa using hz, hcell, hwz⟩)
    subst h1
    exact ⟨some b, c, l', rfl, h2, h3, h4⟩
theorem trans_in {cs : List Value} (h : DataW.trod enc Tryz.prog W base (fun _ => true) held m 25 cs = some x) : ∃ t : Tr, cs = t.cs ∧ t.Ok W := by
  obtain ⟨xs, k, _, _, hsz, hxs, hf⟩ := DataW.trod_struct Tryz.underlying25 h
  have hl2 : cs.length = 2 := by rw [hsz]; kernel_rfl
  match cs, hl2, xs, hxs, hf with
  | [v0, v1], _, [x0, x1], _, hf =>
    have f0 := hf 0 _ rfl
    have f1 := hf 1 _ rfl
    obtain ⟨a, c, l, rfl, h1, h2, h3⟩ := bytes_of (show DataW.trod enc Tryz.prog W base _ held k 23 [v0] = some x0 from f0)
    obtain ⟨z, e1, _, w1⟩ := DataW.trod_int Tryz.underlying5 (show DataW.trod enc Tryz.prog W base _ held k 5 [v1] = some x1 from f1)
    obtain rfl : v1 = .int .u8 z := by injection e1
    obtain ⟨y, rfl⟩ := wf_byte w1
    exact ⟨⟨a, c, l, y⟩, rfl, h1, h2, h3⟩
theorem transes_in {a : Option Addr} {n cap : Nat} (h : DataW.trod enc Tryz.prog W base (fun _ => true) held m 22 [.slice a n cap] = some x) :
    ∃ X : List Tr, X.length = n ∧ n ≤ cap ∧ cap ≤ 9223372036854775807 ∧ CellsAt W a (trs X) ∧ ∀ t ∈ X, t.Ok W := by
  rcases DataW.trod_slice Tryz.underlying22 h with ⟨hcs, _⟩ | ⟨b, len, cap', elems, rest, k, _, hcs, _, _, hl, hm, hlen, hel, _, _⟩
  · injection hcs with e1
    injection e1 with e1 e2 e3
    subst e1 e2 e3
    exact ⟨[], rfl, Nat.le_refl _, by decide, .inl rfl, fun t ht => by cases ht⟩
  · injection hcs with e1
    injection e1 with e1 e2 e3
    subst e1 e2 e3
    have hc2 : Tryz.prog.cellsOf 25 = 2 := by kernel_rfl
    have key : ∀ i : Nat, ∃ t : Tr, i < n → t.Ok W ∧ W.cells? base (b.add (i * 2)) 2 = some t.cs := fun i => by
      by_cases hi : i < n
      · have h1 := hel i hi
        rw [hc2, List.getElem?_eq_getElem (by omega), Option.bind_eq_some_iff] at h1
        obtain ⟨cs', h2, h3⟩ := h1
        obtain ⟨t, rfl, ht⟩ := trans_in h3
        exact ⟨t, fun _ => ⟨ht, h2⟩⟩
      · exact ⟨⟨none, 0, [], 0⟩, fun h => absurd h hi⟩
    obtain ⟨f, hf⟩ := Classical.axiomOfChoice key
    refine ⟨(List.range n).map f, by simp, hl, by simpa [maxLen] using hm, ?_, fun t ht => ?_⟩
    · by_cases h0 : n = 0
      · subst h0; exact .inl rfl
      obtain ⟨_, _, hat⟩ := World.cells?_some (hf 0 (by omega)).2
      have hx := (hat 0 (by decide)).trans (show (f 0).cs[0]? = some (.slice (f 0).a (f 0).nos.length (f 0).c) from rfl)
      obtain ⟨b, off, spot⟩ := b
      have hspot : spot = none := by simpa [Addr.add] using World.cell?_spot hx
      subst hspot
      refine .inr ⟨b, off, rfl, fun i v hv => ?_⟩
      have hln : (trs ((List.range n).map f)).length = n * 2 := by
        have := flatM_len (f := Tr.cs) (k := 2) (fun _ => rfl) ((List.range n).map f)
        rw [List.length_map, List.length_range] at this
        exact this
      have hi := (List.getElem?_eq_some_iff.1 hv).1
      rw [hln] at hi
      have hq : i / 2 < n := by omega
      have hX : ((List.range n).map f)[i / 2]? = some (f (i / 2)) := by rw [List.getElem?_map, List.getElem?_range hq]; rfl
      obtain ⟨_, _, hat2⟩ := World.cells?_some (hf (i / 2) hq).2
      have e2 := hat2 (i % 2) (Nat.mod_lt _ (by decide))
      have e3 : (f (i / 2)).cs[i % 2]? = some v := by
        rw [← tr_at hX, List.getElem?_take_of_lt (show i % 2 < (f (i / 2)).cs.length from Nat.mod_lt _ (by decide)), List.getElem?_drop, ← hv]
        congr 1; omega
      rw [e3] at e2
      have ea : ∀ x y : Nat, (⟨b, x, none⟩ : Addr).add y = ⟨b, x + y, none⟩ := fun x y => by unfold Addr.add; split <;> simp_all
      rw [ea, ea] at e2
      rw [← e2]
      congr 2; omega
    · obtain ⟨i, hi, rfl⟩ := List.mem_map.1 ht
      exact (hf i (List.mem_range.1 hi)).1
end
end Go.Proofs.YtbkdjfgkebkknaaGreatDoor
namespace Go.Proofs.YtbkdjfgkebkknaaGreatDoor
set_option linter.unusedVariables false
set_option linter.unusedSimpArgs false
open Go Go.RowKit Go.ChangeShapes Go.WideShapes Go.ChangeAt
set_option maxRecDepth 100000
section
variable {H : Type} {enc : TypeId × Value → H} {W : World} {base : Nat} {held : Bool} {m : Nat} {x : DataW H × List MemPlace}
theorem eps_in {cs : List Value} (h : DataW.trod enc Tryz.prog W base (fun _ => true) held m 22 cs = some x) : ∃ e : Eps, cs = [e.v] ∧ e.Ok W := by
  have key : ∀ (a : Option Addr) (n cap : Nat), cs = [.slice a n cap] → ∃ e : Eps, cs = [e.v] ∧ e.Ok W := fun a n cap hcs => by
    subst hcs
    obtain ⟨X, rfl, h2, h3, h4, h5⟩ := transes_in h
    exact ⟨⟨a, cap, X⟩, rfl, h2, h3, h4, h5⟩
  rcases DataW.trod_slice Tryz.underlying22 h with ⟨hcs, _⟩ | ⟨b, len, cap', elems, rest, k, _, hcs, _⟩
  · exact key _ _ _ hcs
  · exact key _ _ _ hcs
theorem epochs_in {a : Option Addr} {n cap : Nat} (h : DataW.trod enc Tryz.prog W base (fun _ => true) held m 109 [.slice a n cap] = some x) :
    ∃ X : List Eps, X.length = n ∧ n ≤ cap ∧ cap ≤ 9223372036854775807 ∧ CellsAt W a (X.map Eps.v) ∧ ∀ e ∈ X, e.Ok W := by
  rcases DataW.trod_slice Tryz.underlying109 h with ⟨hcs, _⟩ | ⟨b, len, cap', elems, rest, k, _, hcs, _, _, hl, hm, hlen, hel, _, _⟩
  · injection hcs with e1
    injection e1 with e1 e2 e3
    subst e1 e2 e3
    exact ⟨[], rfl, Nat.le_refl _, by decide, .inl rfl, fun t ht => by cases ht⟩
  · injection hcs with e1
    injection e1 with e1 e2 e3
    subst e1 e2 e3
    have hc2 : Tryz.prog.cellsOf 22 = 1 := by kernel_rfl
    have key : ∀ i : Nat, ∃ t : Eps, i < n → t.Ok W ∧ W.cells? base (b.add (i * 1)) 1 = some [t.v] := fun i => by
      by_cases hi : i < n
      · have h1 := hel i hi
        rw [hc2, List.getElem?_eq_getElem (by omega), Option.bind_eq_some_iff] at h1
        obtain ⟨cs', h2, h3⟩ := h1
        obtain ⟨t, rfl, ht⟩ := eps_in h3
        exact ⟨t, fun _ => ⟨ht, h2⟩⟩
      · exact ⟨⟨none, 0, []⟩, fun h => absurd h hi⟩
    obtain ⟨f, hf⟩ := Classical.axiomOfChoice key
    refine ⟨(List.range n).map f, by simp, hl, by simpa [maxLen] using hm, ?_, fun t ht => ?_⟩
    · by_cases h0 : n = 0
      · subst h0; exact .inl rfl
      obtain ⟨_, _, hat⟩ := World.cells?_some (hf 0 (by omega)).2
      have hx := (hat 0 (by decide)).trans (show [(f 0).v][0]? = some (f 0).v from rfl)
      obtain ⟨b, off, spot⟩ := b
      have hspot : spot = none := by simpa [Addr.add, Eps.v] using World.cell?_spot hx
      subst hspot
      refine .inr ⟨b, off, rfl, fun i v hv => ?_⟩
      have hi := (List.getElem?_eq_some_iff.1 hv).1
      rw [List.length_map, List.length_map, List.length_range] at hi
      have hX : (((List.range n).map f).map Eps.v)[i]? = some (f i).v := by rw [List.getElem?_map, List.getElem?_map, List.getElem?_range hi]; rfl
      obtain ⟨_, _, hat2⟩ := World.cells?_some (hf i hi).2
      have e2 := (hat2 0 (by decide)).trans (show [(f i).v][0]? = some (f i).v from rfl)
      rw [hX] at hv
      cases hv
      have ea : ∀ x y : Nat, (⟨b, x, none⟩ : Addr).add y = ⟨b, x + y, none⟩ := fun x y => by unfold Addr.add; split <;> simp_all
      rw [ea, ea, Nat.mul_one] at e2
      exact e2
    · obtain ⟨i, hi, rfl⟩ := List.mem_map.1 ht
      exact (hf i (List.mem_range.1 hi)).1
end
end Go.Proofs.YtbkdjfgkebkknaaGreatDoor
