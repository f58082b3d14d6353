import Derived.Test.YtbkdjfgkebkknaaGreatDoorRowJournalRowsMg11
import Derived.Test.YtbkdjfgkebkknaaGreatDoorRowJournalRowsMg27
import Derived.Test.YtbkdjfgkebkknaaGreatDoorRows
import Derived.LaidMore
import Derived.LaidHandle
import Derived.MakeChecks
import Derived.FnData
import Derived.OpenShut
import Derived.ProofKit
namespace Go.Proofs.YtbkdjfgkebkknaaGreatDoor
set_option linter.unusedVariables false
set_option linter.unusedSimpArgs false
open Go Go.RowKit Go.ChangeShapes Go.WideShapes Go.ChangeAt
theorem arr_struct_int {H : Type} {enc : TypeId × Value → H} {P : Program} {w : World} {base : Nat} {sp : Nat → Bool} {held : Bool} {fuel : Nat} {t e : TypeId} {n : Nat} {fs : Array Field} {cs : List Value} {ds : List (DataW H)} {p : List MemPlace}
    (ht : P.underlying t = some (.array n e)) (he : P.underlying e = some (.struct fs)) (h : DataW.trod enc P w base sp held fuel t cs = some (.agg ds, p)) (i j : Nat) {rs : List (DataW H)} {fd : Field} {z : Int} {k : Nat} (hk : P.cellsOf e = k)
    (hin : i < n) (hi : ds[i]? = some (.agg rs)) (hf : fs[j]? = some fd) (hj : rs[j]? = some (.lit (.int .i64 z))) (hu : P.underlying fd.type = some (.int .i64)) (hc : P.cellsOf fd.type = 1) (hofs : fd.offset < k) : cs[i * k + fd.offset]? = some (.int .i64 z) := by
  subst hk
  obtain ⟨xs, m, _, hx, _, hn, hel⟩ := DataW.trod_array ht h
  have hlt : i < xs.length := by omega
  have h1 := hel i hin
  rw [List.getElem?_eq_getElem hlt] at h1
  have hds : (xs[i]).1 = .agg rs := by
    have : ds = xs.map (·.1) := by have := congrArg (fun q : DataW H × List MemPlace => match q.1 with | .agg l => l | _ => []) hx; exact this
    rw [this, List.getElem?_map, List.getElem?_eq_getElem hlt] at hi
    exact Option.some.inj hi
  obtain ⟨ys, m2, _, hy, _, hny, hf2⟩ := DataW.trod_struct he h1
  have h2 := hf2 j fd hf
  have hjl : j < ys.length := by
    rw [hny]; exact (Array.getElem?_eq_some_iff.1 hf).1
  rw [List.getElem?_eq_getElem hjl] at h2
  have hrs : (ys[j]).1 = .lit (.int .i64 z) := by
    have h3 := congrArg (fun q : DataW H × List MemPlace => q.1) hy
    simp only at h3
    rw [hds] at h3
    have h4 : rs = ys.map (·.1) := by injection h3
    rw [h4, List.getElem?_map, List.getElem?_eq_getElem hjl] at hj
    exact Option.some.inj hj
  obtain ⟨z', hcs, hz, _⟩ := DataW.trod_int hu h2
  have hz' : z' = z := by
    have h3 := congrArg (fun q : DataW H × List MemPlace => q.1) hz
    simp only at h3
    rw [hrs] at h3
    injection h3 with h3; injection h3 with _ h3; exact h3.symm
  subst hz'
  rw [hc] at hcs
  have h5 := congrArg (fun l : List Value => l[0]?) hcs
  simp only [List.getElem?_cons_zero, List.getElem?_take, List.getElem?_drop, Nat.add_zero] at h5
  rw [if_pos (by decide), if_pos hofs] at h5
  exact h5
theorem gKinds : Tryz.prog.globalNamed "tempo/frame.kinds" = some 0 := by kernel_rfl
theorem tKinds : (Tryz.prog.globals[0]?).map (·.type) = some 212 := by kernel_rfl
theorem cKind : Tryz.prog.cellsOf 211 = 5 := by kernel_rfl
theorem cInt : Tryz.prog.cellsOf 3 = 1 := by kernel_rfl
abbrev laidKinds : List (String × DataW Unit) := [("tempo/frame.kinds", Rows.laid_tempo_frame_kinds)]
theorem tab_of {W : World} (h : laidMetH Tryz.prog laidKinds W) : Tab W := by
  rw [MakeChecks.laidMetH_plain _ _ _ (by kernel_rfl)] at h
  obtain ⟨ps, ⟨g0, t0, cs0, f0, p0, q0, hg0, ht0, hv0, hd0, _⟩, _, _⟩ := h
  obtain rfl := Option.some.inj (gKinds.symm.trans hg0)
  obtain rfl := Option.some.inj (tKinds.symm.trans ht0)
  unfold Rows.laid_tempo_frame_kinds at hd0
  have key := fun i j {rs fd z} => arr_struct_int (rs := rs) (fd := fd) (z := z) Tryz.underlying212 Tryz.underlying211 hd0 i j cKind
  refine .inr ⟨0, 0, rfl, fun k v hk => ?_⟩
  rw [Nat.zero_add, World.var?_cell hg0 hv0]
  have hc : ∀ (i j : Nat) (z : Int), cs0.toList[i * 5 + j]? = some (.int .i64 z) → tabCells[i * 5 + j]? = some (.int .i64 z) → k = i * 5 + j → cs0[k]? = some v := fun i j z h1 h2 e => by
    subst e
    rw [h2] at hk
    obtain rfl := Option.some.inj hk
    simpa using h1
  have hlen : k < 15 := by
    have := (List.getElem?_eq_some_iff.1 hk).1
    exact this
  rcases (show k = 0 ∨ k = 1 ∨ k = 2 ∨ k = 3 ∨ k = 4 ∨ k = 5 ∨ k = 6 ∨ k = 7 ∨ k = 8 ∨ k = 9 ∨ k = 10 ∨ k = 11 ∨ k = 12 ∨ k = 13 ∨ k = 14 by omega) with e | e | e | e | e | e | e | e | e | e | e | e | e | e | e
  · exact hc 0 0 _ (key 0 0 (by decide) rfl rfl rfl Tryz.underlying3 cInt (by decide)) rfl e
  · exact hc 0 1 _ (key 0 1 (by decide) rfl rfl rfl Tryz.underlying3 cInt (by decide)) rfl e
  · exact hc 0 2 _ (key 0 2 (by decide) rfl rfl rfl Tryz.underlying3 cInt (by decide)) rfl e
  · exact hc 0 3 _ (key 0 3 (by decide) rfl rfl rfl Tryz.underlying3 cInt (by decide)) rfl e
  · exact hc 0 4 _ (key 0 4 (by decide) rfl rfl rfl Tryz.underlying3 cInt (by decide)) rfl e
  · exact hc 1 0 _ (key 1 0 (by decide) rfl rfl rfl Tryz.underlying3 cInt (by decide)) rfl e
  · exact hc 1 1 _ (key 1 1 (by decide) rfl rfl rfl Tryz.underlying3 cInt (by decide)) rfl e
  · exact hc 1 2 _ (key 1 2 (by decide) rfl rfl rfl Tryz.underlying3 cInt (by decide)) rfl e
  · exact hc 1 3 _ (key 1 3 (by decide) rfl rfl rfl Tryz.underlying3 cInt (by decide)) rfl e
  · exact hc 1 4 _ (key 1 4 (by decide) rfl rfl rfl Tryz.underlying3 cInt (by decide)) rfl e
  · exact hc 2 0 _ (key 2 0 (by decide) rfl rfl rfl Tryz.underlying3 cInt (by decide)) rfl e
  · exact hc 2 1 _ (key 2 1 (by decide) rfl rfl rfl Tryz.underlying3 cInt (by decide)) rfl e
  · exact hc 2 2 _ (key 2 2 (by decide) rfl rfl rfl Tryz.underlying3 cInt (by decide)) rfl e
  · exact hc 2 3 _ (key 2 3 (by decide) rfl rfl rfl Tryz.underlying3 cInt (by decide)) rfl e
  · exact hc 2 4 _ (key 2 4 (by decide) rfl rfl rfl Tryz.underlying3 cInt (by decide)) rfl e
theorem door_met (os : Os) (args : Array Value) : laidMetH Tryz.prog laidKinds ((World.doorLaid Tryz.prog 400 os).forCall (fun _ _ => 0) ⟨#[], args, []⟩).memory :=
  laidMetH_of_parts3 (fuel := 8) (laidMet_of_run' 8 (by kernel_rfl) (by kernel_rfl)) (by kernel_rfl) (by kernel_rfl)
end Go.Proofs.YtbkdjfgkebkknaaGreatDoor
