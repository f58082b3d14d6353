import Derived.Test.YtbkdjfgkebkknaaGreatDoorRowJournalNilMg27
import Derived.Test.YtbkdjfgkebkknaaGreatDoorRowJournalNilMg2
import Derived.OpenShut
import Derived.Deep.Matrix
import Derived.Test.YtbkdjfgkebkknaaGreatDoorRowJournalNilMg15
import Derived.Test.YtbkdjfgkebkknaaGreatDoorRows
import Derived.LaidMore
import Derived.LaidHandle
import Derived.MakeChecks
import Derived.FnData
import Derived.ProofKit
/- JournalNil: journals and drives that are nil, or were not made by their packages. -/
namespace Go.Proofs.YtbkdjfgkebkknaaGreatDoor
set_option linter.unusedVariables false
set_option linter.unusedSimpArgs false
open Go Go.RowKit
set_option maxRecDepth 100000
set_option maxHeartbeats 16000000
theorem elemDP : ElemT Tryz.prog 26 (.pointer none) 1 8 := ElemT.of (by kernel_rfl) rfl (by decide)
theorem elemJP : ElemT Tryz.prog 30 (.pointer none) 1 8 := ElemT.of (by kernel_rfl) rfl (by decide)
theorem buildD0 (w : World) : (Instr.build 75 ([] : List (Nat × Value)).toArray).run Tryz.prog w = .ok (.agg #[.pointer none, .bool false, .pointer none, .int .i64 0, .int .i64 0]) w := by
  simp [Instr.build, Tryz.zeroValue75, run_underlying Tryz.underlying75, Value.cells, Instr.fill]
theorem buildJ0 (w : World) : (Instr.build 79 ([] : List (Nat × Value)).toArray).run Tryz.prog w = .ok (.agg #[.pointer none, .int .i64 0, .int .i64 0, .int .i64 0, .int .i64 0, .int .i64 0, .map none]) w := by
  simp [Instr.build, Tryz.zeroValue79, run_underlying Tryz.underlying79, Value.cells, Instr.fill]
attribute [local irreducible] WL WC WN Yl WH WQ WT WE WU WG WV
theorem lnil35_c (first n no ep : Int) (w : World) (hT : Tab w) : Calls Tryz.prog 5 #[.int .i64 first, .int .i64 n, .int .i64 no, .int .i64 ep] w (Gives (Val (.bool true)) w) := by
  refine enter (args := [_, _, _, _]) Tryz.func5 Tryz.ntmps5 rfl rfl ?_
  (repeat (first | refine WL.step (Yl.assign rfl) rfl ?_ | refine WC.seq ?_ | refine WC.region ?_ | refine WL.nil ?_ | refine WN.then_normal ?_))
  refine WL.call (g := 11) Tryz.call11 rfl (fun w0 st2 => dnew_c 20 w0 (by decide) (by decide)) rfl fun v1 B1 hv1 => ?_
  obtain ⟨dp, d0, d0ok, hd0, rfl, rfl⟩ := hv1
  have hd0 : d0.v = zeroV 20 := hd0
  rw [List.append_nil]
  (repeat (first | refine WL.step (Yl.move rfl) rfl ?_ | refine WL.step (Yl.assign rfl) rfl ?_ | refine WL.step (Yl.extract rfl rfl) rfl ?_ | refine WL.step (Yl.neqF rfl rfl rfl) rfl ?_ | refine WC.seq ?_ | refine WC.region ?_ | refine WL.nil ?_ | refine WN.then_normal ?_))
  refine WC.cond_false rfl rfl ?_
  (repeat (first | refine WL.step (Yl.move rfl) rfl ?_ | refine WC.seq ?_ | refine WC.region ?_ | refine WN.then_normal ?_ | refine WC.skip ?_))
  refine WL.call (g := 12) Tryz.call12 rfl (fun w0 st2 => jnew_v 0 20 1 w0 (d0ok.at_ st2 fun x h => h) hd0 (by decide) (by decide) (by simp [zeroV])) rfl fun v1 B1 hv1 => ?_
  obtain ⟨p, s0, s0ok, hs0, rfl, rfl⟩ := hv1
  (repeat (first | refine WL.step (Yl.move rfl) rfl ?_ | refine WL.step (Yl.assign rfl) rfl ?_ | refine WL.step (Yl.extract rfl rfl) rfl ?_ | refine WL.step (Yl.neqF rfl rfl rfl) rfl ?_ | refine WC.seq ?_ | refine WC.region ?_ | refine WL.nil ?_ | refine WN.then_normal ?_))
  refine WC.cond_false rfl rfl ?_
  (repeat (first | refine WL.step (Yl.move rfl) rfl ?_ | refine WL.step (Yl.build (ps := []) (vs := []) rfl buildD0) rfl ?_ | refine WC.seq ?_ | refine WC.region ?_ | refine WN.then_normal ?_ | refine WC.skip ?_))
  refine WL.boxA rfl rfl fun bz => ?_
  skip
  refine WL.lit (t := 76) (vs := [.pointer none, bptr bz]) Tryz.underlying76 elemDP rfl rfl rfl (fun u hu => by simp at hu; rcases hu with rfl | rfl <;> rfl) rfl fun bl => ?_
  rw [show flat [Value.pointer none, bptr bz] = [Value.pointer none, bptr bz] from rfl]
  (repeat (first | refine WL.step (Yl.move rfl) rfl ?_ | refine WL.step (Yl.len (t := 76) Tryz.underlying76 rfl) rfl ?_ | refine WL.nil ?_ | refine WN.then_normal ?_ | refine WC.block ?_))
  refine WC.loop (α := Nat) (fun i => [(0, .int .i64 first), (1, .int .i64 n), (2, .int .i64 no), (3, .int .i64 ep), (10, bptr dp.bd), (12, bptr p.bj), (47, .slice (some ⟨bl, 0, none⟩) 2 2), (48, .int .i64 2), (49, .int .i64 (i : Int))]) (fun _ => .row (some ⟨bl, 0, none⟩) 2 26 1 [.pointer none, bptr bz] :: .blk bz (.cells #[.pointer none, .bool false, .pointer none, .int .i64 0, .int .i64 0] 75 (0, 0)) :: (jI dp.bd p s0 ++ drI dp d0)) (fun i => i ≤ 2) (fun i => 2 - i) 0 (by repeat (first | exact Sub.nil | refine Sub.cons rfl rfl ?_)) (Part.refl _) (Nat.zero_le _) ?_
  intro i hi
  (repeat (first | refine WL.step (Yl.lss rfl rfl) rfl ?_ | refine WC.seq ?_ | refine WC.region ?_ | refine WL.nil ?_ | refine WN.then_normal ?_))
  refine WC.ite rfl (fun h1 => ?_) (fun h1 => ?_)
  · rcases (by omega : i = 0 ∨ i = 1) with rfl | rfl
    · (repeat (first | refine WL.step (Yl.move rfl) rfl ?_ | refine WL.step (Yl.assign rfl) rfl ?_ | refine WL.step (Yl.load (T := 26) (i := 0) (v := .pointer none) Tryz.isAgg26 rfl (Rd.row (vs := [.pointer none, bptr bz]) (.head _)) rfl) rfl ?_ | (refine WL.k_idxa ?_; refine WL.step (Yl.indexAddr1 (t := 76) (j := 0) (n := 2) Tryz.underlying76 Tryz.sizeOf26 rfl rfl (Rd.row (vs := [.pointer none, bptr bz]) (.head _)) (by simp) (by decide)) rfl ?_) | refine WC.seq ?_ | refine WC.region ?_ | refine WL.nil ?_ | refine WN.then_normal ?_ | refine WC.block ?_ | refine WC.skip ?_))
      refine WL.callV (g := 12) (v := .tuple #[.pointer none, .int .i64 1]) Tryz.call12 rfl (fun w0 st2 => jnew_bad (.pointer none) first n ep w0 .none) rfl ?_
      (repeat (first | refine WL.step (Yl.move rfl) rfl ?_ | refine WL.step (Yl.assign rfl) rfl ?_ | refine WL.step (Yl.extract rfl rfl) rfl ?_ | refine WC.seq ?_ | refine WC.region ?_ | refine WL.nil ?_ | refine WN.then_normal ?_))
      refine WL.callV (g := 18) (v := .tuple #[.pointer none, .int .i64 1]) Tryz.call18 rfl (fun w0 st2 => jscan_bad (.pointer none) first n ep w0 .none) rfl ?_
      (repeat (first | refine WL.step (Yl.move rfl) rfl ?_ | refine WL.step (Yl.assign rfl) rfl ?_ | refine WL.step (Yl.extract rfl rfl) rfl ?_ | refine WC.seq ?_ | refine WC.region ?_ | refine WL.nil ?_ | refine WN.then_normal ?_))
      refine WL.callV (g := 20) (v := .tuple #[.pointer none, .int .i64 1]) Tryz.call20 rfl (fun w0 st2 => jon_no (dp := dp) (.pointer none) w0 (s0ok.at_ st2 (fun x h => .tail _ (.tail _ (List.mem_append_left _ h)))) .none) rfl ?_
      (repeat (first | refine WL.want rfl rfl rfl ?_ | refine WL.step (Yl.move rfl) rfl ?_ | refine WL.step (Yl.assign rfl) rfl ?_ | refine WL.step (Yl.extract rfl rfl) rfl ?_ | refine WL.step (Yl.pick_f rfl rfl rfl) rfl ?_ | (refine WL.k_bin .neq ?_; first | refine WL.step (Yl.neqPN (by kernel_rfl) rfl) rfl ?_ | refine WL.step (Yl.neqF rfl rfl rfl) rfl ?_) | refine WC.seq ?_ | refine WC.region ?_ | refine WL.nil ?_ | refine WN.then_normal ?_))
      refine WC.cond_false rfl rfl ?_
      (repeat (first | refine WL.step (Yl.move rfl) rfl ?_ | (refine WL.k_bin .add ?_; refine WL.step (Yl.add64C rfl (by omega)) rfl ?_) | refine WC.region ?_ | refine WL.nil ?_ | refine WN.then_normal ?_ | refine WC.skip ?_ | refine WN.block_normal ?_))
      exact WN.next 1 (by decide) (by decide) (by repeat (first | exact Sub.nil | refine Sub.cons rfl rfl ?_)) (Part.refl _)
    · (repeat (first | refine WL.step (Yl.move rfl) rfl ?_ | refine WL.step (Yl.assign rfl) rfl ?_ | refine WL.step (Yl.load (T := 26) (i := 1) (v := bptr bz) Tryz.isAgg26 rfl (Rd.row (vs := [.pointer none, bptr bz]) (.head _)) rfl) rfl ?_ | (refine WL.k_idxa ?_; refine WL.step (Yl.indexAddr1 (t := 76) (j := 1) (n := 2) Tryz.underlying76 Tryz.sizeOf26 rfl rfl (Rd.row (vs := [.pointer none, bptr bz]) (.head _)) (by simp) (by decide)) rfl ?_) | refine WC.seq ?_ | refine WC.region ?_ | refine WL.nil ?_ | refine WN.then_normal ?_ | refine WC.block ?_ | refine WC.skip ?_))
      refine WL.callV (g := 12) (v := .tuple #[.pointer none, .int .i64 1]) Tryz.call12 rfl (fun w0 st2 => jnew_bad (bptr bz) first n ep w0 (.zero bz (st2.holds _ (.tail _ (.head _))))) rfl ?_
      (repeat (first | refine WL.step (Yl.move rfl) rfl ?_ | refine WL.step (Yl.assign rfl) rfl ?_ | refine WL.step (Yl.extract rfl rfl) rfl ?_ | refine WC.seq ?_ | refine WC.region ?_ | refine WL.nil ?_ | refine WN.then_normal ?_))
      refine WL.callV (g := 18) (v := .tuple #[.pointer none, .int .i64 1]) Tryz.call18 rfl (fun w0 st2 => jscan_bad (bptr bz) first n ep w0 (.zero bz (st2.holds _ (.tail _ (.head _))))) rfl ?_
      (repeat (first | refine WL.step (Yl.move rfl) rfl ?_ | refine WL.step (Yl.assign rfl) rfl ?_ | refine WL.step (Yl.extract rfl rfl) rfl ?_ | refine WC.seq ?_ | refine WC.region ?_ | refine WL.nil ?_ | refine WN.then_normal ?_))
      refine WL.callV (g := 20) (v := .tuple #[.pointer none, .int .i64 1]) Tryz.call20 rfl (fun w0 st2 => jon_no (dp := dp) (bptr bz) w0 (s0ok.at_ st2 (fun x h => .tail _ (.tail _ (List.mem_append_left _ h)))) (.zero bz (st2.holds _ (.tail _ (.head _))))) rfl ?_
      (repeat (first | refine WL.want rfl rfl rfl ?_ | refine WL.step (Yl.move rfl) rfl ?_ | refine WL.step (Yl.assign rfl) rfl ?_ | refine WL.step (Yl.extract rfl rfl) rfl ?_ | refine WL.step (Yl.pick_f rfl rfl rfl) rfl ?_ | (refine WL.k_bin .neq ?_; first | refine WL.step (Yl.neqPN (by kernel_rfl) rfl) rfl ?_ | refine WL.step (Yl.neqF rfl rfl rfl) rfl ?_) | refine WC.seq ?_ | refine WC.region ?_ | refine WL.nil ?_ | refine WN.then_normal ?_))
      refine WC.cond_false rfl rfl ?_
      (repeat (first | refine WL.step (Yl.move rfl) rfl ?_ | (refine WL.k_bin .add ?_; refine WL.step (Yl.add64C rfl (by omega)) rfl ?_) | refine WC.region ?_ | refine WL.nil ?_ | refine WN.then_normal ?_ | refine WC.skip ?_ | refine WN.block_normal ?_))
      exact WN.next 2 (by decide) (by decide) (by repeat (first | exact Sub.nil | refine Sub.cons rfl rfl ?_)) (Part.refl _)
  · obtain rfl : i = 2 := by omega
    (repeat (first | refine WL.step (Yl.move rfl) rfl ?_ | refine WL.step (Yl.assign rfl) rfl ?_ | refine WL.step (Yl.build (ps := []) (vs := []) rfl buildJ0) rfl ?_ | refine WC.seq ?_ | refine WC.region ?_ | refine WL.nil ?_ | refine WN.then_normal ?_ | refine WC.exit ?_ | refine WN.then_exit ?_ | refine WN.block_here ?_))
    refine WL.boxA rfl rfl fun by_ => ?_
    skip
    refine WL.lit (t := 80) (vs := [.pointer none, bptr by_]) Tryz.underlying80 elemJP rfl rfl rfl (fun u hu => by simp at hu; rcases hu with rfl | rfl <;> rfl) rfl fun bm => ?_
    rw [show flat [Value.pointer none, bptr by_] = [Value.pointer none, bptr by_] from rfl]
    (repeat (first | refine WL.step (Yl.move rfl) rfl ?_ | refine WL.step (Yl.len (t := 80) Tryz.underlying80 rfl) rfl ?_ | refine WL.nil ?_ | refine WN.then_normal ?_ | refine WC.block ?_))
    refine WC.loop (α := Nat) (fun i => [(2, .int .i64 no), (10, bptr dp.bd), (101, .slice (some ⟨bm, 0, none⟩) 2 2), (102, .int .i64 2), (103, .int .i64 (i : Int))]) (fun _ => [.row (some ⟨bm, 0, none⟩) 2 30 1 [.pointer none, bptr by_], .blk by_ zeroJ]) (fun i => i ≤ 2) (fun i => 2 - i) 0 (by repeat (first | exact Sub.nil | refine Sub.cons rfl rfl ?_)) (.cons .here (.cons .here .nil)) (Nat.zero_le _) ?_
    intro i hi
    (repeat (first | refine WL.step (Yl.lss rfl rfl) rfl ?_ | refine WC.seq ?_ | refine WC.region ?_ | refine WL.nil ?_ | refine WN.then_normal ?_))
    refine WC.ite rfl (fun h1 => ?_) (fun h1 => ?_)
    · rcases (by omega : i = 0 ∨ i = 1) with rfl | rfl
      · (repeat (first | refine WL.step (Yl.move rfl) rfl ?_ | refine WL.step (Yl.assign rfl) rfl ?_ | refine WL.step (Yl.load (T := 30) (i := 0) (v := .pointer none) Tryz.isAgg30 rfl (Rd.row (vs := [.pointer none, bptr by_]) (.head _)) rfl) rfl ?_ | (refine WL.k_idxa ?_; refine WL.step (Yl.indexAddr1 (t := 80) (j := 0) (n := 2) Tryz.underlying80 Tryz.sizeOf30 rfl rfl (Rd.row (vs := [.pointer none, bptr by_]) (.head _)) (by simp) (by decide)) rfl ?_) | refine WC.seq ?_ | refine WC.region ?_ | refine WL.nil ?_ | refine WN.then_normal ?_ | refine WC.block ?_ | refine WC.skip ?_))
        refine WL.callV (g := 33) (v := .tuple #[.slice none 0 0, .bool false, .int .i64 1]) Tryz.call33 rfl (fun w0 st2 => jget_bad (.pointer none) no w0 .none) rfl ?_
        (repeat (first | refine WL.step (Yl.move rfl) rfl ?_ | refine WL.step (Yl.assign rfl) rfl ?_ | refine WL.step (Yl.extract rfl rfl) rfl ?_ | refine WC.seq ?_ | refine WC.region ?_ | refine WL.nil ?_ | refine WN.then_normal ?_))
        refine WL.callV (g := 15) (v := .tuple #[.bool false, .bool false]) Tryz.call15 rfl (fun w0 st2 => jfits_bad (.pointer none) 1 w0 .none) rfl ?_
        (repeat (first | refine WL.step (Yl.move rfl) rfl ?_ | refine WL.step (Yl.assign rfl) rfl ?_ | refine WL.step (Yl.extract rfl rfl) rfl ?_ | refine WC.seq ?_ | refine WC.region ?_ | refine WL.nil ?_ | refine WN.then_normal ?_))
        refine WL.callV (g := 20) (v := .tuple #[.pointer none, .int .i64 1]) Tryz.call20 rfl (fun w0 st2 => jon_bad (.pointer none) (bptr dp.bd) ⟨_, rfl⟩ w0 .none) rfl ?_
        (repeat (first | refine WL.step (Yl.move rfl) rfl ?_ | refine WL.step (Yl.assign rfl) rfl ?_ | refine WL.step (Yl.extract rfl rfl) rfl ?_ | refine WC.seq ?_ | refine WC.region ?_ | refine WL.nil ?_ | refine WN.then_normal ?_))
        refine WL.callV (g := 16) (v := .int .i64 1) Tryz.call16 rfl (fun w0 st2 => jappend_bad (.pointer none) none 0 0 w0 .none) rfl ?_
        (repeat (first | refine WL.want rfl rfl rfl ?_ | refine WL.step (Yl.move rfl) rfl ?_ | refine WL.step (Yl.pick_f rfl rfl rfl) rfl ?_ | (refine WL.k_bin .neq ?_; first | refine WL.step (Yl.neqF rfl rfl rfl) rfl ?_ | refine WL.step (Yl.neqPN (by kernel_rfl) rfl) rfl ?_) | refine WL.step (Yl.len (t := 23) (n := 0) Tryz.underlying23 rfl) rfl ?_))
        refine WL.callV (g := 34) (v := .slice none 0 0) Tryz.call34 rfl (fun w0 st2 => jpages_bad (.pointer none) w0 .none) rfl ?_
        (repeat (first | refine WL.want rfl rfl rfl ?_ | refine WL.step (Yl.move rfl) rfl ?_ | refine WL.step (Yl.pick_f rfl rfl rfl) rfl ?_ | refine WL.step (Yl.neqF rfl rfl rfl) rfl ?_ | refine WL.step (Yl.len (t := 61) (n := 0) Tryz.underlying61 rfl) rfl ?_))
        refine WL.callV (g := 35) (v := .int .i64 0) Tryz.call35 rfl (fun w0 st2 => jtx_bad (.pointer none) w0 .none) rfl ?_
        (repeat (first | refine WL.want rfl rfl rfl ?_ | refine WL.step (Yl.move rfl) rfl ?_ | refine WL.step (Yl.pick_f rfl rfl rfl) rfl ?_ | refine WL.step (Yl.neqF rfl rfl rfl) rfl ?_))
        refine WL.callV (g := 36) (v := .int .i64 0) Tryz.call36 rfl (fun w0 st2 => jused_bad (.pointer none) w0 .none) rfl ?_
        (repeat (first | refine WL.want rfl rfl rfl ?_ | refine WL.step (Yl.move rfl) rfl ?_ | refine WL.step (Yl.pick_f rfl rfl rfl) rfl ?_ | refine WL.step (Yl.neqF rfl rfl rfl) rfl ?_))
        refine WL.callV (g := 22) (v := .int .i64 0) Tryz.call22 rfl (fun w0 st2 => jep_bad (.pointer none) w0 .none) rfl ?_
        (repeat (first | refine WL.want rfl rfl rfl ?_ | refine WL.step (Yl.pick_f rfl rfl rfl) rfl ?_ | refine WL.step (Yl.neqF rfl rfl rfl) rfl ?_ | refine WL.nil ?_ | refine WN.then_normal ?_))
        refine WC.cond_false rfl rfl ?_
        (repeat (first | refine WL.step (Yl.move rfl) rfl ?_ | (refine WL.k_bin .add ?_; refine WL.step (Yl.add64C rfl (by omega)) rfl ?_) | refine WC.region ?_ | refine WL.nil ?_ | refine WN.then_normal ?_ | refine WC.skip ?_ | refine WN.block_normal ?_))
        exact WN.next 1 (by decide) (by decide) (by repeat (first | exact Sub.nil | refine Sub.cons rfl rfl ?_)) (Part.refl _)
      · (repeat (first | refine WL.step (Yl.move rfl) rfl ?_ | refine WL.step (Yl.assign rfl) rfl ?_ | refine WL.step (Yl.load (T := 30) (i := 1) (v := bptr by_) Tryz.isAgg30 rfl (Rd.row (vs := [.pointer none, bptr by_]) (.head _)) rfl) rfl ?_ | (refine WL.k_idxa ?_; refine WL.step (Yl.indexAddr1 (t := 80) (j := 1) (n := 2) Tryz.underlying80 Tryz.sizeOf30 rfl rfl (Rd.row (vs := [.pointer none, bptr by_]) (.head _)) (by simp) (by decide)) rfl ?_) | refine WC.seq ?_ | refine WC.region ?_ | refine WL.nil ?_ | refine WN.then_normal ?_ | refine WC.block ?_ | refine WC.skip ?_))
        refine WL.callV (g := 33) (v := .tuple #[.slice none 0 0, .bool false, .int .i64 1]) Tryz.call33 rfl (fun w0 st2 => jget_bad (bptr by_) no w0 (.zero by_ (st2.holds _ (.tail _ (.head _))))) rfl ?_
        (repeat (first | refine WL.step (Yl.move rfl) rfl ?_ | refine WL.step (Yl.assign rfl) rfl ?_ | refine WL.step (Yl.extract rfl rfl) rfl ?_ | refine WC.seq ?_ | refine WC.region ?_ | refine WL.nil ?_ | refine WN.then_normal ?_))
        refine WL.callV (g := 15) (v := .tuple #[.bool false, .bool false]) Tryz.call15 rfl (fun w0 st2 => jfits_bad (bptr by_) 1 w0 (.zero by_ (st2.holds _ (.tail _ (.head _))))) rfl ?_
        (repeat (first | refine WL.step (Yl.move rfl) rfl ?_ | refine WL.step (Yl.assign rfl) rfl ?_ | refine WL.step (Yl.extract rfl rfl) rfl ?_ | refine WC.seq ?_ | refine WC.region ?_ | refine WL.nil ?_ | refine WN.then_normal ?_))
        refine WL.callV (g := 20) (v := .tuple #[.pointer none, .int .i64 1]) Tryz.call20 rfl (fun w0 st2 => jon_bad (bptr by_) (bptr dp.bd) ⟨_, rfl⟩ w0 (.zero by_ (st2.holds _ (.tail _ (.head _))))) rfl ?_
        (repeat (first | refine WL.step (Yl.move rfl) rfl ?_ | refine WL.step (Yl.assign rfl) rfl ?_ | refine WL.step (Yl.extract rfl rfl) rfl ?_ | refine WC.seq ?_ | refine WC.region ?_ | refine WL.nil ?_ | refine WN.then_normal ?_))
        refine WL.callV (g := 16) (v := .int .i64 1) Tryz.call16 rfl (fun w0 st2 => jappend_bad (bptr by_) none 0 0 w0 (.zero by_ (st2.holds _ (.tail _ (.head _))))) rfl ?_
        (repeat (first | refine WL.want rfl rfl rfl ?_ | refine WL.step (Yl.move rfl) rfl ?_ | refine WL.step (Yl.pick_f rfl rfl rfl) rfl ?_ | (refine WL.k_bin .neq ?_; first | refine WL.step (Yl.neqF rfl rfl rfl) rfl ?_ | refine WL.step (Yl.neqPN (by kernel_rfl) rfl) rfl ?_) | refine WL.step (Yl.len (t := 23) (n := 0) Tryz.underlying23 rfl) rfl ?_))
        refine WL.callV (g := 34) (v := .slice none 0 0) Tryz.call34 rfl (fun w0 st2 => jpages_bad (bptr by_) w0 (.zero by_ (st2.holds _ (.tail _ (.head _))))) rfl ?_
        (repeat (first | refine WL.want rfl rfl rfl ?_ | refine WL.step (Yl.move rfl) rfl ?_ | refine WL.step (Yl.pick_f rfl rfl rfl) rfl ?_ | refine WL.step (Yl.neqF rfl rfl rfl) rfl ?_ | refine WL.step (Yl.len (t := 61) (n := 0) Tryz.underlying61 rfl) rfl ?_))
        refine WL.callV (g := 35) (v := .int .i64 0) Tryz.call35 rfl (fun w0 st2 => jtx_bad (bptr by_) w0 (.zero by_ (st2.holds _ (.tail _ (.head _))))) rfl ?_
        (repeat (first | refine WL.want rfl rfl rfl ?_ | refine WL.step (Yl.move rfl) rfl ?_ | refine WL.step (Yl.pick_f rfl rfl rfl) rfl ?_ | refine WL.step (Yl.neqF rfl rfl rfl) rfl ?_))
        refine WL.callV (g := 36) (v := .int .i64 0) Tryz.call36 rfl (fun w0 st2 => jused_bad (bptr by_) w0 (.zero by_ (st2.holds _ (.tail _ (.head _))))) rfl ?_
        (repeat (first | refine WL.want rfl rfl rfl ?_ | refine WL.step (Yl.move rfl) rfl ?_ | refine WL.step (Yl.pick_f rfl rfl rfl) rfl ?_ | refine WL.step (Yl.neqF rfl rfl rfl) rfl ?_))
        refine WL.callV (g := 22) (v := .int .i64 0) Tryz.call22 rfl (fun w0 st2 => jep_bad (bptr by_) w0 (.zero by_ (st2.holds _ (.tail _ (.head _))))) rfl ?_
        (repeat (first | refine WL.want rfl rfl rfl ?_ | refine WL.step (Yl.pick_f rfl rfl rfl) rfl ?_ | refine WL.step (Yl.neqF rfl rfl rfl) rfl ?_ | refine WL.nil ?_ | refine WN.then_normal ?_))
        refine WC.cond_false rfl rfl ?_
        (repeat (first | refine WL.step (Yl.move rfl) rfl ?_ | (refine WL.k_bin .add ?_; refine WL.step (Yl.add64C rfl (by omega)) rfl ?_) | refine WC.region ?_ | refine WL.nil ?_ | refine WN.then_normal ?_ | refine WC.skip ?_ | refine WN.block_normal ?_))
        exact WN.next 2 (by decide) (by decide) (by repeat (first | exact Sub.nil | refine Sub.cons rfl rfl ?_)) (Part.refl _)
    · obtain rfl : i = 2 := by omega
      (repeat (first | refine WC.seq ?_ | refine WC.region ?_ | refine WN.then_normal ?_ | refine WC.exit ?_ | refine WN.then_exit ?_ | refine WN.block_here ?_))
      refine WL.callV (g := 23) (v := .bool true) Tryz.call23 rfl (fun w0 st2 => works35_c w0 (hT.keep st2.kept)) rfl ?_
      (repeat (first | refine WL.step (Yl.assign rfl) rfl ?_ | refine WL.nil ?_ | refine WN.then_normal ?_ | refine WC.ret ?_))
      exact WN.ret1 rfl rfl ⟨rfl, rfl⟩ .nil
end Go.Proofs.YtbkdjfgkebkknaaGreatDoor
/- From what a row's proof knows of the arguments to what the contracts ask. -/
namespace Go.Proofs.YtbkdjfgkebkknaaGreatDoor
set_option linter.unusedVariables false
set_option linter.unusedSimpArgs false
open Go Go.RowKit
theorem good {w w' : World} {e : Ending} (h : Gives (Val (.bool true)) w e w') : e = .returned (.bool true) ∧ Below w.heap.size w w' := by
  obtain ⟨v, B, rfl, ⟨rfl, rfl⟩, s⟩ := h
  exact ⟨rfl, s.below⟩
theorem wf_u8 {n : Int} (h : (Lit.int .u8 n).wf = true) : 0 ≤ n ∧ n < 256 := by
  simp [Lit.wf, IntKind.min, IntKind.max, IntKind.signed, IntKind.bits] at h; omega
theorem wf_u16 {n : Int} (h : (Lit.int .u16 n).wf = true) : ∃ m : Nat, n = (m : Int) ∧ m < 65536 := by
  simp [Lit.wf, IntKind.min, IntKind.max, IntKind.signed, IntKind.bits] at h; exact ⟨n.toNat, by omega, by omega⟩
theorem wf_u32 {n : Int} (h : (Lit.int .u32 n).wf = true) : ∃ m : Nat, n = (m : Int) ∧ m < 4294967296 := by
  simp [Lit.wf, IntKind.min, IntKind.max, IntKind.signed, IntKind.bits] at h; exact ⟨n.toNat, by omega, by omega⟩
theorem wf_u64 {n : Int} (h : (Lit.int .u64 n).wf = true) : ∃ m : Nat, n = (m : Int) ∧ m < 18446744073709551616 := by
  simp [Lit.wf, IntKind.min, IntKind.max, IntKind.signed, IntKind.bits] at h; exact ⟨n.toNat, by omega, by omega⟩
theorem wf_i64 {n : Int} (h : (Lit.int .i64 n).wf = true) : -9223372036854775808 ≤ n ∧ n ≤ 9223372036854775807 := by
  simp [Lit.wf, IntKind.min, IntKind.max, IntKind.signed, IntKind.bits] at h; omega
theorem wf_byte {n : Int} (h : (Lit.int .u8 n).wf = true) : ∃ c : UInt8, n = (c.toNat : Int) := by
  have := wf_u8 h
  have e := UInt8.toNat_ofNat_of_lt' (show n.toNat < UInt8.size by simp only [UInt8.size]; omega)
  exact ⟨UInt8.ofNat n.toNat, by rw [e]; omega⟩
/-- A slice of bytes that came in. -/
theorem bytes_in {w : World} {a : Option Addr} {len cap : Nat} {zs : List Int}
    (h : (a = none ∧ len = 0 ∧ cap = 0 ∧ zs = []) ∨ ∃ x, a = some x ∧ len ≤ cap ∧ cap ≤ maxLen ∧ zs.length = cap ∧ (∀ i, i < zs.length → w.cell? (x.add i) = some (.int .u8 (zs.getD i 0))) ∧ ∀ n ∈ zs, (Lit.int .u8 n).wf = true) :
    ∃ l : List UInt8, l.length = len ∧ len ≤ cap ∧ cap ≤ 9223372036854775807 ∧ CellsAt w a (bs l) := by
  rcases h with ⟨rfl, rfl, rfl, rfl⟩ | ⟨x, rfl, hl, hm, hz, hc, hw⟩
  · exact ⟨[], rfl, Nat.le_refl _, by omega, .nil _ _⟩
  · refine ⟨(zs.take len).map fun n => UInt8.ofNat n.toNat, by simp; omega, hl, by simpa [maxLen] using hm, ?_⟩
    by_cases h0 : len = 0
    · subst h0; exact .inl (by simp [bs])
    · have hx := hc 0 (by rw [hz]; omega)
      obtain ⟨b, off, spot⟩ := x
      have hspot : spot = none := by simpa [Addr.add] using World.cell?_spot hx
      subst hspot
      refine .inr ⟨b, off, rfl, fun i v hv => ?_⟩
      have hi : i < len := by
        have := (List.getElem?_eq_some_iff.1 hv).1
        simp [bs] at this; omega
      have hiz : i < zs.length := by rw [hz]; omega
      have hci := hc i hiz
      have ea : (⟨b, off, none⟩ : Addr).add i = ⟨b, off + i, none⟩ := by unfold Addr.add; split <;> simp_all
      rw [ea] at hci
      rw [hci, ← hv]
      have hwf := wf_u8 (hw zs[i] (List.getElem_mem hiz))
      simp only [bs, List.map_map, List.getElem?_map, List.getElem?_take, hi, if_true, List.getElem?_eq_getElem hiz, Option.map_some, Function.comp, bv, List.getD_eq_getElem?_getD, Option.getD_some]
      have e := UInt8.toNat_ofNat_of_lt' (show zs[i].toNat < UInt8.size by simp only [UInt8.size]; omega)
      rw [e]
      congr 2; omega
/-- A row of bytes, as a cell of a row of rows has it. -/
theorem bytes_at {w : World} {a : Option Addr} {n c : Nat} {zs : List Int} (hnc : n ≤ c) (hz : zs.length = c) (hw : ∀ n ∈ zs, (Lit.int .u8 n).wf = true) (hn : a = none → c = 0)
    (hc : ∀ x, a = some x → ∀ i, i < c → w.cell? (x.add i) = some (.int .u8 (zs.getD i 0))) : ∃ l : List UInt8, l.length = n ∧ CellsAt w a (bs l) := by
  refine ⟨(zs.take n).map fun n => UInt8.ofNat n.toNat, by simp; omega, ?_⟩
  cases a with
  | none =>
    have := hn rfl
    obtain rfl : n = 0 := by omega
    exact .inl (by simp [bs])
  | some x =>
    by_cases h0 : n = 0
    · subst h0; exact .inl (by simp [bs])
    · have hx := hc x rfl 0 (by omega)
      obtain ⟨b, off, spot⟩ := x
      have hspot : spot = none := by simpa [Addr.add] using World.cell?_spot hx
      subst hspot
      refine .inr ⟨b, off, rfl, fun i v hv => ?_⟩
      have hi : i < n := by
        have := (List.getElem?_eq_some_iff.1 hv).1
        simp [bs] at this; omega
      have hiz : i < zs.length := by rw [hz]; omega
      have hci := hc _ rfl i (by omega)
      have ea : (⟨b, off, none⟩ : Addr).add i = ⟨b, off + i, none⟩ := by unfold Addr.add; split <;> simp_all
      rw [ea] at hci
      rw [hci, ← hv]
      have hwf := wf_u8 (hw zs[i] (List.getElem_mem hiz))
      simp only [bs, List.map_map, List.getElem?_map, List.getElem?_take, hi, if_true, List.getElem?_eq_getElem hiz, Option.map_some, Function.comp, bv, List.getD_eq_getElem?_getD, Option.getD_some]
      have e := UInt8.toNat_ofNat_of_lt' (show zs[i].toNat < UInt8.size by simp only [UInt8.size]; omega)
      rw [e]
      congr 2; omega
/-- A slice of slices of bytes. -/
def Deep (w : World) (a : Option Addr) (n : Nat) (vs : List Value) : Prop :=
  vs.length = n ∧ n ≤ 9223372036854775807 ∧ CellsAt w a vs ∧ ∀ (i : Nat) (v : Value), vs[i]? = some v → ∃ (b : Option Addr) (m c : Nat) (l : List UInt8), v = Value.slice b m c ∧ l.length = m ∧ m ≤ c ∧ c ≤ 9223372036854775807 ∧ CellsAt w b (bs l)
theorem deep_in {H : Type} {enc : TypeId × Value → H} {P : Program} {w : World} {t e q : TypeId} {fuel n cap : Nat} {a : Option Addr} {x : DataW H × List MemPlace} (ht : P.underlying t = some (.slice e)) (he : P.underlying e = some (.slice q)) (hq : P.underlying q = some (.int .u8))
    (ce : P.cellsOf e = 1) (cq : P.cellsOf q = 1) (h : DataW.trod enc P w 0 (fun _ => true) true fuel t [.slice a n cap] = some x) : ∃ vs, Deep w a n vs := by
  rcases Go.Deep.open_int_rows ht he hq ce cq h with ⟨hcs, _⟩ | ⟨b, l, c, A, L, C, Z, hcs, _, hl, hm, _, hx⟩
  · simp at hcs
    obtain ⟨rfl, rfl, rfl⟩ := hcs
    exact ⟨[], rfl, by omega, .nil _ _, fun i v hv => by simp at hv⟩
  · simp at hcs
    obtain ⟨rfl, rfl, rfl⟩ := hcs
    refine ⟨(List.range n).map fun r => .slice (A r) (L r) (C r), by simp, ?_, ?_, fun i v hv => ?_⟩
    · simp only [maxLen] at hm; omega
    · by_cases h0 : n = 0
      · subst h0; exact .inl rfl
      · have h1 := (hx 0 (by omega)).1
        obtain ⟨b, off, spot⟩ := b
        have hspot : spot = none := by simpa [Addr.add] using World.cell?_spot h1
        subst hspot
        refine .inr ⟨b, off, rfl, fun i v hv => ?_⟩
        have ea : (⟨b, off, none⟩ : Addr).add i = ⟨b, off + i, none⟩ := by unfold Addr.add; split <;> simp_all
        simp only [List.getElem?_map, Option.map_eq_some_iff] at hv
        obtain ⟨j, hj, rfl⟩ := hv
        have hjn := List.getElem?_eq_some_iff.1 hj
        simp at hjn
        obtain ⟨hlt, rfl⟩ := hjn
        have h2 := (hx i (by omega)).1
        rw [ea] at h2
        exact h2
    · simp only [List.getElem?_map, Option.map_eq_some_iff] at hv
      obtain ⟨j, hj, rfl⟩ := hv
      have hjn := List.getElem?_eq_some_iff.1 hj
      simp at hjn
      obtain ⟨hlt, rfl⟩ := hjn
      obtain ⟨_, h2, h3, h4, h5, h6, h7⟩ := hx i (by omega)
      obtain ⟨l, hl1, hl2⟩ := bytes_at h2 h4 h5 h6 (fun a' ha c hc => (h7 a' ha).2 c hc)
      exact ⟨A i, L i, C i, l, rfl, hl1, h2, by simpa [maxLen] using h3, hl2⟩
end Go.Proofs.YtbkdjfgkebkknaaGreatDoor
/- What the rows know: the table of kinds lies in memory. -/
namespace Go.Proofs.YtbkdjfgkebkknaaGreatDoor
set_option linter.unusedVariables false
set_option linter.unusedSimpArgs false
open Go Go.RowKit Go.ChangeShapes Go.WideShapes Go.ChangeAt
/-- A number in an array of structs, by what the array reads as. -/
theorem arr_struct_int {H : Type} {enc : TypeId × Value → H} {P : Program} {w : World} {base : Nat} {sp : Nat → Bool} {held : Bool} {fuel : Nat} {t e : TypeId} {n : Nat} {fs : Array Field} {cs : List Value} {ds : List (DataW H)} {p : List MemPlace}
    (ht : P.underlying t = some (.array n e)) (he : P.underlying e = some (.struct fs)) (h : DataW.trod enc P w base sp held fuel t cs = some (.agg ds, p)) (i j : Nat) {rs : List (DataW H)} {fd : Field} {z : Int} {k : Nat} (hk : P.cellsOf e = k)
    (hin : i < n) (hi : ds[i]? = some (.agg rs)) (hf : fs[j]? = some fd) (hj : rs[j]? = some (.lit (.int .i64 z))) (hu : P.underlying fd.type = some (.int .i64)) (hc : P.cellsOf fd.type = 1) (hofs : fd.offset < k) : cs[i * k + fd.offset]? = some (.int .i64 z) := by
  subst hk
  obtain ⟨xs, m, _, hx, _, hn, hel⟩ := DataW.trod_array ht h
  have hlt : i < xs.length := by omega
  have h1 := hel i hin
  rw [List.getElem?_eq_getElem hlt] at h1
  have hds : (xs[i]).1 = .agg rs := by
    have : ds = xs.map (·.1) := by have := congrArg (fun q : DataW H × List MemPlace => match q.1 with | .agg l => l | _ => []) hx; exact this
    rw [this, List.getElem?_map, List.getElem?_eq_getElem hlt] at hi
    exact Option.some.inj hi
  obtain ⟨ys, m2, _, hy, _, hny, hf2⟩ := DataW.trod_struct he h1
  have h2 := hf2 j fd hf
  have hjl : j < ys.length := by
    rw [hny]; exact (Array.getElem?_eq_some_iff.1 hf).1
  rw [List.getElem?_eq_getElem hjl] at h2
  have hrs : (ys[j]).1 = .lit (.int .i64 z) := by
    have h3 := congrArg (fun q : DataW H × List MemPlace => q.1) hy
    simp only at h3
    rw [hds] at h3
    have h4 : rs = ys.map (·.1) := by injection h3
    rw [h4, List.getElem?_map, List.getElem?_eq_getElem hjl] at hj
    exact Option.some.inj hj
  obtain ⟨z', hcs, hz, _⟩ := DataW.trod_int hu h2
  have hz' : z' = z := by
    have h3 := congrArg (fun q : DataW H × List MemPlace => q.1) hz
    simp only at h3
    rw [hrs] at h3
    injection h3 with h3; injection h3 with _ h3; exact h3.symm
  subst hz'
  rw [hc] at hcs
  have h5 := congrArg (fun l : List Value => l[0]?) hcs
  simp only [List.getElem?_cons_zero, List.getElem?_take, List.getElem?_drop, Nat.add_zero] at h5
  rw [if_pos (by decide), if_pos hofs] at h5
  exact h5
theorem gKinds : Tryz.prog.globalNamed "tempo/frame.kinds" = some 0 := by kernel_rfl
theorem tKinds : (Tryz.prog.globals[0]?).map (·.type) = some 212 := by kernel_rfl
theorem cKind : Tryz.prog.cellsOf 211 = 5 := by kernel_rfl
theorem cInt : Tryz.prog.cellsOf 3 = 1 := by kernel_rfl
abbrev laidKinds : List (String × DataW Unit) := [("tempo/frame.kinds", Rows.laid_tempo_frame_kinds)]
/-- The table lies in memory as the program's text lays it. -/
theorem tab_of {W : World} (h : laidMetH Tryz.prog laidKinds W) : Tab W := by
  rw [MakeChecks.laidMetH_plain _ _ _ (by kernel_rfl)] at h
  obtain ⟨ps, ⟨g0, t0, cs0, f0, p0, q0, hg0, ht0, hv0, hd0, _⟩, _, _⟩ := h
  obtain rfl := Option.some.inj (gKinds.symm.trans hg0)
  obtain rfl := Option.some.inj (tKinds.symm.trans ht0)
  unfold Rows.laid_tempo_frame_kinds at hd0
  have key := fun i j {rs fd z} => arr_struct_int (rs := rs) (fd := fd) (z := z) Tryz.underlying212 Tryz.underlying211 hd0 i j cKind
  refine .inr ⟨0, 0, rfl, fun k v hk => ?_⟩
  rw [Nat.zero_add, World.var?_cell hg0 hv0]
  have hc : ∀ (i j : Nat) (z : Int), cs0.toList[i * 5 + j]? = some (.int .i64 z) → tabCells[i * 5 + j]? = some (.int .i64 z) → k = i * 5 + j → cs0[k]? = some v := fun i j z h1 h2 e => by
    subst e
    rw [h2] at hk
    obtain rfl := Option.some.inj hk
    simpa using h1
  have hlen : k < 15 := by
    have := (List.getElem?_eq_some_iff.1 hk).1
    exact this
  rcases (show k = 0 ∨ k = 1 ∨ k = 2 ∨ k = 3 ∨ k = 4 ∨ k = 5 ∨ k = 6 ∨ k = 7 ∨ k = 8 ∨ k = 9 ∨ k = 10 ∨ k = 11 ∨ k = 12 ∨ k = 13 ∨ k = 14 by omega) with e | e | e | e | e | e | e | e | e | e | e | e | e | e | e
  · exact hc 0 0 _ (key 0 0 (by decide) rfl rfl rfl Tryz.underlying3 cInt (by decide)) rfl e
  · exact hc 0 1 _ (key 0 1 (by decide) rfl rfl rfl Tryz.underlying3 cInt (by decide)) rfl e
  · exact hc 0 2 _ (key 0 2 (by decide) rfl rfl rfl Tryz.underlying3 cInt (by decide)) rfl e
  · exact hc 0 3 _ (key 0 3 (by decide) rfl rfl rfl Tryz.underlying3 cInt (by decide)) rfl e
  · exact hc 0 4 _ (key 0 4 (by decide) rfl rfl rfl Tryz.underlying3 cInt (by decide)) rfl e
  · exact hc 1 0 _ (key 1 0 (by decide) rfl rfl rfl Tryz.underlying3 cInt (by decide)) rfl e
  · exact hc 1 1 _ (key 1 1 (by decide) rfl rfl rfl Tryz.underlying3 cInt (by decide)) rfl e
  · exact hc 1 2 _ (key 1 2 (by decide) rfl rfl rfl Tryz.underlying3 cInt (by decide)) rfl e
  · exact hc 1 3 _ (key 1 3 (by decide) rfl rfl rfl Tryz.underlying3 cInt (by decide)) rfl e
  · exact hc 1 4 _ (key 1 4 (by decide) rfl rfl rfl Tryz.underlying3 cInt (by decide)) rfl e
  · exact hc 2 0 _ (key 2 0 (by decide) rfl rfl rfl Tryz.underlying3 cInt (by decide)) rfl e
  · exact hc 2 1 _ (key 2 1 (by decide) rfl rfl rfl Tryz.underlying3 cInt (by decide)) rfl e
  · exact hc 2 2 _ (key 2 2 (by decide) rfl rfl rfl Tryz.underlying3 cInt (by decide)) rfl e
  · exact hc 2 3 _ (key 2 3 (by decide) rfl rfl rfl Tryz.underlying3 cInt (by decide)) rfl e
  · exact hc 2 4 _ (key 2 4 (by decide) rfl rfl rfl Tryz.underlying3 cInt (by decide)) rfl e
/-- The door's own heap meets the condition. -/
theorem door_met (os : Os) (args : Array Value) : laidMetH Tryz.prog laidKinds ((World.doorLaid Tryz.prog 400 os).forCall (fun _ _ => 0) ⟨#[], args, []⟩).memory :=
  laidMetH_of_parts3 (fuel := 8) (laidMet_of_run' 8 (by kernel_rfl) (by kernel_rfl)) (by kernel_rfl) (by kernel_rfl)
end Go.Proofs.YtbkdjfgkebkknaaGreatDoor
