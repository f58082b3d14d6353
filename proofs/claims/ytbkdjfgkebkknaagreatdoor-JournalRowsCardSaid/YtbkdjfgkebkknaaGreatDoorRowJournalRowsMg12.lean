import Derived.Test.YtbkdjfgkebkknaaGreatDoorRowJournalRowsMg11
import Derived.Test.YtbkdjfgkebkknaaGreatDoorRowJournalRowsMg10
namespace Go.Proofs.YtbkdjfgkebkknaaGreatDoor
set_option linter.unusedVariables false
set_option linter.unusedSimpArgs false
open Go Go.RowKit
set_option maxHeartbeats 4000000
set_option maxRecDepth 100000
attribute [local irreducible] WL WC WN Yl WH WQ WT
theorem check_c (kd ep tx ix no : Int) (a : Option Addr) (n cap : Nat) (w : World) (hT : Tab w) :
    Calls Tryz.prog 144 #[.agg #[.int .i64 kd, .int .i64 ep, .int .i64 tx, .int .i64 ix, .int .i64 no, .slice a n cap]] w (Gives (Val (.int .i64 ((Frm.check kd ep tx ix no n : Nat) : Int))) w) := by
  refine enter (args := [_]) Tryz.func144 Tryz.ntmps144 rfl rfl ?_
  (repeat (first | refine WC.seq ?_ | refine WC.region ?_))
  refine WL.box rfl rfl fun b => ?_
  by_cases hk : 1 ≤ kd ∧ kd ≤ 2
  · by_cases he : Frm.Ep ep
    · by_cases ht : 1 ≤ tx ∧ tx ≤ 4294967295
      · (repeat (first | refine WL.want rfl rfl rfl ?_ | refine WL.step (Yl.move rfl) rfl ?_ | refine WL.step (Yl.assign rfl) rfl ?_ | (refine WL.k_load ?_; first | refine WL.step (Yl.loadBlk (T := 3) Tryz.isAgg3 rfl zH (by rfl)) rfl ?_ | refine WL.step (Yl.loadBlk (T := 2) Tryz.isAgg2 rfl zH (by rfl)) rfl ?_) | refine WL.step (Yl.fld0 (t := 121) Tryz.underlying121 fl121 rfl rfl) rfl ?_ | refine WL.step (Yl.pick_f rfl rfl rfl) rfl ?_ | refine WL.callV (g := 151) (v := .bool true) Tryz.call151 rfl (fun w _ => known_t _ w hk) rfl ?_ | refine WL.callV (g := 178) (v := .bool true) Tryz.call178 rfl (fun w _ => epoch_t _ w he) rfl ?_ | refine WL.callV (g := 179) (v := .bool true) Tryz.call179 rfl (fun w _ => within_t _ _ _ w ht) rfl ?_ | refine WL.step (Yl.not rfl) rfl ?_ | refine WC.seq ?_ | refine WC.region ?_ | refine WL.nil ?_ | refine WN.then_normal ?_))
        refine WC.cond_false rfl rfl ?_
        rcases (show kd = ((1 : Nat) : Int) ∨ kd = ((2 : Nat) : Int) by omega) with rfl | rfl
        · (repeat (first | (refine WL.k_load ?_; first | refine WL.step (Yl.loadBlk (T := 3) Tryz.isAgg3 rfl zH (by rfl)) rfl ?_ | refine WL.step (Yl.loadAggRd (T := 211) (us := [.int .i64 5, .int .i64 512, .int .i64 4095, .int .i64 0, .int .i64 4095]) Tryz.isAgg211 Tryz.sizeOf211 rfl (Rd.old hT) rfl rfl) rfl ?_) | refine WL.step (Yl.fld0 (t := 121) Tryz.underlying121 fl121 rfl rfl) rfl ?_ | (refine WL.k_idxa ?_; refine WL.step (Yl.indexArr (t := 212) Tryz.underlying212 Tryz.sizeOf211 rfl rfl (by decide)) rfl ?_) | refine WC.seq ?_ | refine WC.region ?_ | refine WN.then_normal ?_ | refine WC.skip ?_))
          refine WL.alloc (T := 211) Tryz.zeroValue211 rfl fun c => ?_
          refine WL.storeWhole (T := 211) (k := 5) Tryz.sizeOf211 rfl rfl rfl .here rfl rfl ?_
          by_cases h1 : 0 ≤ ix ∧ ix ≤ 4095
          · by_cases h2 : 0 ≤ no ∧ no ≤ 4095
            · by_cases h3 : n = 512
              · have e : Frm.check ((1 : Nat) : Int) ep tx ix no n = 0 := by unfold Frm.check; rw [if_pos]; exact ⟨he, ht.1, ht.2, .inl ⟨rfl, h1.1, h1.2, h2.1, h2.2, h3⟩⟩
                rw [e]
                (repeat (first | refine WL.want rfl rfl rfl ?_ | refine WL.step (Yl.move rfl) rfl ?_ | (refine WL.k_load ?_; first | refine WL.step (Yl.loadBlk (T := 3) Tryz.isAgg3 rfl zH (by rfl)) rfl ?_ | refine WL.step (Yl.loadBlk (T := 23) Tryz.isAgg23 rfl zH (by rfl)) rfl ?_) | (refine WL.k_fld ?_; first | refine WL.step (Yl.fld0 (t := 121) Tryz.underlying121 fl121 rfl rfl) rfl ?_ | refine WL.step (Yl.fld0 (t := 211) Tryz.underlying211 fl211 rfl rfl) rfl ?_) | refine WL.step (Yl.pick_f rfl rfl rfl) rfl ?_ | (refine WL.k_call 179 ?_; refine WL.callV (g := 179) (v := .bool true) Tryz.call179 rfl (fun w _ => within_t _ _ _ w (by omega)) rfl ?_) | (refine WL.k_bin .neq ?_; refine WL.step (Yl.neqF rfl rfl (by omega)) rfl ?_) | refine WL.step (Yl.len (t := 23) Tryz.underlying23 rfl) rfl ?_ | refine WL.step (Yl.not rfl) rfl ?_ | refine WC.seq ?_ | refine WC.region ?_ | refine WL.nil ?_ | refine WN.then_normal ?_))
                refine WC.cond_false rfl rfl ?_
                (repeat (first | refine WL.step (Yl.assign rfl) rfl ?_ | refine WC.seq ?_ | refine WC.region ?_ | refine WL.nil ?_ | refine WN.then_normal ?_ | refine WC.skip ?_ | refine WC.ret ?_))
                exact WN.ret1 rfl rfl ⟨rfl, rfl⟩ .nil
              · have e : Frm.check ((1 : Nat) : Int) ep tx ix no n = 2 := by unfold Frm.check; rw [if_neg]; omega
                rw [e]
                (repeat (first | refine WL.want rfl rfl rfl ?_ | refine WL.step (Yl.move rfl) rfl ?_ | (refine WL.k_load ?_; first | refine WL.step (Yl.loadBlk (T := 3) Tryz.isAgg3 rfl zH (by rfl)) rfl ?_ | refine WL.step (Yl.loadBlk (T := 23) Tryz.isAgg23 rfl zH (by rfl)) rfl ?_) | (refine WL.k_fld ?_; first | refine WL.step (Yl.fld0 (t := 121) Tryz.underlying121 fl121 rfl rfl) rfl ?_ | refine WL.step (Yl.fld0 (t := 211) Tryz.underlying211 fl211 rfl rfl) rfl ?_) | refine WL.step (Yl.pick_f rfl rfl rfl) rfl ?_ | (refine WL.k_call 179 ?_; refine WL.callV (g := 179) (v := .bool true) Tryz.call179 rfl (fun w _ => within_t _ _ _ w (by omega)) rfl ?_) | (refine WL.k_bin .neq ?_; refine WL.step (Yl.neqT rfl rfl (by omega)) rfl ?_) | refine WL.step (Yl.len (t := 23) Tryz.underlying23 rfl) rfl ?_ | refine WL.step (Yl.not rfl) rfl ?_ | refine WC.seq ?_ | refine WC.region ?_ | refine WL.nil ?_ | refine WN.then_normal ?_))
                refine WC.cond_true rfl rfl ?_
                (repeat (first | refine WL.step (Yl.assign rfl) rfl ?_ | refine WC.seq ?_ | refine WC.region ?_ | refine WL.nil ?_ | refine WN.then_normal ?_ | refine WC.ret ?_ | refine WN.then_ret ?_))
                exact WN.ret1 rfl rfl ⟨rfl, rfl⟩ .nil
            · have e : Frm.check ((1 : Nat) : Int) ep tx ix no n = 2 := by unfold Frm.check; rw [if_neg]; omega
              rw [e]
              (repeat (first | (refine WL.kG ?_; first | refine WL.want rfl rfl rfl ?_ | refine WL.pass rfl rfl rfl rfl ?_) | refine WL.step (Yl.move rfl) rfl ?_ | (refine WL.k_load ?_; refine WL.step (Yl.loadBlk (T := 3) Tryz.isAgg3 rfl zH (by rfl)) rfl ?_) | (refine WL.k_fld ?_; first | refine WL.step (Yl.fld0 (t := 121) Tryz.underlying121 fl121 rfl rfl) rfl ?_ | refine WL.step (Yl.fld0 (t := 211) Tryz.underlying211 fl211 rfl rfl) rfl ?_) | (refine WL.k_pick ?_; first | refine WL.step (Yl.pick_t rfl rfl rfl) rfl ?_ | refine WL.step (Yl.pick_f rfl rfl rfl) rfl ?_) | (refine WL.k_call 179 ?_; first | refine WL.callV (g := 179) (v := .bool true) Tryz.call179 rfl (fun w _ => within_t _ _ _ w h1) rfl ?_ | refine WL.callV (g := 179) (v := .bool false) Tryz.call179 rfl (fun w _ => within_f _ _ _ w h2) rfl ?_) | refine WL.step (Yl.not rfl) rfl ?_ | refine WC.seq ?_ | refine WC.region ?_ | refine WL.nil ?_ | refine WN.then_normal ?_))
              refine WC.cond_true rfl rfl ?_
              (repeat (first | refine WL.step (Yl.assign rfl) rfl ?_ | refine WC.seq ?_ | refine WC.region ?_ | refine WL.nil ?_ | refine WN.then_normal ?_ | refine WC.ret ?_ | refine WN.then_ret ?_))
              exact WN.ret1 rfl rfl ⟨rfl, rfl⟩ .nil
          · have e : Frm.check ((1 : Nat) : Int) ep tx ix no n = 2 := by unfold Frm.check; rw [if_neg]; omega
            rw [e]
            (repeat (first | refine WL.pass rfl rfl rfl rfl ?_ | refine WL.step (Yl.move rfl) rfl ?_ | (refine WL.k_load ?_; refine WL.step (Yl.loadBlk (T := 3) Tryz.isAgg3 rfl zH (by rfl)) rfl ?_) | (refine WL.k_fld ?_; first | refine WL.step (Yl.fld0 (t := 121) Tryz.underlying121 fl121 rfl rfl) rfl ?_ | refine WL.step (Yl.fld0 (t := 211) Tryz.underlying211 fl211 rfl rfl) rfl ?_) | refine WL.step (Yl.pick_t rfl rfl rfl) rfl ?_ | refine WL.callV (g := 179) (v := .bool false) Tryz.call179 rfl (fun w _ => within_f _ _ _ w h1) rfl ?_ | refine WL.step (Yl.not rfl) rfl ?_ | refine WC.seq ?_ | refine WC.region ?_ | refine WL.nil ?_ | refine WN.then_normal ?_))
            refine WC.cond_true rfl rfl ?_
            (repeat (first | refine WL.step (Yl.assign rfl) rfl ?_ | refine WC.seq ?_ | refine WC.region ?_ | refine WL.nil ?_ | refine WN.then_normal ?_ | refine WC.ret ?_ | refine WN.then_ret ?_))
            exact WN.ret1 rfl rfl ⟨rfl, rfl⟩ .nil
        · (repeat (first | (refine WL.k_load ?_; first | refine WL.step (Yl.loadBlk (T := 3) Tryz.isAgg3 rfl zH (by rfl)) rfl ?_ | refine WL.step (Yl.loadAggRd (T := 211) (us := [.int .i64 1, .int .i64 0, .int .i64 0, .int .i64 1, .int .i64 4096]) Tryz.isAgg211 Tryz.sizeOf211 rfl (Rd.old hT) rfl rfl) rfl ?_) | refine WL.step (Yl.fld0 (t := 121) Tryz.underlying121 fl121 rfl rfl) rfl ?_ | (refine WL.k_idxa ?_; refine WL.step (Yl.indexArr (t := 212) Tryz.underlying212 Tryz.sizeOf211 rfl rfl (by decide)) rfl ?_) | refine WC.seq ?_ | refine WC.region ?_ | refine WN.then_normal ?_ | refine WC.skip ?_))
          refine WL.alloc (T := 211) Tryz.zeroValue211 rfl fun c => ?_
          refine WL.storeWhole (T := 211) (k := 5) Tryz.sizeOf211 rfl rfl rfl .here rfl rfl ?_
          by_cases h1 : 0 ≤ ix ∧ ix ≤ 0
          · by_cases h2 : 1 ≤ no ∧ no ≤ 4096
            · by_cases h3 : n = 0
              · have e : Frm.check ((2 : Nat) : Int) ep tx ix no n = 0 := by unfold Frm.check; rw [if_pos]; exact ⟨he, ht.1, ht.2, .inr ⟨rfl, by omega, h2.1, h2.2, h3⟩⟩
                rw [e]
                (repeat (first | refine WL.want rfl rfl rfl ?_ | refine WL.step (Yl.move rfl) rfl ?_ | (refine WL.k_load ?_; first | refine WL.step (Yl.loadBlk (T := 3) Tryz.isAgg3 rfl zH (by rfl)) rfl ?_ | refine WL.step (Yl.loadBlk (T := 23) Tryz.isAgg23 rfl zH (by rfl)) rfl ?_) | (refine WL.k_fld ?_; first | refine WL.step (Yl.fld0 (t := 121) Tryz.underlying121 fl121 rfl rfl) rfl ?_ | refine WL.step (Yl.fld0 (t := 211) Tryz.underlying211 fl211 rfl rfl) rfl ?_) | refine WL.step (Yl.pick_f rfl rfl rfl) rfl ?_ | (refine WL.k_call 179 ?_; refine WL.callV (g := 179) (v := .bool true) Tryz.call179 rfl (fun w _ => within_t _ _ _ w (by omega)) rfl ?_) | (refine WL.k_bin .neq ?_; refine WL.step (Yl.neqF rfl rfl (by omega)) rfl ?_) | refine WL.step (Yl.len (t := 23) Tryz.underlying23 rfl) rfl ?_ | refine WL.step (Yl.not rfl) rfl ?_ | refine WC.seq ?_ | refine WC.region ?_ | refine WL.nil ?_ | refine WN.then_normal ?_))
                refine WC.cond_false rfl rfl ?_
                (repeat (first | refine WL.step (Yl.assign rfl) rfl ?_ | refine WC.seq ?_ | refine WC.region ?_ | refine WL.nil ?_ | refine WN.then_normal ?_ | refine WC.skip ?_ | refine WC.ret ?_))
                exact WN.ret1 rfl rfl ⟨rfl, rfl⟩ .nil
              · have e : Frm.check ((2 : Nat) : Int) ep tx ix no n = 2 := by unfold Frm.check; rw [if_neg]; omega
                rw [e]
                (repeat (first | refine WL.want rfl rfl rfl ?_ | refine WL.step (Yl.move rfl) rfl ?_ | (refine WL.k_load ?_; first | refine WL.step (Yl.loadBlk (T := 3) Tryz.isAgg3 rfl zH (by rfl)) rfl ?_ | refine WL.step (Yl.loadBlk (T := 23) Tryz.isAgg23 rfl zH (by rfl)) rfl ?_) | (refine WL.k_fld ?_; first | refine WL.step (Yl.fld0 (t := 121) Tryz.underlying121 fl121 rfl rfl) rfl ?_ | refine WL.step (Yl.fld0 (t := 211) Tryz.underlying211 fl211 rfl rfl) rfl ?_) | refine WL.step (Yl.pick_f rfl rfl rfl) rfl ?_ | (refine WL.k_call 179 ?_; refine WL.callV (g := 179) (v := .bool true) Tryz.call179 rfl (fun w _ => within_t _ _ _ w (by omega)) rfl ?_) | (refine WL.k_bin .neq ?_; refine WL.step (Yl.neqT rfl rfl (by omega)) rfl ?_) | refine WL.step (Yl.len (t := 23) Tryz.underlying23 rfl) rfl ?_ | refine WL.step (Yl.not rfl) rfl ?_ | refine WC.seq ?_ | refine WC.region ?_ | refine WL.nil ?_ | refine WN.then_normal ?_))
                refine WC.cond_true rfl rfl ?_
                (repeat (first | refine WL.step (Yl.assign rfl) rfl ?_ | refine WC.seq ?_ | refine WC.region ?_ | refine WL.nil ?_ | refine WN.then_normal ?_ | refine WC.ret ?_ | refine WN.then_ret ?_))
                exact WN.ret1 rfl rfl ⟨rfl, rfl⟩ .nil
            · have e : Frm.check ((2 : Nat) : Int) ep tx ix no n = 2 := by unfold Frm.check; rw [if_neg]; omega
              rw [e]
              (repeat (first | (refine WL.kG ?_; first | refine WL.want rfl rfl rfl ?_ | refine WL.pass rfl rfl rfl rfl ?_) | refine WL.step (Yl.move rfl) rfl ?_ | (refine WL.k_load ?_; refine WL.step (Yl.loadBlk (T := 3) Tryz.isAgg3 rfl zH (by rfl)) rfl ?_) | (refine WL.k_fld ?_; first | refine WL.step (Yl.fld0 (t := 121) Tryz.underlying121 fl121 rfl rfl) rfl ?_ | refine WL.step (Yl.fld0 (t := 211) Tryz.underlying211 fl211 rfl rfl) rfl ?_) | (refine WL.k_pick ?_; first | refine WL.step (Yl.pick_t rfl rfl rfl) rfl ?_ | refine WL.step (Yl.pick_f rfl rfl rfl) rfl ?_) | (refine WL.k_call 179 ?_; first | refine WL.callV (g := 179) (v := .bool true) Tryz.call179 rfl (fun w _ => within_t _ _ _ w h1) rfl ?_ | refine WL.callV (g := 179) (v := .bool false) Tryz.call179 rfl (fun w _ => within_f _ _ _ w h2) rfl ?_) | refine WL.step (Yl.not rfl) rfl ?_ | refine WC.seq ?_ | refine WC.region ?_ | refine WL.nil ?_ | refine WN.then_normal ?_))
              refine WC.cond_true rfl rfl ?_
              (repeat (first | refine WL.step (Yl.assign rfl) rfl ?_ | refine WC.seq ?_ | refine WC.region ?_ | refine WL.nil ?_ | refine WN.then_normal ?_ | refine WC.ret ?_ | refine WN.then_ret ?_))
              exact WN.ret1 rfl rfl ⟨rfl, rfl⟩ .nil
          · have e : Frm.check ((2 : Nat) : Int) ep tx ix no n = 2 := by unfold Frm.check; rw [if_neg]; omega
            rw [e]
            (repeat (first | refine WL.pass rfl rfl rfl rfl ?_ | refine WL.step (Yl.move rfl) rfl ?_ | (refine WL.k_load ?_; refine WL.step (Yl.loadBlk (T := 3) Tryz.isAgg3 rfl zH (by rfl)) rfl ?_) | (refine WL.k_fld ?_; first | refine WL.step (Yl.fld0 (t := 121) Tryz.underlying121 fl121 rfl rfl) rfl ?_ | refine WL.step (Yl.fld0 (t := 211) Tryz.underlying211 fl211 rfl rfl) rfl ?_) | refine WL.step (Yl.pick_t rfl rfl rfl) rfl ?_ | refine WL.callV (g := 179) (v := .bool false) Tryz.call179 rfl (fun w _ => within_f _ _ _ w h1) rfl ?_ | refine WL.step (Yl.not rfl) rfl ?_ | refine WC.seq ?_ | refine WC.region ?_ | refine WL.nil ?_ | refine WN.then_normal ?_))
            refine WC.cond_true rfl rfl ?_
            (repeat (first | refine WL.step (Yl.assign rfl) rfl ?_ | refine WC.seq ?_ | refine WC.region ?_ | refine WL.nil ?_ | refine WN.then_normal ?_ | refine WC.ret ?_ | refine WN.then_ret ?_))
            exact WN.ret1 rfl rfl ⟨rfl, rfl⟩ .nil
      · have e : Frm.check kd ep tx ix no n = 2 := by unfold Frm.check; rw [if_neg]; omega
        rw [e]
        (repeat (first | refine WL.want rfl rfl rfl ?_ | refine WL.step (Yl.move rfl) rfl ?_ | refine WL.step (Yl.assign rfl) rfl ?_ | (refine WL.k_load ?_; first | refine WL.step (Yl.loadBlk (T := 3) Tryz.isAgg3 rfl zH (by rfl)) rfl ?_ | refine WL.step (Yl.loadBlk (T := 2) Tryz.isAgg2 rfl zH (by rfl)) rfl ?_) | refine WL.step (Yl.fld0 (t := 121) Tryz.underlying121 fl121 rfl rfl) rfl ?_ | refine WL.step (Yl.pick_f rfl rfl rfl) rfl ?_ | refine WL.callV (g := 151) (v := .bool true) Tryz.call151 rfl (fun w _ => known_t _ w hk) rfl ?_ | refine WL.callV (g := 178) (v := .bool true) Tryz.call178 rfl (fun w _ => epoch_t _ w he) rfl ?_ | refine WL.callV (g := 179) (v := .bool false) Tryz.call179 rfl (fun w _ => within_f _ _ _ w ht) rfl ?_ | refine WL.step (Yl.not rfl) rfl ?_ | refine WC.seq ?_ | refine WC.region ?_ | refine WL.nil ?_ | refine WN.then_normal ?_))
        refine WC.cond_true rfl rfl ?_
        (repeat (first | refine WL.step (Yl.assign rfl) rfl ?_ | refine WC.seq ?_ | refine WC.region ?_ | refine WL.nil ?_ | refine WN.then_normal ?_ | refine WC.ret ?_ | refine WN.then_ret ?_))
        exact WN.ret1 rfl rfl ⟨rfl, rfl⟩ .nil
    · have e : Frm.check kd ep tx ix no n = 2 := by unfold Frm.check; rw [if_neg]; exact fun h => he h.1
      rw [e]
      (repeat (first | (refine WL.kG ?_; first | refine WL.want rfl rfl rfl ?_ | refine WL.pass rfl rfl rfl rfl ?_) | refine WL.step (Yl.move rfl) rfl ?_ | refine WL.step (Yl.assign rfl) rfl ?_ | (refine WL.k_load ?_; first | refine WL.step (Yl.loadBlk (T := 3) Tryz.isAgg3 rfl zH (by rfl)) rfl ?_ | refine WL.step (Yl.loadBlk (T := 2) Tryz.isAgg2 rfl zH (by rfl)) rfl ?_) | refine WL.step (Yl.fld0 (t := 121) Tryz.underlying121 fl121 rfl rfl) rfl ?_ | (refine WL.k_pick ?_; first | refine WL.step (Yl.pick_t rfl rfl rfl) rfl ?_ | refine WL.step (Yl.pick_f rfl rfl rfl) rfl ?_) | refine WL.callV (g := 151) (v := .bool true) Tryz.call151 rfl (fun w _ => known_t _ w hk) rfl ?_ | refine WL.callV (g := 178) (v := .bool false) Tryz.call178 rfl (fun w _ => epoch_f _ w he) rfl ?_ | refine WL.step (Yl.not rfl) rfl ?_ | refine WC.seq ?_ | refine WC.region ?_ | refine WL.nil ?_ | refine WN.then_normal ?_))
      refine WC.cond_true rfl rfl ?_
      (repeat (first | refine WL.step (Yl.assign rfl) rfl ?_ | refine WC.seq ?_ | refine WC.region ?_ | refine WL.nil ?_ | refine WN.then_normal ?_ | refine WC.ret ?_ | refine WN.then_ret ?_))
      exact WN.ret1 rfl rfl ⟨rfl, rfl⟩ .nil
  · have e : Frm.check kd ep tx ix no n = 2 := by unfold Frm.check; rw [if_neg]; omega
    rw [e]
    (repeat (first | refine WL.pass rfl rfl rfl rfl ?_ | refine WL.step (Yl.move rfl) rfl ?_ | refine WL.step (Yl.assign rfl) rfl ?_ | (refine WL.k_load ?_; refine WL.step (Yl.loadBlk (T := 3) Tryz.isAgg3 rfl zH (by rfl)) rfl ?_) | refine WL.step (Yl.fld0 (t := 121) Tryz.underlying121 fl121 rfl rfl) rfl ?_ | refine WL.step (Yl.pick_t rfl rfl rfl) rfl ?_ | refine WL.callV (g := 151) (v := .bool false) Tryz.call151 rfl (fun w _ => known_f _ w hk) rfl ?_ | refine WL.step (Yl.not rfl) rfl ?_ | refine WC.seq ?_ | refine WC.region ?_ | refine WL.nil ?_ | refine WN.then_normal ?_))
    refine WC.cond_true rfl rfl ?_
    (repeat (first | refine WL.step (Yl.assign rfl) rfl ?_ | refine WC.seq ?_ | refine WC.region ?_ | refine WL.nil ?_ | refine WN.then_normal ?_ | refine WC.ret ?_ | refine WN.then_ret ?_))
    exact WN.ret1 rfl rfl ⟨rfl, rfl⟩ .nil
end Go.Proofs.YtbkdjfgkebkknaaGreatDoor
namespace Go.Proofs.YtbkdjfgkebkknaaGreatDoor.Big
set_option linter.unusedVariables false
set_option linter.unusedSimpArgs false
theorem val_be (k x : Nat) (h : x < 256 ^ k) : val 0 (be k x) = x := by
  have key : ∀ (k y x : Nat), val y (be k x) = y * 256 ^ k + x % 256 ^ k := by
    intro k
    induction k with
    | zero => intro y x; simp [val, be, Nat.mod_one]
    | succ k ih =>
      intro y x
      have hp : 0 < 256 ^ k := Nat.pow_pos (by decide)
      have h1 : val y (be (k + 1) x) = val (y * 256 + (UInt8.ofNat (x / 256 ^ k)).toNat) (be k x) := rfl
      rw [h1, ih, UInt8.toNat_ofNat', show (256 : Nat) ^ (k + 1) = 256 ^ k * 256 from Nat.pow_succ .., Nat.mod_mul, show (2 : Nat) ^ 8 = 256 from rfl]
      rw [Nat.add_mul, Nat.mul_assoc, Nat.mul_comm 256 (256 ^ k), Nat.mul_comm (x / 256 ^ k % 256)]
      omega
  rw [key, Nat.mod_eq_of_lt h]; omega
theorem val_add (l : List UInt8) : ∀ (y : Nat), val y l = y * 256 ^ l.length + val 0 l := by
  induction l with
  | nil => intro y; simp [val]
  | cons c l ih =>
    intro y
    have h1 : ∀ y, val y (c :: l) = val (y * 256 + c.toNat) l := fun _ => rfl
    rw [h1, h1, ih (y * 256 + c.toNat), ih (0 * 256 + c.toNat), Nat.zero_mul, Nat.zero_add, List.length_cons, Nat.pow_succ, Nat.add_mul, Nat.mul_assoc, Nat.mul_comm 256 (256 ^ l.length)]
    omega
theorem val_one (c : UInt8) (l : List UInt8) : val 0 (c :: l) = c.toNat * 256 ^ l.length + val 0 l := by
  have h1 : val 0 (c :: l) = val (0 * 256 + c.toNat) l := rfl
  rw [h1, val_add, Nat.zero_mul, Nat.zero_add]
theorem be_mod (n : Nat) : ∀ (y v : Nat), be n (y * 256 ^ n + v) = be n v := by
  induction n with
  | zero => intro y v; rfl
  | succ n ih =>
    intro y v
    have hp : 0 < 256 ^ n := Nat.pow_pos (by decide)
    have e : y * 256 ^ (n + 1) + v = (y * 256) * 256 ^ n + v := by rw [Nat.pow_succ, Nat.mul_assoc, Nat.mul_comm 256]
    have h1 : be (n + 1) (y * 256 ^ (n + 1) + v) = UInt8.ofNat ((y * 256 ^ (n + 1) + v) / 256 ^ n) :: be n (y * 256 ^ (n + 1) + v) := rfl
    have h2 : be (n + 1) v = UInt8.ofNat (v / 256 ^ n) :: be n v := rfl
    have h3 : UInt8.ofNat (y * 256 + v / 256 ^ n) = UInt8.ofNat (v / 256 ^ n) := by
      apply UInt8.toNat_inj.1
      rw [UInt8.toNat_ofNat', UInt8.toNat_ofNat', show (2 : Nat) ^ 8 = 256 from rfl]; omega
    rw [h1, h2, e, ih (y * 256) v, Nat.add_comm, Nat.add_mul_div_right _ _ hp, Nat.add_comm, h3]
theorem be_val (l : List UInt8) : be l.length (val 0 l) = l := by
  induction l with
  | nil => rfl
  | cons c l ih =>
    have hp : 0 < 256 ^ l.length := Nat.pow_pos (by decide)
    have hlt := val_lt l
    rw [val_one, List.length_cons]
    have h1 : be (l.length + 1) (c.toNat * 256 ^ l.length + val 0 l) = UInt8.ofNat ((c.toNat * 256 ^ l.length + val 0 l) / 256 ^ l.length) :: be l.length (c.toNat * 256 ^ l.length + val 0 l) := rfl
    rw [h1, be_mod, ih, Nat.add_comm, Nat.add_mul_div_right _ _ hp, Nat.div_eq_of_lt hlt, Nat.zero_add]
    congr 1
    exact UInt8.ofNat_toNat
theorem be_eq {l : List UInt8} {k x : Nat} (hl : l.length = k) (hx : x < 256 ^ k) : l = be k x ↔ val 0 l = x := by
  constructor
  · rintro rfl; exact val_be k x hx
  · rintro rfl; subst hl; exact (be_val l).symm
end Go.Proofs.YtbkdjfgkebkknaaGreatDoor.Big
namespace Go.Proofs.YtbkdjfgkebkknaaGreatDoor
set_option linter.unusedVariables false
set_option linter.unusedSimpArgs false
open Go Go.RowKit
set_option maxRecDepth 100000
theorem append_v (a : Option Addr) (n cap : Nat) (l u : List UInt8) (x e : Nat) (wd : Int) (w : World) (hl : l.length = n) (hn : n ≤ 140737488355000) (hx : x < 18446744073709551616) (hr : CellsAt w a (bs l)) (h : Big.appended l x wd = (e, u)) :
    Calls Tryz.prog 146 #[.slice a n cap, .int .u64 (x : Int), .int .i64 wd] w (Gives (NewRow (fun s => .tuple #[s, .int .i64 (e : Int)]) 5 1 u.length (bs u)) w) := by
  have := append_c a n cap l x wd w hl hn hx hr
  rw [Appended, h] at this
  exact this
theorem uint_v (a : Option Addr) (n cap : Nat) (l : List UInt8) (at_ wd : Int) (p : Nat × Nat) (w : World) (hl : l.length = n) (hn : n ≤ 140737488355000) (hat : -9223372036854775808 ≤ at_ ∧ at_ ≤ 9223372036854775807) (hr : CellsAt w a (bs l)) (h : Big.uintAt l at_ wd = p) :
    Calls Tryz.prog 152 #[.slice a n cap, .int .i64 at_, .int .i64 wd] w (Gives (Val (two p)) w) := h ▸ uint_c a n cap l at_ wd w hl hn hat hr
end Go.Proofs.YtbkdjfgkebkknaaGreatDoor
namespace Go.Proofs.YtbkdjfgkebkknaaGreatDoor
set_option linter.unusedVariables false
set_option linter.unusedSimpArgs false
open Go Go.RowKit
set_option maxHeartbeats 4000000
set_option maxRecDepth 100000
attribute [local irreducible] WL WC WN Yl WH WQ WT Big.be Frm.stamp
abbrev Slc (T : TypeId) (r : Nat × List UInt8) : Value → List HA → Prop := NewRow (fun s => .tuple #[s, .int .i64 ((r.1 : Nat) : Int)]) T 1 r.2.length (bs r.2)
theorem Slc.none (T : TypeId) (e : Nat) : Slc T (e, []) (.tuple #[.slice none 0 0, .int .i64 (e : Int)]) [.row none 0 T 1 []] := ⟨_, 0, Nat.le_refl _, rfl, rfl⟩
theorem rbytes_c (x k : Nat) (w : World) (hk : k ≤ 8) :
    Calls Tryz.prog 196 #[.int .i64 (x : Int), .int .i64 (k : Int)] w (Gives (NewRow id 5 1 k (bs (Big.be k x))) w) := by
  refine enter (args := [_, _]) Tryz.func196 Tryz.ntmps196 rfl rfl ?_
  (repeat (first | refine WL.step (Yl.move rfl) rfl ?_ | refine WL.step (Yl.assign rfl) rfl ?_ | (refine WL.k_bin .sub ?_; refine WL.step (Yl.sub64 rfl rfl (by omega)) rfl ?_) | refine WC.seq ?_ | refine WC.region ?_ | refine WL.nil ?_ | refine WN.then_normal ?_ | refine WC.block ?_))
  have hbl := Big.be_length k x
  refine WC.loop (α := Nat × Option Addr × Nat) (fun g => [(0, .int .i64 (x : Int)), (5, .slice g.2.1 g.1 g.2.2), (6, .int .i64 ((k : Int) - 1 - (g.1 : Int)))])
    (fun g => [.row g.2.1 g.2.2 5 1 (bs ((Big.be k x).take g.1))]) (fun g => g.1 ≤ k ∧ g.1 ≤ g.2.2) (fun g => k - g.1) (0, none, 0) (.cons rfl rfl (.cons rfl rfl (.cons rfl (by simp) .nil))) (.free .nil) ⟨by simp, by simp⟩ ?_
  intro ⟨i, p, q⟩ ⟨hi, hq⟩
  simp only at hi hq ⊢
  (repeat (first | refine WL.step (Yl.move rfl) rfl ?_ | refine WL.step (Yl.geq rfl rfl) rfl ?_ | refine WC.seq ?_ | refine WC.region ?_ | refine WL.nil ?_ | refine WN.then_normal ?_))
  refine WC.ite rfl (fun h1 => ?_) (fun h1 => ?_)
  · obtain ⟨m, hm⟩ : ∃ m : Nat, (k : Int) - 1 - (i : Int) = (m : Int) := ⟨k - 1 - i, by omega⟩
    rw [hm]
    have hmk : m = k - 1 - i := by omega
    (repeat (first | refine WL.step (Yl.move rfl) rfl ?_ | (refine WL.k_conv ?_; first | refine WL.step (Yl.convLt (s := 3) (t := 167) Tryz.underlying3 Tryz.underlying167 rfl rfl (by show _ < 18446744073709551616; omega)) rfl ?_ | refine WL.step (Yl.convN (s := 2) (t := 5) Tryz.underlying2 Tryz.underlying5 rfl rfl) rfl ?_) | (refine WL.k_bin .shr ?_; refine WL.step (Yl.shrN rfl rfl (by show _ ≤ 64; omega)) rfl ?_) | (refine WL.k_bin .mul ?_; refine WL.step (Yl.mulC64 rfl (by omega)) rfl ?_) | refine WC.seq ?_ | refine WC.region ?_ | refine WN.then_normal ?_ | refine WC.block ?_ | refine WC.skip ?_))
    rw [show Value.int .u8 ((x / 2 ^ (8 * m) % 2 ^ IntKind.u8.bits : Nat) : Int) = bv (UInt8.ofNat (x / 2 ^ (8 * m))) from bvof _]
    refine WL.lit (t := 23) Tryz.underlying23 elemU8 rfl rfl rfl (by simp [bv, Value.cells]) rfl fun b => ?_
    refine WL.appendRow (t := 23) Tryz.underlying23 elemU8 rfl rfl (.there .here) (by rw [bs_length]; simp; omega) hq (Rd.row (.head _)) rfl (bs_one [_]) (by omega) (by simp only [maxLen]; omega) rfl fun p2 hp2 => ?_
    have hnew : bs ((Big.be k x).take i) ++ flat [bv (UInt8.ofNat (x / 2 ^ (8 * m)))] = bs ((Big.be k x).take (i + 1)) := by
      rw [flat1, ← bs_append, take_snoc _ 0 (by omega), Big.be_get _ _ _ (by omega), Big.pow256, hmk]
    rw [hnew]
    (repeat (first | refine WL.step (Yl.move rfl) rfl ?_ | refine WL.step (Yl.assign rfl) rfl ?_ | (refine WL.k_bin .sub ?_; refine WL.step (Yl.sub64 rfl rfl (by omega)) rfl ?_) | refine WC.region ?_ | refine WL.nil ?_ | refine WN.then_normal ?_ | refine WN.block_normal ?_))
    exact WN.next (i + 1, p2.1, p2.2) ⟨by simp only; omega, by simp only; omega⟩ (by simp only; omega) (.cons rfl rfl (.cons rfl rfl (.cons rfl (by show Value.int .i64 _ = Value.int .i64 _; congr 1; simp only; omega) .nil))) (.cons .here .nil)
  · obtain rfl : i = k := by omega
    (repeat (first | refine WL.step (Yl.move rfl) rfl ?_ | refine WL.step (Yl.assign rfl) rfl ?_ | refine WC.seq ?_ | refine WC.region ?_ | refine WL.nil ?_ | refine WN.then_normal ?_ | refine WC.exit ?_ | refine WC.ret ?_ | refine WN.then_exit ?_ | refine WN.block_here ?_))
    exact WN.ret1 rfl rfl ⟨p, q, hq, rfl, by rw [List.take_of_length_le (by omega)]⟩ (.cons .here .nil)
theorem zeroBlock (w : World) : (zeroValue 150).run Tryz.prog w = .ok (.agg (bs (List.replicate 128 0)).toArray) w := by
  have h : (Tryz.prog.info? 150).map (fun i => i.zero) = some (some (.agg (bs (List.replicate 128 0)).toArray)) := by kernel_rfl
  exact zero_of h w
theorem bs_put (l m : List UInt8) (k : Nat) : (bs l).take k ++ bs m ++ (bs l).drop (k + (bs m).length) = bs (l.take k ++ m ++ l.drop (k + m.length)) := by
  simp only [bs, List.map_append, List.map_take, List.map_drop, List.length_map]
theorem put1 {m : List UInt8} (hm : m.length = 8) : (List.replicate 128 (0 : UInt8)).take 0 ++ m ++ (List.replicate 128 0).drop (0 + m.length) = m ++ List.replicate 120 0 := by
  simp [hm]
theorem put2 {m d : List UInt8} (hm : m.length = 8) : (m ++ List.replicate 120 0).take 8 ++ d ++ (m ++ List.replicate 120 0).drop (8 + d.length) = m ++ d ++ List.replicate (120 - d.length) 0 := by
  rw [List.take_append_of_le_length (by omega), List.take_of_length_le (by omega), ← List.drop_drop, ← hm, List.drop_left, List.drop_replicate]
theorem put3 {m d : List UInt8} (hm : m.length = 8) (hd : d.length ≤ 112) : (m ++ d ++ List.replicate (120 - d.length) 0).take 120 ++ m ++ (m ++ d ++ List.replicate (120 - d.length) 0).drop (120 + m.length) = m ++ d ++ List.replicate (112 - d.length) 0 ++ m := by
  have h1 : (m ++ d ++ List.replicate (120 - d.length) 0).drop (120 + m.length) = [] := List.drop_eq_nil_of_le (by simp; omega)
  have h2 : (m ++ d ++ List.replicate (120 - d.length) (0 : UInt8)).take 120 = m ++ d ++ List.replicate (112 - d.length) 0 := by
    rw [List.take_append, List.take_of_length_le (by simp; omega), List.take_replicate]
    congr 2
    simp; omega
  rw [h1, h2, List.append_nil]
theorem app8 {X : Nat} (h : X < 18446744073709551616) : Big.appended [] X 8 = (0, Big.be 8 X) := by
  unfold Big.appended
  rw [if_neg (by decide), if_neg (by show ¬ 18446744073709551616 ≤ X; omega)]; rfl
theorem stamp_c (x : Int) (a : Option Addr) (n cap : Nat) (l : List UInt8) (w : World) (hl : l.length = n) (hr : CellsAt w a (bs l)) :
    Calls Tryz.prog 148 #[.int .i64 x, .slice a n cap] w (Gives (Slc 150 (Frm.stamped x l)) w) := by
  refine enter (args := [_, _]) Tryz.func148 Tryz.ntmps148 rfl rfl ?_
  by_cases he : Frm.Ep x
  · by_cases hd : l.length ≤ 112
    · have e : Frm.stamped x l = (0, Frm.stamp x l) := if_pos ⟨he, hd⟩
      rw [e]
      obtain ⟨X, rfl⟩ : ∃ X : Nat, x = (X : Int) := ⟨x.toNat, by omega⟩
      have hX : X < 18446744073709551616 := by omega
      have hb8 := Big.be_length 8 X
      (repeat (first | refine WL.want rfl rfl rfl ?_ | refine WL.step (Yl.move rfl) rfl ?_ | refine WL.step (Yl.assign rfl) rfl ?_ | refine WL.step (Yl.pick_f rfl rfl rfl) rfl ?_ | refine WL.callV (g := 178) (v := .bool true) Tryz.call178 rfl (fun w _ => epoch_t _ w he) rfl ?_ | (refine WL.k_bin .gtr ?_; refine WL.step (Yl.gtrF rfl rfl (by omega)) rfl ?_) | refine WL.step (Yl.len (t := 23) Tryz.underlying23 rfl) rfl ?_ | refine WL.step (Yl.not rfl) rfl ?_ | refine WC.seq ?_ | refine WC.region ?_ | refine WL.nil ?_ | refine WN.then_normal ?_))
      refine WC.cond_false rfl rfl ?_
      (repeat (first | refine WC.seq ?_ | refine WC.region ?_ | refine WN.then_normal ?_ | refine WC.skip ?_))
      refine WL.alloc zeroBlock rfl fun b => ?_
      (repeat (first | refine WL.step (Yl.move rfl) rfl ?_ | (refine WL.k_conv ?_; refine WL.step (Yl.convLt (s := 2) (t := 49) Tryz.underlying2 Tryz.underlying49 rfl rfl (by show _ < 18446744073709551616; omega)) rfl ?_) | refine WC.seq ?_ | refine WC.region ?_ | refine WL.nil ?_ | refine WN.then_normal ?_))
      refine WL.callR (g := 146) Tryz.call146 rfl (fun w _ => append_v none 0 0 [] (Big.be 8 X) X 0 8 w rfl (by omega) hX (CellsAt.nil _ _) (app8 hX)) rfl fun p hp => ?_
      (repeat (first | refine WL.step (Yl.move rfl) rfl ?_ | refine WL.step (Yl.assign rfl) rfl ?_ | refine WL.step (Yl.extract rfl rfl) rfl ?_ | refine WL.step (Yl.arrAll (t := 150) Tryz.underlying150 Tryz.sizeOf5 rfl) rfl ?_ | refine WC.seq ?_ | refine WC.region ?_ | refine WL.nil ?_ | refine WN.then_normal ?_))
      refine WL.copy (t := 23) (cs := bs (List.replicate 128 0)) (vs := bs (Big.be 8 X)) Tryz.underlying23 (by kernel_rfl) rfl rfl (.there .here) (Rd.row (.head _)) (by rw [bs_length]; omega) (by rw [bs_length, bs_length, List.length_replicate]; omega) (bs_one _) rfl ?_
      rw [bs_put, put1 hb8]
      (repeat (first | refine WL.step (Yl.move rfl) rfl ?_ | (refine WL.k_slice ?_; refine WL.step (Yl.arrFrom (t := 150) (lo := 8) Tryz.underlying150 Tryz.sizeOf5 rfl rfl (by decide)) rfl ?_) | refine WC.seq ?_ | refine WC.region ?_ | refine WL.nil ?_ | refine WN.then_normal ?_))
      refine WL.copy (t := 23) (cs := bs (Big.be 8 X ++ List.replicate 120 0)) (vs := bs l) Tryz.underlying23 (by kernel_rfl) rfl rfl .here (Rd.old hr) (by rw [bs_length]; omega) (by rw [bs_length, bs_length, List.length_append, List.length_replicate]; omega) (bs_one _) rfl ?_
      rw [bs_put, show (0 : Nat) + 8 = 8 from rfl, put2 hb8]
      (repeat (first | refine WL.step (Yl.move rfl) rfl ?_ | (refine WL.k_slice ?_; refine WL.step (Yl.arrFrom (t := 150) (lo := 120) Tryz.underlying150 Tryz.sizeOf5 rfl rfl (by decide)) rfl ?_) | refine WC.seq ?_ | refine WC.region ?_ | refine WL.nil ?_ | refine WN.then_normal ?_))
      refine WL.copy (cs := bs (Big.be 8 X ++ l ++ List.replicate (120 - l.length) 0)) (vs := bs (Big.be 8 X)) Tryz.underlying23 (by kernel_rfl) rfl rfl .here (Rd.row (.tail _ (.head _))) (by rw [bs_length]; omega) (by simp only [bs_length, List.length_append, List.length_replicate]; omega) (bs_one _) rfl ?_
      rw [bs_put, show (0 : Nat) + 120 = 120 from rfl, put3 hb8 hd]
      have hs : Big.be 8 X ++ l ++ List.replicate (112 - l.length) 0 ++ Big.be 8 X = Frm.stamp (X : Int) l := by unfold Frm.stamp; rw [Int.toNat_natCast]
      have hsl := Frm.stamp_length (n := (X : Int)) hd
      rw [hs]
      (repeat (first | refine WL.step (Yl.assign rfl) rfl ?_ | refine WL.step (Yl.arrAll (t := 150) Tryz.underlying150 Tryz.sizeOf5 rfl) rfl ?_ | refine WC.seq ?_ | refine WC.region ?_ | refine WL.nil ?_ | refine WN.then_normal ?_ | refine WC.ret ?_))
      refine WN.asRow (n := 128) .here (by rw [bs_length]; exact hsl) (by decide) ?_
      exact WN.ret2 rfl rfl rfl ⟨some ⟨b, 0, none⟩, 128, Nat.le_of_eq hsl, by rw [hsl]; rfl, rfl⟩ (.cons .here .nil)
    · have e : Frm.stamped x l = (2, []) := if_neg fun h => hd h.2
      rw [e]
      (repeat (first | refine WL.want rfl rfl rfl ?_ | refine WL.step (Yl.move rfl) rfl ?_ | refine WL.step (Yl.assign rfl) rfl ?_ | refine WL.step (Yl.pick_f rfl rfl rfl) rfl ?_ | refine WL.callV (g := 178) (v := .bool true) Tryz.call178 rfl (fun w _ => epoch_t _ w he) rfl ?_ | (refine WL.k_bin .gtr ?_; refine WL.step (Yl.gtrT rfl rfl (by omega)) rfl ?_) | refine WL.step (Yl.len (t := 23) Tryz.underlying23 rfl) rfl ?_ | refine WL.step (Yl.not rfl) rfl ?_ | refine WC.seq ?_ | refine WC.region ?_ | refine WL.nil ?_ | refine WN.then_normal ?_))
      refine WC.cond_true rfl rfl ?_
      (repeat (first | refine WL.step (Yl.assign rfl) rfl ?_ | refine WC.seq ?_ | refine WC.region ?_ | refine WL.nil ?_ | refine WN.then_normal ?_ | refine WC.ret ?_ | refine WN.then_ret ?_))
      exact WN.ret2 rfl rfl rfl (Slc.none _ 2) (.free .nil)
  · have e : Frm.stamped x l = (2, []) := if_neg fun h => he h.1
    rw [e]
    (repeat (first | refine WL.pass rfl rfl rfl rfl ?_ | refine WL.step (Yl.move rfl) rfl ?_ | refine WL.step (Yl.assign rfl) rfl ?_ | refine WL.step (Yl.pick_t rfl rfl rfl) rfl ?_ | refine WL.callV (g := 178) (v := .bool false) Tryz.call178 rfl (fun w _ => epoch_f _ w he) rfl ?_ | refine WL.step (Yl.not rfl) rfl ?_ | refine WC.seq ?_ | refine WC.region ?_ | refine WL.nil ?_ | refine WN.then_normal ?_))
    refine WC.cond_true rfl rfl ?_
    (repeat (first | refine WL.step (Yl.assign rfl) rfl ?_ | refine WC.seq ?_ | refine WC.region ?_ | refine WL.nil ?_ | refine WN.then_normal ?_ | refine WC.ret ?_ | refine WN.then_ret ?_))
    exact WN.ret2 rfl rfl rfl (Slc.none _ 2) (.free .nil)
end Go.Proofs.YtbkdjfgkebkknaaGreatDoor
namespace Go.Proofs.YtbkdjfgkebkknaaGreatDoor
set_option linter.unusedVariables false
set_option linter.unusedSimpArgs false
open Go Go.RowKit
set_option maxHeartbeats 4000000
set_option maxRecDepth 100000
attribute [local irreducible] WL WC WN Yl WH WQ WT Big.be Frm.stamp
theorem build2 (w : World) : (Instr.build 239 [(0, Value.int .i64 0), (1, Value.int .i64 120)].toArray).run Tryz.prog w = .ok (.agg #[.int .i64 0, .int .i64 120]) w := by
  simp [Instr.build, Tryz.zeroValue239, run_underlying Tryz.underlying239, Tryz.sizeOf3, Value.cells, Instr.fill]
theorem unst_torn {l : List UInt8} {x : Int} (he : Frm.Ep x) (h : Frm.Torn l x) : Frm.unst l x = (13, []) := by unfold Frm.unst; rw [if_neg (not_not_intro he), if_pos h]
theorem unst_ok {l : List UInt8} {x : Int} (he : Frm.Ep x) (h : ¬ Frm.Torn l x) : Frm.unst l x = (0, (l.drop 8).take 112) := by unfold Frm.unst; rw [if_neg (not_not_intro he), if_neg h]
theorem at8 {l : List UInt8} (k : Nat) (h : k + 8 ≤ l.length) : Big.uintAt l (k : Int) 8 = (0, Big.val 0 ((l.drop k).take 8)) := by
  unfold Big.uintAt
  rw [if_neg (by decide), if_neg (by omega), if_neg (by omega)]; rfl
theorem unstamp_c (x : Int) (a : Option Addr) (n cap : Nat) (l : List UInt8) (w : World) (hl : l.length = n) (hc : n ≤ cap) (hn : n ≤ 140737488355000) (hr : CellsAt w a (bs l)) :
    Calls Tryz.prog 150 #[.slice a n cap, .int .i64 x] w (Gives (Slc 5 (Frm.unst l x)) w) := by
  refine enter (args := [_, _]) Tryz.func150 Tryz.ntmps150 rfl rfl ?_
  by_cases he : Frm.Ep x
  · (repeat (first | refine WL.step (Yl.move rfl) rfl ?_ | refine WL.step (Yl.assign rfl) rfl ?_ | refine WL.callV (g := 178) (v := .bool true) Tryz.call178 rfl (fun w _ => epoch_t _ w he) rfl ?_ | refine WL.step (Yl.not rfl) rfl ?_ | refine WC.seq ?_ | refine WC.region ?_ | refine WL.nil ?_ | refine WN.then_normal ?_))
    refine WC.cond_false rfl rfl ?_
    by_cases h0 : n < 128
    · have e : Frm.unst l x = (13, []) := unst_torn he (.inl (by omega))
      rw [e]
      (repeat (first | refine WL.step (Yl.move rfl) rfl ?_ | (refine WL.k_bin .lss ?_; refine WL.step (Yl.lssT rfl rfl (by omega)) rfl ?_) | refine WL.step (Yl.len (t := 23) Tryz.underlying23 rfl) rfl ?_ | refine WC.seq ?_ | refine WC.region ?_ | refine WL.nil ?_ | refine WN.then_normal ?_ | refine WC.skip ?_))
      refine WC.cond_true rfl rfl ?_
      (repeat (first | refine WL.step (Yl.assign rfl) rfl ?_ | refine WC.seq ?_ | refine WC.region ?_ | refine WL.nil ?_ | refine WN.then_normal ?_ | refine WC.ret ?_ | refine WN.then_ret ?_))
      exact WN.ret2 rfl rfl rfl (Slc.none _ 13) (.free .nil)
    · obtain ⟨X, rfl⟩ : ∃ X : Nat, x = (X : Int) := ⟨x.toNat, by omega⟩
      have hX : X < 256 ^ 8 := by have : (256 : Nat) ^ 8 = 18446744073709551616 := by decide
                                  omega
      have hX2 : X < 18446744073709551616 := by have : (256 : Nat) ^ 8 = 18446744073709551616 := by decide
                                                omega
      (repeat (first | refine WL.step (Yl.move rfl) rfl ?_ | (refine WL.k_bin .lss ?_; refine WL.step (Yl.lssF rfl rfl (by omega)) rfl ?_) | refine WL.step (Yl.len (t := 23) Tryz.underlying23 rfl) rfl ?_ | refine WC.seq ?_ | refine WC.region ?_ | refine WL.nil ?_ | refine WN.then_normal ?_ | refine WC.skip ?_))
      refine WC.cond_false rfl rfl ?_
      (repeat (first | refine WL.step (Yl.move rfl) rfl ?_ | refine WL.step (Yl.build rfl build2) rfl ?_ | refine WC.seq ?_ | refine WC.region ?_ | refine WL.nil ?_ | refine WN.then_normal ?_ | refine WC.block ?_ | refine WC.skip ?_))
      refine WC.loop (α := Nat) (fun i => [(0, .slice a n cap), (1, .int .i64 (X : Int)), (16, .agg #[.int .i64 0, .int .i64 120]), (17, .int .i64 (i : Int))])
        (fun _ => []) (fun i => i ≤ 2 ∧ (1 ≤ i → l.take 8 = Big.be 8 X) ∧ (2 ≤ i → (l.drop 120).take 8 = Big.be 8 X)) (fun i => 2 - i) 0 zS .nil ⟨by omega, by omega, by omega⟩ ?_
      intro i ⟨hi, hi1, hi2⟩
      (repeat (first | refine WL.step (Yl.lss rfl rfl) rfl ?_ | refine WC.seq ?_ | refine WC.region ?_ | refine WL.nil ?_ | refine WN.then_normal ?_))
      refine WC.ite rfl (fun h1 => ?_) (fun h1 => ?_)
      · rcases (show i = 0 ∨ i = 1 by omega) with rfl | rfl
        · have hu := at8 (l := l) 0 (by omega)
          have hm := Big.be_eq (l := (l.drop 0).take 8) (k := 8) (x := X) (by rw [List.length_take, List.length_drop]; omega) hX
          rw [List.drop_zero] at hm hu
          (repeat (first | refine WL.want rfl rfl rfl ?_ | refine WL.step (Yl.move rfl) rfl ?_ | refine WL.step (Yl.assign rfl) rfl ?_ | refine WL.step (Yl.extract rfl rfl) rfl ?_ | refine WL.step (Yl.pick_f rfl rfl rfl) rfl ?_ | (refine WL.k_index ?_; refine WL.step (Yl.indexV (t := 239) (j := 0) (v := .int .i64 0) Tryz.underlying239 Tryz.isAgg3 Tryz.sizeOf3 rfl rfl (by decide) rfl) rfl ?_) | (refine WL.k_call 152 ?_; refine WL.callV (g := 152) (v := .tuple #[.int .u64 ((Big.val 0 (l.take 8) : Nat) : Int), .int .i64 0]) Tryz.call152 rfl (fun w s => uint_v a n cap l 0 8 _ w hl hn (by omega) (Rd.old hr w s) hu) rfl ?_) | (refine WL.k_bin .neq ?_; first | refine WL.step (Yl.neqF rfl rfl rfl) rfl ?_ | refine WL.step (Yl.neq rfl rfl) rfl ?_) | (refine WL.k_conv ?_; refine WL.step (Yl.convLt (s := 2) (t := 49) Tryz.underlying2 Tryz.underlying49 rfl rfl (by show _ < 18446744073709551616; omega)) rfl ?_) | refine WC.seq ?_ | refine WC.region ?_ | refine WL.nil ?_ | refine WN.then_normal ?_ | refine WC.block ?_ | refine WC.skip ?_))
          refine WC.ite rfl (fun h2 => ?_) (fun h2 => ?_)
          · have e : Frm.unst l (X : Int) = (13, []) := unst_torn he (.inr (.inl fun h => h2 (by rw [hm.1 h])))
            rw [e]
            (repeat (first | refine WL.step (Yl.assign rfl) rfl ?_ | refine WC.seq ?_ | refine WC.region ?_ | refine WL.nil ?_ | refine WN.then_normal ?_ | refine WC.ret ?_ | refine WN.then_ret ?_ | refine WN.block_ret ?_))
            exact WN.ret2 rfl rfl rfl (Slc.none _ 13) (.free .nil)
          · have h3 : l.take 8 = Big.be 8 X := hm.2 (by omega)
            (repeat (first | refine WL.step (Yl.move rfl) rfl ?_ | (refine WL.k_bin .add ?_; refine WL.step (Yl.add64C rfl (by omega)) rfl ?_) | refine WC.region ?_ | refine WL.nil ?_ | refine WN.then_normal ?_ | refine WC.skip ?_ | refine WN.block_normal ?_))
            exact WN.next 1 ⟨by omega, fun _ => h3, by omega⟩ (by omega) zS .nil
        · have hu := at8 (l := l) 120 (by omega)
          have hm := Big.be_eq (l := (l.drop 120).take 8) (k := 8) (x := X) (by rw [List.length_take, List.length_drop]; omega) hX
          (repeat (first | refine WL.want rfl rfl rfl ?_ | refine WL.step (Yl.move rfl) rfl ?_ | refine WL.step (Yl.assign rfl) rfl ?_ | refine WL.step (Yl.extract rfl rfl) rfl ?_ | refine WL.step (Yl.pick_f rfl rfl rfl) rfl ?_ | (refine WL.k_index ?_; refine WL.step (Yl.indexV (t := 239) (j := 1) (v := .int .i64 120) Tryz.underlying239 Tryz.isAgg3 Tryz.sizeOf3 rfl rfl (by decide) rfl) rfl ?_) | (refine WL.k_call 152 ?_; refine WL.callV (g := 152) (v := .tuple #[.int .u64 ((Big.val 0 ((l.drop 120).take 8) : Nat) : Int), .int .i64 0]) Tryz.call152 rfl (fun w s => uint_v a n cap l 120 8 _ w hl hn (by omega) (Rd.old hr w s) hu) rfl ?_) | (refine WL.k_bin .neq ?_; first | refine WL.step (Yl.neqF rfl rfl rfl) rfl ?_ | refine WL.step (Yl.neq rfl rfl) rfl ?_) | (refine WL.k_conv ?_; refine WL.step (Yl.convLt (s := 2) (t := 49) Tryz.underlying2 Tryz.underlying49 rfl rfl (by show _ < 18446744073709551616; omega)) rfl ?_) | refine WC.seq ?_ | refine WC.region ?_ | refine WL.nil ?_ | refine WN.then_normal ?_ | refine WC.block ?_ | refine WC.skip ?_))
          refine WC.ite rfl (fun h2 => ?_) (fun h2 => ?_)
          · have e : Frm.unst l (X : Int) = (13, []) := unst_torn he (.inr (.inr fun h => h2 (by rw [hm.1 h])))
            rw [e]
            (repeat (first | refine WL.step (Yl.assign rfl) rfl ?_ | refine WC.seq ?_ | refine WC.region ?_ | refine WL.nil ?_ | refine WN.then_normal ?_ | refine WC.ret ?_ | refine WN.then_ret ?_ | refine WN.block_ret ?_))
            exact WN.ret2 rfl rfl rfl (Slc.none _ 13) (.free .nil)
          · have h3 : (l.drop 120).take 8 = Big.be 8 X := hm.2 (by omega)
            (repeat (first | refine WL.step (Yl.move rfl) rfl ?_ | (refine WL.k_bin .add ?_; refine WL.step (Yl.add64C rfl (by omega)) rfl ?_) | refine WC.region ?_ | refine WL.nil ?_ | refine WN.then_normal ?_ | refine WC.skip ?_ | refine WN.block_normal ?_))
            exact WN.next 2 ⟨by omega, fun _ => hi1 (by omega), fun _ => h3⟩ (by omega) zS .nil
      · obtain rfl : i = 2 := by omega
        have e : Frm.unst l (X : Int) = (0, (l.drop 8).take 112) := unst_ok he fun h => by
          rcases h with h | h | h
          · omega
          · exact h (hi1 (by omega))
          · exact h (hi2 (by omega))
        have hd : ((l.drop 8).take 112).length = 112 := by rw [List.length_take, List.length_drop]; omega
        have hcell : CellsAt w (cutA a 8 cap 1) (bs ((l.drop 8).take 112)) := by
          have := Rd.cut (lo := 8) (cap := cap) (k := 1) (m := 112) (Rd.old (P := Tryz.prog) (n := 0) (A := []) hr) (by rw [bs_length]; omega) w (St.start w)
          rwa [Nat.mul_one, ← bs_drop, ← bs_take] at this
        rw [e]
        (repeat (first | refine WL.step (Yl.move rfl) rfl ?_ | (refine WL.k_slice ?_; refine WL.step (Yl.cut (t := 23) (lo := 8) (hi := 120) Tryz.underlying23 Tryz.sizeOf5 rfl rfl rfl (by decide) (by omega)) rfl ?_) | refine WC.seq ?_ | refine WC.region ?_ | refine WN.then_normal ?_ | refine WC.exit ?_ | refine WN.then_exit ?_ | refine WN.block_here ?_))
        refine WL.callR (g := 185) Tryz.call185 rfl (fun w s => clone_c _ _ _ ((l.drop 8).take 112) w hd (by omega) (Rd.old hcell w s)) rfl fun p hp => ?_
        (repeat (first | refine WL.step (Yl.assign rfl) rfl ?_ | refine WL.nil ?_ | refine WN.then_normal ?_ | refine WC.ret ?_))
        exact WN.ret2 rfl rfl rfl ⟨p.1, p.2, by rw [hd]; exact hp, by rw [hd]; rfl, rfl⟩ (.cons .here .nil)
  · have e : Frm.unst l x = (2, []) := by unfold Frm.unst; rw [if_pos he]
    rw [e]
    (repeat (first | refine WL.step (Yl.move rfl) rfl ?_ | refine WL.step (Yl.assign rfl) rfl ?_ | refine WL.callV (g := 178) (v := .bool false) Tryz.call178 rfl (fun w _ => epoch_f _ w he) rfl ?_ | refine WL.step (Yl.not rfl) rfl ?_ | refine WC.seq ?_ | refine WC.region ?_ | refine WL.nil ?_ | refine WN.then_normal ?_))
    refine WC.cond_true rfl rfl ?_
    (repeat (first | refine WL.step (Yl.assign rfl) rfl ?_ | refine WC.seq ?_ | refine WC.region ?_ | refine WL.nil ?_ | refine WN.then_normal ?_ | refine WC.ret ?_ | refine WN.then_ret ?_))
    exact WN.ret2 rfl rfl rfl (Slc.none _ 2) (.free .nil)
theorem cutOf {w : World} {a : Option Addr} {cap : Nat} {l : List UInt8} (lo m : Nat) (hr : CellsAt w a (bs l)) (hc : l.length ≤ cap) : CellsAt w (cutA a lo cap 1) (bs ((l.drop lo).take m)) := by
  have := Rd.cut (lo := lo) (cap := cap) (k := 1) (m := m) (Rd.old (P := Tryz.prog) (n := 0) (A := []) hr) (by rw [bs_length]; omega) w (St.start w)
  rwa [Nat.mul_one, ← bs_drop, ← bs_take] at this
theorem runstamp_c (x : Int) (a : Option Addr) (n cap : Nat) (l : List UInt8) (w : World) (hl : l.length = n) (hc : n ≤ cap) (hn : n ≤ 140737488355000) (hr : CellsAt w a (bs l)) :
    Calls Tryz.prog 165 #[.slice a n cap, .int .i64 x] w (Gives (Slc 5 (Frm.unst l x)) w) := by
  refine enter (args := [_, _]) Tryz.func165 Tryz.ntmps165 rfl rfl ?_
  by_cases he : Frm.Ep x
  · obtain ⟨X, rfl⟩ : ∃ X : Nat, x = (X : Int) := ⟨x.toNat, by omega⟩
    (repeat (first | refine WL.step (Yl.move rfl) rfl ?_ | refine WL.step (Yl.assign rfl) rfl ?_ | refine WL.callV (g := 194) (v := .bool true) Tryz.call194 rfl (fun w _ => repoch_t _ w he) rfl ?_ | refine WL.step (Yl.not rfl) rfl ?_ | refine WC.seq ?_ | refine WC.region ?_ | refine WL.nil ?_ | refine WN.then_normal ?_))
    refine WC.cond_false rfl rfl ?_
    (repeat (first | refine WC.seq ?_ | refine WN.then_normal ?_ | refine WC.skip ?_))
    refine WC.regionH [] (by kernel_rfl) ?_
    by_cases h0 : n < 128
    · have e : Frm.unst l (X : Int) = (13, []) := unst_torn he (.inl (by omega))
      rw [e]
      (refine WH.order [0, 1, 2, 3, 4, 5, 6, 7, 8, 9, 10, 11, 12, 13, 14, 15, 16, 17, 18] (by repeat (first | exact Part.nil | refine Part.cons zK ?_ | refine Part.free ?_)) (by kernel_rfl) ?_; (repeat (first | refine WT.passG rfl rfl rfl rfl (fun _ _ _ h => h) rfl (by kernel_rfl) (by kernel_rfl) ?_ | (refine WT.k_move rfl ?_; (refine WT.kn rfl ?_; refine WT.take rfl rfl (fun _ _ _ h => h) (Yl.move rfl) rfl (by kernel_rfl) (by kernel_rfl) ?_)) | (refine WT.k_pick rfl ?_; (refine WT.kn rfl ?_; refine WT.take rfl rfl (fun _ _ _ h => h) (Yl.pick_t rfl rfl rfl) rfl (by kernel_rfl) (by kernel_rfl) ?_)) | (refine WT.k_bin .lss rfl ?_; (refine WT.kn rfl ?_; refine WT.take rfl rfl (fun _ _ _ h => h) (Yl.lssT rfl rfl (by omega)) rfl (by kernel_rfl) (by kernel_rfl) ?_)) | (refine WT.k_bi .len rfl ?_; (refine WT.kn rfl ?_; refine WT.take rfl rfl (fun _ _ _ h => h) (Yl.len (t := 23) Tryz.underlying23 rfl) rfl (by kernel_rfl) (by kernel_rfl) ?_)))); refine WT.nil ?_)
      refine WH.done (by kernel_rfl) ?_
      (repeat (first | refine WN.then_normal ?_))
      refine WC.cond_true rfl rfl ?_
      (repeat (first | refine WL.step (Yl.assign rfl) rfl ?_ | refine WC.seq ?_ | refine WC.region ?_ | refine WL.nil ?_ | refine WN.then_normal ?_ | refine WC.ret ?_ | refine WN.then_ret ?_))
      exact WN.ret2 rfl rfl rfl (Slc.none _ 13) (.free .nil)
    · have hb8 := Big.be_length 8 X
      have h8 : (l.take 8).length = 8 := by rw [List.length_take]; omega
      have h12 : ((l.drop 120).take 8).length = 8 := by rw [List.length_take, List.length_drop]; omega
      have hc8 : CellsAt w (cutA a 0 cap 1) (bs (l.take 8)) := cutOf 0 8 hr (by omega)
      have hc12 : CellsAt w (cutA a 120 cap 1) (bs ((l.drop 120).take 8)) := cutOf 120 8 hr (by omega)
      (refine WH.order [0, 1, 2, 3, 4, 5, 6] (by repeat (first | exact Part.nil | refine Part.cons zK ?_ | refine Part.free ?_)) (by kernel_rfl) ?_; (repeat (first | (refine WT.k_move rfl ?_; first | (refine WT.kn rfl ?_; refine WT.take rfl rfl (fun _ _ _ h => h) (Yl.move rfl) rfl (by kernel_rfl) (by kernel_rfl) ?_) | (refine WT.kg rfl ?_; refine WT.takeG rfl rfl rfl rfl (fun _ _ _ h => h) (Yl.move rfl) rfl (by kernel_rfl) (by kernel_rfl) ?_)) | (refine WT.k_bin .lss rfl ?_; (refine WT.kn rfl ?_; refine WT.take rfl rfl (fun _ _ _ h => h) (Yl.lssF rfl rfl (by omega)) rfl (by kernel_rfl) (by kernel_rfl) ?_)) | (refine WT.k_slice rfl ?_; (refine WT.kg rfl ?_; refine WT.takeG rfl rfl rfl rfl (fun _ _ _ h => h) (Yl.cutTo (t := 23) (hi := 8) Tryz.underlying23 Tryz.sizeOf5 rfl rfl (by omega)) rfl (by kernel_rfl) (by kernel_rfl) ?_)) | (refine WT.k_bi .len rfl ?_; (refine WT.kn rfl ?_; refine WT.take rfl rfl (fun _ _ _ h => h) (Yl.len (t := 23) Tryz.underlying23 rfl) rfl (by kernel_rfl) (by kernel_rfl) ?_)))); refine WT.nil ?_)
      refine WH.only (i := 7) (by kernel_rfl) rfl ?_
      refine WL.want rfl rfl rfl ?_
      refine WL.callR (g := 196) Tryz.call196 rfl (fun w _ => rbytes_c X 8 w (by omega)) rfl fun p hp => ?_
      refine WL.nil (WN.nextH .nil ?_)
      refine WH.only (i := 8) (by kernel_rfl) rfl ?_
      refine WL.want rfl rfl rfl ?_
      by_cases h1 : l.take 8 = Big.be 8 X
      · refine WL.callV (g := 195) (v := .bool true) Tryz.call195 rfl (fun w s => by have := same_c (cutA a 0 cap 1) p.1 8 8 cap p.2 (l.take 8) (Big.be 8 X) w h8 hb8 (by omega) (Rd.old hc8 w s) (Rd.row (.head _) w s); rwa [decide_eq_true h1] at this) rfl ?_
        refine WL.nil (WN.nextH .nil ?_)
        (refine WH.order [9, 10, 11, 12, 13, 14] (by repeat (first | exact Part.nil | refine Part.cons zK ?_ | refine Part.free ?_)) (by kernel_rfl) ?_; (repeat (first | (refine WT.k_move rfl ?_; first | (refine WT.kn rfl ?_; refine WT.take rfl rfl (fun _ _ _ h => h) (Yl.move rfl) rfl (by kernel_rfl) (by kernel_rfl) ?_) | (refine WT.kg rfl ?_; refine WT.takeG rfl rfl rfl rfl (fun _ _ _ h => h) (Yl.move rfl) rfl (by kernel_rfl) (by kernel_rfl) ?_)) | (refine WT.k_pick rfl ?_; (refine WT.kn rfl ?_; refine WT.take rfl rfl (fun _ _ _ h => h) (Yl.pick_f rfl rfl rfl) rfl (by kernel_rfl) (by kernel_rfl) ?_)) | (refine WT.k_slice rfl ?_; (refine WT.kg rfl ?_; refine WT.takeG rfl rfl rfl rfl (fun _ _ _ h => h) (Yl.cut (t := 23) (lo := 120) (hi := 128) Tryz.underlying23 Tryz.sizeOf5 rfl rfl rfl (by decide) (by omega)) rfl (by kernel_rfl) (by kernel_rfl) ?_)) | (refine WT.k_unop rfl ?_; (refine WT.kg rfl ?_; refine WT.takeG rfl rfl rfl rfl (fun _ _ _ h => h) (Yl.not rfl) rfl (by kernel_rfl) (by kernel_rfl) ?_)))); refine WT.nil ?_)
        refine WH.only (i := 15) (by kernel_rfl) rfl ?_
        refine WL.want rfl rfl rfl ?_
        refine WL.callR (g := 196) Tryz.call196 rfl (fun w _ => rbytes_c X 8 w (by omega)) rfl fun p2 hp2 => ?_
        refine WL.nil (WN.nextH .nil ?_)
        refine WH.only (i := 16) (by kernel_rfl) rfl ?_
        refine WL.want rfl rfl rfl ?_
        by_cases h2 : (l.drop 120).take 8 = Big.be 8 X
        · have e : Frm.unst l (X : Int) = (0, (l.drop 8).take 112) := unst_ok he fun h => by
            rcases h with h | h | h
            · omega
            · exact h h1
            · exact h h2
          have hd : ((l.drop 8).take 112).length = 112 := by rw [List.length_take, List.length_drop]; omega
          have hcell : CellsAt w (cutA a 8 cap 1) (bs ((l.drop 8).take 112)) := cutOf 8 112 hr (by omega)
          rw [e]
          refine WL.callV (g := 195) (v := .bool true) Tryz.call195 rfl (fun w s => by have := same_c (cutA a 120 cap 1) p2.1 (128 - 120) 8 (cap - 120) p2.2 ((l.drop 120).take 8) (Big.be 8 X) w h12 hb8 (by omega) (Rd.old hc12 w s) (Rd.row (.head _) w s); rwa [decide_eq_true h2] at this) rfl ?_
          refine WL.nil (WN.nextH .nil ?_)
          (refine WH.order [17, 18] (by repeat (first | exact Part.nil | refine Part.cons zK ?_ | refine Part.free ?_)) (by kernel_rfl) ?_; (repeat (first | (refine WT.k_pick rfl ?_; (refine WT.kn rfl ?_; refine WT.take rfl rfl (fun _ _ _ h => h) (Yl.pick_f rfl rfl rfl) rfl (by kernel_rfl) (by kernel_rfl) ?_)) | (refine WT.k_unop rfl ?_; (refine WT.kg rfl ?_; refine WT.takeG rfl rfl rfl rfl (fun _ _ _ h => h) (Yl.not rfl) rfl (by kernel_rfl) (by kernel_rfl) ?_)))); refine WT.nil ?_)
          refine WH.done (by kernel_rfl) ?_
          (repeat (first | refine WN.then_normal ?_))
          refine WC.cond_false rfl rfl ?_
          (repeat (first | refine WC.seq ?_ | refine WC.region ?_ | refine WN.then_normal ?_ | refine WC.skip ?_))
          refine WL.lit (t := 23) Tryz.underlying23 elemU8 rfl rfl rfl (by simp) rfl fun b => ?_
          (repeat (first | refine WL.step (Yl.move rfl) rfl ?_ | (refine WL.k_slice ?_; refine WL.step (Yl.cut (t := 23) (lo := 8) (hi := 120) Tryz.underlying23 Tryz.sizeOf5 rfl rfl rfl (by decide) (by omega)) rfl ?_)))
          refine WL.appendRow (t := 23) Tryz.underlying23 elemU8 rfl rfl .here rfl (by omega) (Rd.old hcell) (by rw [bs_length]; omega) (bs_one _) (by omega) (by simp only [maxLen]; omega) rfl fun p3 hp3 => ?_
          (repeat (first | refine WL.step (Yl.assign rfl) rfl ?_ | refine WL.nil ?_ | refine WN.then_normal ?_ | refine WC.ret ?_))
          exact WN.ret2 rfl rfl rfl ⟨p3.1, p3.2, by rw [hd]; omega, by rw [hd]; rfl, rfl⟩ (.cons .here .nil)
        · have e : Frm.unst l (X : Int) = (13, []) := unst_torn he (.inr (.inr h2))
          rw [e]
          refine WL.callV (g := 195) (v := .bool false) Tryz.call195 rfl (fun w s => by have := same_c (cutA a 120 cap 1) p2.1 (128 - 120) 8 (cap - 120) p2.2 ((l.drop 120).take 8) (Big.be 8 X) w h12 hb8 (by omega) (Rd.old hc12 w s) (Rd.row (.head _) w s); rwa [decide_eq_false h2] at this) rfl ?_
          refine WL.nil (WN.nextH .nil ?_)
          (refine WH.order [17, 18] (by repeat (first | exact Part.nil | refine Part.cons zK ?_ | refine Part.free ?_)) (by kernel_rfl) ?_; (repeat (first | (refine WT.k_pick rfl ?_; (refine WT.kn rfl ?_; refine WT.take rfl rfl (fun _ _ _ h => h) (Yl.pick_f rfl rfl rfl) rfl (by kernel_rfl) (by kernel_rfl) ?_)) | (refine WT.k_unop rfl ?_; (refine WT.kg rfl ?_; refine WT.takeG rfl rfl rfl rfl (fun _ _ _ h => h) (Yl.not rfl) rfl (by kernel_rfl) (by kernel_rfl) ?_)))); refine WT.nil ?_)
          refine WH.done (by kernel_rfl) ?_
          (repeat (first | refine WN.then_normal ?_))
          refine WC.cond_true rfl rfl ?_
          (repeat (first | refine WL.step (Yl.assign rfl) rfl ?_ | refine WC.seq ?_ | refine WC.region ?_ | refine WL.nil ?_ | refine WN.then_normal ?_ | refine WC.ret ?_ | refine WN.then_ret ?_))
          exact WN.ret2 rfl rfl rfl (Slc.none _ 13) (.free .nil)
      · have e : Frm.unst l (X : Int) = (13, []) := unst_torn he (.inr (.inl h1))
        rw [e]
        refine WL.callV (g := 195) (v := .bool false) Tryz.call195 rfl (fun w s => by have := same_c (cutA a 0 cap 1) p.1 8 8 cap p.2 (l.take 8) (Big.be 8 X) w h8 hb8 (by omega) (Rd.old hc8 w s) (Rd.row (.head _) w s); rwa [decide_eq_false h1] at this) rfl ?_
        refine WL.nil (WN.nextH .nil ?_)
        (refine WH.order [9, 10, 11, 12, 13, 14, 15, 16, 17, 18] (by repeat (first | exact Part.nil | refine Part.cons zK ?_ | refine Part.free ?_)) (by kernel_rfl) ?_; (repeat (first | refine WT.passG rfl rfl rfl rfl (fun _ _ _ h => h) rfl (by kernel_rfl) (by kernel_rfl) ?_ | (refine WT.k_move rfl ?_; (refine WT.kn rfl ?_; refine WT.take rfl rfl (fun _ _ _ h => h) (Yl.move rfl) rfl (by kernel_rfl) (by kernel_rfl) ?_)) | (refine WT.k_pick rfl ?_; (refine WT.kn rfl ?_; first | refine WT.take rfl rfl (fun _ _ _ h => h) (Yl.pick_t rfl rfl rfl) rfl (by kernel_rfl) (by kernel_rfl) ?_ | refine WT.take rfl rfl (fun _ _ _ h => h) (Yl.pick_f rfl rfl rfl) rfl (by kernel_rfl) (by kernel_rfl) ?_)) | (refine WT.k_unop rfl ?_; (refine WT.kg rfl ?_; refine WT.takeG rfl rfl rfl rfl (fun _ _ _ h => h) (Yl.not rfl) rfl (by kernel_rfl) (by kernel_rfl) ?_)))); refine WT.nil ?_)
        refine WH.done (by kernel_rfl) ?_
        (repeat (first | refine WN.then_normal ?_))
        refine WC.cond_true rfl rfl ?_
        (repeat (first | refine WL.step (Yl.assign rfl) rfl ?_ | refine WC.seq ?_ | refine WC.region ?_ | refine WL.nil ?_ | refine WN.then_normal ?_ | refine WC.ret ?_ | refine WN.then_ret ?_))
        exact WN.ret2 rfl rfl rfl (Slc.none _ 13) (.free .nil)
  · have e : Frm.unst l x = (2, []) := by unfold Frm.unst; rw [if_pos he]
    rw [e]
    (repeat (first | refine WL.step (Yl.move rfl) rfl ?_ | refine WL.step (Yl.assign rfl) rfl ?_ | refine WL.callV (g := 194) (v := .bool false) Tryz.call194 rfl (fun w _ => repoch_f _ w he) rfl ?_ | refine WL.step (Yl.not rfl) rfl ?_ | refine WC.seq ?_ | refine WC.region ?_ | refine WL.nil ?_ | refine WN.then_normal ?_))
    refine WC.cond_true rfl rfl ?_
    (repeat (first | refine WL.step (Yl.assign rfl) rfl ?_ | refine WC.seq ?_ | refine WC.region ?_ | refine WL.nil ?_ | refine WN.then_normal ?_ | refine WC.ret ?_ | refine WN.then_ret ?_))
    exact WN.ret2 rfl rfl rfl (Slc.none _ 2) (.free .nil)
end Go.Proofs.YtbkdjfgkebkknaaGreatDoor
