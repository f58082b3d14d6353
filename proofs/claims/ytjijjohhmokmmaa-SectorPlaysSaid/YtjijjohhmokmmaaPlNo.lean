/- A bank and the document's, step by step: what New refuses; nothing is looked at. -/
import Derived.Test.YtjijjohhmokmmaaPlSt
namespace Go.Proofs.Ytjijjohhmokmmaa
set_option linter.unusedVariables false
set_option linter.unusedSimpArgs false
open Go Go.RowKit
set_option maxRecDepth 100000
set_option maxHeartbeats 8000000
attribute [local irreducible] WL WC WN Yl WH WQ WT WE WU WG WV
theorem lplays_few (z : Int) (a : Option Addr) (m cap : Nat) (L : List Step) (w : World) (hl : L.length = m) (hm : m ≤ 9223372036854775807) (hr : CellsAt w a (L.flatMap Step.cs)) (hok : ∀ s ∈ L, s.Ok w) (hf : ¬ fewOk L 40) : Calls Try.prog 8 #[.int .i64 z, .slice a m cap] w (Gives (Val (.bool true)) w) := by
  refine enter (args := [_, _]) Try.func8 Try.ntmps8 rfl rfl ?_
  (repeat (first | refine WL.step (Yl.move rfl) rfl ?_ | refine WL.step (Yl.assign rfl) rfl ?_ | refine WC.seq ?_ | refine WC.region ?_ | refine WL.nil ?_ | refine WN.then_normal ?_))
  refine WL.callV (g := 29) (v := .bool false) Try.call29 rfl (fun w0 st => by have := lfew_c a m cap L 40 w0 hl hm (hr.keep st.kept) (fun t ht => (hok t ht).keep st.kept); rwa [decide_eq_false hf] at this) rfl ?_
  (repeat (first | (refine WL.kG ?_; first | refine WL.passU rfl rfl rfl ?_ | refine WL.pass rfl rfl rfl rfl ?_) | refine WL.step (Yl.move rfl) rfl ?_ | refine WL.step (Yl.pick_t rfl rfl rfl) rfl ?_ | refine WL.step (Yl.not rfl) rfl ?_ | refine WL.nil ?_ | refine WN.then_normal ?_))
  refine WC.cond_true rfl rfl ?_
  (repeat (first | refine WL.step (Yl.assign rfl) rfl ?_ | (refine WL.k_call 12 ?_; refine WL.callV (g := 12) Try.call12 rfl (fun w s => works32_c w) rfl ?_) | refine WC.seq ?_ | refine WC.region ?_ | refine WL.nil ?_ | refine WN.then_normal ?_ | refine WC.ret ?_ | refine WN.then_ret ?_))
  exact WN.ret1 rfl rfl ⟨rfl, rfl⟩ .nil
theorem lplays_many (z : Int) (a : Option Addr) (m cap : Nat) (L : List Step) (w : World) (hl : L.length = m) (hm : m ≤ 9223372036854775807) (hr : CellsAt w a (L.flatMap Step.cs)) (hok : ∀ s ∈ L, s.Ok w) (hf : fewOk L 40) (h1 : 12 < z) (h2 : z ≤ 4096) : Calls Try.prog 8 #[.int .i64 z, .slice a m cap] w (Gives (Val (.bool true)) w) := by
  refine enter (args := [_, _]) Try.func8 Try.ntmps8 rfl rfl ?_
  (repeat (first | refine WL.step (Yl.move rfl) rfl ?_ | refine WL.step (Yl.assign rfl) rfl ?_ | refine WC.seq ?_ | refine WC.region ?_ | refine WL.nil ?_ | refine WN.then_normal ?_))
  refine WL.callV (g := 29) (v := .bool true) Try.call29 rfl (fun w0 st => by have := lfew_c a m cap L 40 w0 hl hm (hr.keep st.kept) (fun t ht => (hok t ht).keep st.kept); rwa [decide_eq_true hf] at this) rfl ?_
  (repeat (first | refine WL.want rfl rfl rfl ?_ | refine WL.step (Yl.move rfl) rfl ?_ | (refine WL.k_pick ?_; first | refine WL.step (Yl.pick_t rfl rfl rfl) rfl ?_ | refine WL.step (Yl.pick_f rfl rfl rfl) rfl ?_) | (refine WL.k_bin .gtr ?_; refine WL.step (Yl.gtrT rfl rfl (by omega)) rfl ?_) | (refine WL.k_bin .leq ?_; refine WL.step (Yl.leqT rfl rfl (by omega)) rfl ?_) | refine WL.step (Yl.not rfl) rfl ?_ | refine WL.nil ?_ | refine WN.then_normal ?_))
  refine WC.cond_true rfl rfl ?_
  (repeat (first | refine WL.step (Yl.assign rfl) rfl ?_ | (refine WL.k_call 12 ?_; refine WL.callV (g := 12) Try.call12 rfl (fun w s => works32_c w) rfl ?_) | refine WC.seq ?_ | refine WC.region ?_ | refine WL.nil ?_ | refine WN.then_normal ?_ | refine WC.ret ?_ | refine WN.then_ret ?_))
  exact WN.ret1 rfl rfl ⟨rfl, rfl⟩ .nil
theorem lplays_no (z : Int) (a : Option Addr) (m cap : Nat) (L : List Step) (w : World) (hl : L.length = m) (hm : m ≤ 9223372036854775807) (hr : CellsAt w a (L.flatMap Step.cs)) (hok : ∀ s ∈ L, s.Ok w) (hf : fewOk L 40) (h : z < 1 ∨ 4096 < z) : Calls Try.prog 8 #[.int .i64 z, .slice a m cap] w (Gives (Val (.bool true)) w) := by
  refine enter (args := [_, _]) Try.func8 Try.ntmps8 rfl rfl ?_
  (repeat (first | refine WL.step (Yl.move rfl) rfl ?_ | refine WL.step (Yl.assign rfl) rfl ?_ | refine WC.seq ?_ | refine WC.region ?_ | refine WL.nil ?_ | refine WN.then_normal ?_))
  refine WL.callV (g := 29) (v := .bool true) Try.call29 rfl (fun w0 st => by have := lfew_c a m cap L 40 w0 hl hm (hr.keep st.kept) (fun t ht => (hok t ht).keep st.kept); rwa [decide_eq_true hf] at this) rfl ?_
  by_cases hz : z < 1
  · (repeat (first | (refine WL.kG ?_; first | refine WL.want rfl rfl rfl ?_ | refine WL.pass rfl rfl rfl rfl ?_) | refine WL.step (Yl.move rfl) rfl ?_ | refine WL.step (Yl.pick_f rfl rfl rfl) rfl ?_ | (refine WL.k_bin .gtr ?_; refine WL.step (Yl.gtrF rfl rfl (by omega)) rfl ?_) | refine WL.step (Yl.not rfl) rfl ?_ | refine WL.nil ?_ | refine WN.then_normal ?_))
    refine WC.cond_false rfl rfl ?_
    (repeat (first | refine WL.step (Yl.move rfl) rfl ?_ | refine WC.seq ?_ | refine WC.region ?_ | refine WN.then_normal ?_ | refine WC.skip ?_))
    refine WL.callV (g := 17) (v := .tuple #[.pointer none, .int .i64 2]) Try.call17 rfl (fun w0 st => bnew_no z w0 h) rfl ?_
    (repeat (first | refine WL.step (Yl.move rfl) rfl ?_ | refine WL.step (Yl.assign rfl) rfl ?_ | refine WL.step (Yl.extract rfl rfl) rfl ?_ | refine WC.seq ?_ | refine WC.region ?_ | refine WL.nil ?_ | refine WN.then_normal ?_))
    refine WL.callV (g := 30) (v := .tuple #[.pointer none, .int .i64 2]) Try.call30 rfl (fun w0 st => rnew_no z w0 h) rfl ?_
    (repeat (first | refine WL.want rfl rfl rfl ?_ | refine WL.step (Yl.move rfl) rfl ?_ | refine WL.step (Yl.assign rfl) rfl ?_ | refine WL.step (Yl.extract rfl rfl) rfl ?_ | refine WL.step (Yl.pick_f rfl rfl rfl) rfl ?_ | (refine WL.k_bin .neq ?_; first | refine WL.step (Yl.neqF rfl rfl rfl) rfl ?_ | refine WL.step (Yl.neqB (t := 4) Try.underlying4 rfl rfl) rfl ?_) | (refine WL.k_bin .eql ?_; refine WL.step (Yl.eqlPN (by kernel_rfl) rfl) rfl ?_) | refine WC.seq ?_ | refine WC.region ?_ | refine WL.nil ?_ | refine WN.then_normal ?_))
    refine WC.cond_false rfl rfl ?_
    (repeat (first | refine WL.step (Yl.assign rfl) rfl ?_ | refine WC.seq ?_ | refine WC.region ?_ | refine WL.nil ?_ | refine WN.then_normal ?_ | refine WC.block ?_ | refine WC.skip ?_))
    refine WC.loop (α := Nat) (fun i => [(1, .slice a m cap), (5, .pointer none), (7, .pointer none), (9, .int .i64 (i : Int))]) (fun _ => []) (fun i => i ≤ m) (fun i => m - i) 0 (by repeat (first | exact Sub.nil | refine Sub.cons rfl rfl ?_)) .nil (Nat.zero_le _) ?_
    intro i hi
    (repeat (first | refine WL.step (Yl.move rfl) rfl ?_ | refine WL.step (Yl.len (t := 57) Try.underlying57 rfl) rfl ?_ | refine WL.step (Yl.lss rfl rfl) rfl ?_ | refine WC.seq ?_ | refine WC.region ?_ | refine WL.nil ?_ | refine WN.then_normal ?_))
    refine WC.ite rfl (fun g1 => ?_) (fun g1 => ?_)
    · have hid : i < m := by omega
      obtain ⟨x, hx⟩ : ∃ t, L[i]? = some t := ⟨_, List.getElem?_eq_getElem (by omega)⟩
      (repeat (first | refine WL.step (Yl.move rfl) rfl ?_ | (refine WL.k_load ?_; refine WL.step (Yl.loadEl x.cs Try.isAgg63 Try.sizeOf63 rfl (Rd.old hr) x.len (by simp [Step.cs]) (step_at hx)) rfl ?_) | refine WL.step (Yl.indexAddr (t := 57) (j := i) Try.underlying57 Try.sizeOf63 rfl rfl (Rd.old hr) (step_ne hx) hid) rfl ?_ | refine WC.seq ?_ | refine WC.region ?_ | refine WN.then_normal ?_ | refine WC.block ?_ | refine WC.skip ?_))
      refine WL.allocA Try.zeroValue63 rfl fun b1 => ?_
      refine WL.storeWhole (T := 63) (k := 4) Try.sizeOf63 rfl rfl rfl .here rfl rfl ?_
      (repeat (first | refine WL.step (Yl.assign rfl) rfl ?_ | (refine WL.k_load ?_; refine WL.step (Yl.loadBlk (T := 3) Try.isAgg3 rfl (by repeat (first | exact .head _ | refine .tail _ ?_)) (by rfl)) rfl ?_) | (refine WL.k_fld ?_; refine WL.step (Yl.fldN0 (i := 0) (o := 0) (by kernel_rfl) rfl) rfl ?_) | refine WL.step (Yl.eql rfl rfl) rfl ?_ | refine WC.seq ?_ | refine WC.region ?_ | refine WL.nil ?_ | refine WN.then_normal ?_ | refine WC.block ?_))
      by_cases h0 : x.act = 0
      · refine WC.cond_true rfl (decide_eq_true h0) ?_
        (repeat (first | refine WC.seq ?_))
        refine WC.regionH [.blk b1 (.cells x.cs.toArray 63 (0, 0))] (by kernel_rfl) ?_
        (refine WH.order [0, 1, 2, 3, 4, 6, 7, 8, 9, 10] (by repeat (first | exact Part.nil | refine Part.cons (by repeat (first | exact Pick.here | apply Pick.there)) ?_ | refine Part.free ?_)) (by kernel_rfl) ?_; (repeat (first | (refine WT.k_move rfl ?_; (refine WT.kn rfl ?_; refine WT.take rfl rfl (fun _ _ _ h => h) (Yl.move rfl) rfl (by kernel_rfl) (by kernel_rfl) ?_)) | (refine WT.k_load rfl ?_; (refine WT.kn rfl ?_; first | refine WT.take rfl rfl (fun _ _ _ h => h) (Yl.loadBlk (T := 3) Try.isAgg3 rfl (by repeat (first | exact .head _ | refine .tail _ ?_)) (by rfl)) rfl (by kernel_rfl) (by kernel_rfl) ?_ | refine WT.take rfl rfl (fun _ _ _ h => h) (Yl.loadBlk (T := 22) Try.isAgg22 rfl (by repeat (first | exact .head _ | refine .tail _ ?_)) (by rfl)) rfl (by kernel_rfl) (by kernel_rfl) ?_)) | (refine WT.k_fld rfl ?_; (refine WT.kn rfl ?_; first | refine WT.take rfl rfl (fun _ _ _ h => h) (Yl.fldN0 (i := 1) (o := 1) (by kernel_rfl) rfl) rfl (by kernel_rfl) (by kernel_rfl) ?_ | refine WT.take rfl rfl (fun _ _ _ h => h) (Yl.fldN0 (i := 2) (o := 2) (by kernel_rfl) rfl) rfl (by kernel_rfl) (by kernel_rfl) ?_)))); refine WT.nil ?_)
        refine WH.only (i := 5) (by kernel_rfl) rfl ?_
        refine WL.callV (g := 19) (v := .int .i64 1) Try.call19 rfl (fun w0 st => bwrite_bad x.a x.n x.c x.sec _ w0 .none) rfl ?_
        refine WL.nil (WN.nextH (by repeat (first | exact Part.nil | refine Part.cons (by repeat (first | exact Pick.here | apply Pick.there)) ?_ | refine Part.free ?_)) ?_)
        refine WH.only (i := 11) (by kernel_rfl) rfl ?_
        refine WL.callV (g := 31) (v := .int .i64 1) Try.call31 rfl (fun w0 st => rwrite_no x.sec x.a x.n x.c w0) rfl ?_
        refine WL.nil (WN.nextH (by repeat (first | exact Part.nil | refine Part.cons (by repeat (first | exact Pick.here | apply Pick.there)) ?_ | refine Part.free ?_)) ?_)
        (refine WH.order [12] (by repeat (first | exact Part.nil | refine Part.cons (by repeat (first | exact Pick.here | apply Pick.there)) ?_ | refine Part.free ?_)) (by kernel_rfl) ?_; (repeat (first | (refine WT.k_bin .neq rfl ?_; (refine WT.kn rfl ?_; refine WT.take rfl rfl (fun _ _ _ h => h) (Yl.neqF rfl rfl rfl) rfl (by kernel_rfl) (by kernel_rfl) ?_)))); refine WT.nil ?_)
        refine WH.done (by kernel_rfl) ?_
        (repeat (first | refine WN.then_normal ?_))
        refine WC.cond_false rfl rfl ?_
        (repeat (first | refine WL.step (Yl.move rfl) rfl ?_ | (refine WL.k_load ?_; refine WL.step (Yl.loadBlk (T := 3) Try.isAgg3 rfl (by repeat (first | exact .head _ | refine .tail _ ?_)) (by rfl)) rfl ?_) | (refine WL.k_fld ?_; refine WL.step (Yl.fldN0 (i := 1) (o := 1) (by kernel_rfl) rfl) rfl ?_) | refine WC.seq ?_ | refine WC.region ?_ | refine WN.then_normal ?_ | refine WC.skip ?_ | refine WN.block_normal ?_))
        refine WL.callV (g := 37) (v := .bool true) Try.call37 rfl (fun w0 st => whole_no x.sec w0) rfl ?_
        (repeat (first | refine WL.step (Yl.not rfl) rfl ?_ | refine WL.nil ?_ | refine WN.then_normal ?_))
        refine WC.cond_false rfl rfl ?_
        (repeat (first | refine WL.step (Yl.move rfl) rfl ?_ | refine WL.step (Yl.assign rfl) rfl ?_ | (refine WL.k_bin .add ?_; refine WL.step (Yl.add64C rfl (by omega)) rfl ?_) | refine WC.region ?_ | refine WL.nil ?_ | refine WN.then_normal ?_ | refine WC.skip ?_ | refine WN.block_normal ?_))
        exact WN.next (i + 1) (by omega) (by omega) (by repeat (first | exact Sub.nil | refine Sub.cons rfl rfl ?_)) .nil
      by_cases h1 : x.act = 1
      · refine WC.cond_false rfl (decide_eq_false h0) ?_
        (repeat (first | refine WL.step (Yl.assign rfl) rfl ?_ | refine WL.step (Yl.eql rfl rfl) rfl ?_ | refine WC.seq ?_ | refine WC.region ?_ | refine WL.nil ?_ | refine WN.then_normal ?_))
        refine WC.cond_true rfl (decide_eq_true h1) ?_
        (repeat (first | refine WL.step (Yl.move rfl) rfl ?_ | refine WC.seq ?_ | refine WC.region ?_))
        refine WL.callV (g := 32) (v := .int .i64 1) Try.call32 rfl (fun w0 st => bsync_bad _ w0 .none) rfl ?_
        (repeat (first | refine WL.step (Yl.move rfl) rfl ?_))
        refine WL.callV (g := 33) (v := .int .i64 1) Try.call33 rfl (fun w0 st => rsync_no w0) rfl ?_
        (repeat (first | refine WL.step (Yl.neqF rfl rfl rfl) rfl ?_ | refine WL.nil ?_ | refine WN.then_normal ?_))
        refine WC.cond_false rfl rfl ?_
        (repeat (first | refine WL.step (Yl.move rfl) rfl ?_ | (refine WL.k_load ?_; refine WL.step (Yl.loadBlk (T := 3) Try.isAgg3 rfl (by repeat (first | exact .head _ | refine .tail _ ?_)) (by rfl)) rfl ?_) | (refine WL.k_fld ?_; refine WL.step (Yl.fldN0 (i := 1) (o := 1) (by kernel_rfl) rfl) rfl ?_) | refine WC.seq ?_ | refine WC.region ?_ | refine WN.then_normal ?_ | refine WC.skip ?_ | refine WN.block_normal ?_))
        refine WL.callV (g := 37) (v := .bool true) Try.call37 rfl (fun w0 st => whole_no x.sec w0) rfl ?_
        (repeat (first | refine WL.step (Yl.not rfl) rfl ?_ | refine WL.nil ?_ | refine WN.then_normal ?_))
        refine WC.cond_false rfl rfl ?_
        (repeat (first | refine WL.step (Yl.move rfl) rfl ?_ | refine WL.step (Yl.assign rfl) rfl ?_ | (refine WL.k_bin .add ?_; refine WL.step (Yl.add64C rfl (by omega)) rfl ?_) | refine WC.region ?_ | refine WL.nil ?_ | refine WN.then_normal ?_ | refine WC.skip ?_ | refine WN.block_normal ?_))
        exact WN.next (i + 1) (by omega) (by omega) (by repeat (first | exact Sub.nil | refine Sub.cons rfl rfl ?_)) .nil
      by_cases h2 : x.act = 2
      · refine WC.cond_false rfl (decide_eq_false h0) ?_
        (repeat (first | refine WL.step (Yl.assign rfl) rfl ?_ | refine WL.step (Yl.eql rfl rfl) rfl ?_ | refine WC.seq ?_ | refine WC.region ?_ | refine WL.nil ?_ | refine WN.then_normal ?_))
        refine WC.cond_false rfl (decide_eq_false h1) ?_
        (repeat (first | refine WL.step (Yl.assign rfl) rfl ?_ | refine WL.step (Yl.eql rfl rfl) rfl ?_ | refine WC.seq ?_ | refine WC.region ?_ | refine WL.nil ?_ | refine WN.then_normal ?_))
        refine WC.cond_true rfl (decide_eq_true h2) ?_
        (repeat (first | refine WC.seq ?_))
        refine WC.regionH [.blk b1 (.cells x.cs.toArray 63 (0, 0))] (by kernel_rfl) ?_
        (refine WH.order [0, 1, 2, 4, 5, 6] (by repeat (first | exact Part.nil | refine Part.cons (by repeat (first | exact Pick.here | apply Pick.there)) ?_ | refine Part.free ?_)) (by kernel_rfl) ?_; (repeat (first | (refine WT.k_move rfl ?_; (refine WT.kn rfl ?_; refine WT.take rfl rfl (fun _ _ _ h => h) (Yl.move rfl) rfl (by kernel_rfl) (by kernel_rfl) ?_)) | (refine WT.k_load rfl ?_; (refine WT.kn rfl ?_; refine WT.take rfl rfl (fun _ _ _ h => h) (Yl.loadBlk (T := 41) Try.isAgg41 rfl (by repeat (first | exact .head _ | refine .tail _ ?_)) (by rfl)) rfl (by kernel_rfl) (by kernel_rfl) ?_)) | (refine WT.k_fld rfl ?_; (refine WT.kn rfl ?_; refine WT.take rfl rfl (fun _ _ _ h => h) (Yl.fldN0 (i := 3) (o := 3) (by kernel_rfl) rfl) rfl (by kernel_rfl) (by kernel_rfl) ?_)))); refine WT.nil ?_)
        refine WH.only (i := 3) (by kernel_rfl) rfl ?_
        refine WL.callV (g := 22) (v := .int .i64 1) Try.call22 rfl (fun w0 st => bcrash_bad _ x.a2 x.n2 x.c2 w0 .none) rfl ?_
        refine WL.nil (WN.nextH (by repeat (first | exact Part.nil | refine Part.cons (by repeat (first | exact Pick.here | apply Pick.there)) ?_ | refine Part.free ?_)) ?_)
        refine WH.only (i := 7) (by kernel_rfl) rfl ?_
        refine WL.callV (g := 34) (v := .int .i64 1) Try.call34 rfl (fun w0 st => rcrash_no x.a2 x.n2 x.c2 w0) rfl ?_
        refine WL.nil (WN.nextH (by repeat (first | exact Part.nil | refine Part.cons (by repeat (first | exact Pick.here | apply Pick.there)) ?_ | refine Part.free ?_)) ?_)
        (refine WH.order [8] (by repeat (first | exact Part.nil | refine Part.cons (by repeat (first | exact Pick.here | apply Pick.there)) ?_ | refine Part.free ?_)) (by kernel_rfl) ?_; (repeat (first | (refine WT.k_bin .neq rfl ?_; (refine WT.kn rfl ?_; refine WT.take rfl rfl (fun _ _ _ h => h) (Yl.neqF rfl rfl rfl) rfl (by kernel_rfl) (by kernel_rfl) ?_)))); refine WT.nil ?_)
        refine WH.done (by kernel_rfl) ?_
        (repeat (first | refine WN.then_normal ?_))
        refine WC.cond_false rfl rfl ?_
        (repeat (first | refine WL.step (Yl.move rfl) rfl ?_ | (refine WL.k_load ?_; refine WL.step (Yl.loadBlk (T := 3) Try.isAgg3 rfl (by repeat (first | exact .head _ | refine .tail _ ?_)) (by rfl)) rfl ?_) | (refine WL.k_fld ?_; refine WL.step (Yl.fldN0 (i := 1) (o := 1) (by kernel_rfl) rfl) rfl ?_) | refine WC.seq ?_ | refine WC.region ?_ | refine WN.then_normal ?_ | refine WC.skip ?_ | refine WN.block_normal ?_))
        refine WL.callV (g := 37) (v := .bool true) Try.call37 rfl (fun w0 st => whole_no x.sec w0) rfl ?_
        (repeat (first | refine WL.step (Yl.not rfl) rfl ?_ | refine WL.nil ?_ | refine WN.then_normal ?_))
        refine WC.cond_false rfl rfl ?_
        (repeat (first | refine WL.step (Yl.move rfl) rfl ?_ | refine WL.step (Yl.assign rfl) rfl ?_ | (refine WL.k_bin .add ?_; refine WL.step (Yl.add64C rfl (by omega)) rfl ?_) | refine WC.region ?_ | refine WL.nil ?_ | refine WN.then_normal ?_ | refine WC.skip ?_ | refine WN.block_normal ?_))
        exact WN.next (i + 1) (by omega) (by omega) (by repeat (first | exact Sub.nil | refine Sub.cons rfl rfl ?_)) .nil
      by_cases h3 : x.act = 3
      · refine WC.cond_false rfl (decide_eq_false h0) ?_
        (repeat (first | refine WL.step (Yl.assign rfl) rfl ?_ | refine WL.step (Yl.eql rfl rfl) rfl ?_ | refine WC.seq ?_ | refine WC.region ?_ | refine WL.nil ?_ | refine WN.then_normal ?_))
        refine WC.cond_false rfl (decide_eq_false h1) ?_
        (repeat (first | refine WL.step (Yl.assign rfl) rfl ?_ | refine WL.step (Yl.eql rfl rfl) rfl ?_ | refine WC.seq ?_ | refine WC.region ?_ | refine WL.nil ?_ | refine WN.then_normal ?_))
        refine WC.cond_false rfl (decide_eq_false h2) ?_
        (repeat (first | refine WL.step (Yl.assign rfl) rfl ?_ | refine WL.step (Yl.eql rfl rfl) rfl ?_ | refine WC.seq ?_ | refine WC.region ?_ | refine WL.nil ?_ | refine WN.then_normal ?_))
        refine WC.cond_true rfl (decide_eq_true h3) ?_
        (repeat (first | refine WL.step (Yl.move rfl) rfl ?_ | refine WC.seq ?_ | refine WC.region ?_))
        refine WL.callV (g := 35) (v := .pointer none) Try.call35 rfl (fun w0 st => bcopy_bad _ w0 .none) rfl ?_
        (repeat (first | refine WL.step (Yl.move rfl) rfl ?_ | refine WL.step (Yl.assign rfl) rfl ?_ | refine WC.region ?_ | refine WL.nil ?_ | refine WN.then_normal ?_))
        refine WL.callV (g := 36) (v := .pointer none) Try.call36 rfl (fun w0 st => rcopy_no w0) rfl ?_
        (repeat (first | refine WL.step (Yl.move rfl) rfl ?_ | refine WL.step (Yl.assign rfl) rfl ?_ | (refine WL.k_load ?_; refine WL.step (Yl.loadBlk (T := 3) Try.isAgg3 rfl (by repeat (first | exact .head _ | refine .tail _ ?_)) (by rfl)) rfl ?_) | (refine WL.k_fld ?_; refine WL.step (Yl.fldN0 (i := 1) (o := 1) (by kernel_rfl) rfl) rfl ?_) | refine WC.seq ?_ | refine WC.region ?_ | refine WL.nil ?_ | refine WN.then_normal ?_ | refine WN.block_normal ?_))
        refine WL.callV (g := 37) (v := .bool true) Try.call37 rfl (fun w0 st => whole_no x.sec w0) rfl ?_
        (repeat (first | refine WL.step (Yl.not rfl) rfl ?_ | refine WL.nil ?_ | refine WN.then_normal ?_))
        refine WC.cond_false rfl rfl ?_
        (repeat (first | refine WL.step (Yl.move rfl) rfl ?_ | refine WL.step (Yl.assign rfl) rfl ?_ | (refine WL.k_bin .add ?_; refine WL.step (Yl.add64C rfl (by omega)) rfl ?_) | refine WC.region ?_ | refine WL.nil ?_ | refine WN.then_normal ?_ | refine WC.skip ?_ | refine WN.block_normal ?_))
        exact WN.next (i + 1) (by omega) (by omega) (by repeat (first | exact Sub.nil | refine Sub.cons rfl rfl ?_)) .nil
      refine WC.cond_false rfl (decide_eq_false h0) ?_
      (repeat (first | refine WL.step (Yl.assign rfl) rfl ?_ | refine WL.step (Yl.eql rfl rfl) rfl ?_ | refine WC.seq ?_ | refine WC.region ?_ | refine WL.nil ?_ | refine WN.then_normal ?_))
      refine WC.cond_false rfl (decide_eq_false h1) ?_
      (repeat (first | refine WL.step (Yl.assign rfl) rfl ?_ | refine WL.step (Yl.eql rfl rfl) rfl ?_ | refine WC.seq ?_ | refine WC.region ?_ | refine WL.nil ?_ | refine WN.then_normal ?_))
      refine WC.cond_false rfl (decide_eq_false h2) ?_
      (repeat (first | refine WL.step (Yl.assign rfl) rfl ?_ | refine WL.step (Yl.eql rfl rfl) rfl ?_ | refine WC.seq ?_ | refine WC.region ?_ | refine WL.nil ?_ | refine WN.then_normal ?_))
      refine WC.cond_false rfl (decide_eq_false h3) ?_
      (repeat (first | refine WL.step (Yl.move rfl) rfl ?_ | (refine WL.k_load ?_; refine WL.step (Yl.loadBlk (T := 3) Try.isAgg3 rfl (by repeat (first | exact .head _ | refine .tail _ ?_)) (by rfl)) rfl ?_) | (refine WL.k_fld ?_; refine WL.step (Yl.fldN0 (i := 1) (o := 1) (by kernel_rfl) rfl) rfl ?_) | refine WC.seq ?_ | refine WC.region ?_ | refine WN.then_normal ?_ | refine WC.skip ?_ | refine WN.block_normal ?_))
      refine WL.callV (g := 37) (v := .bool true) Try.call37 rfl (fun w0 st => whole_no x.sec w0) rfl ?_
      (repeat (first | refine WL.step (Yl.not rfl) rfl ?_ | refine WL.nil ?_ | refine WN.then_normal ?_))
      refine WC.cond_false rfl rfl ?_
      (repeat (first | refine WL.step (Yl.move rfl) rfl ?_ | refine WL.step (Yl.assign rfl) rfl ?_ | (refine WL.k_bin .add ?_; refine WL.step (Yl.add64C rfl (by omega)) rfl ?_) | refine WC.region ?_ | refine WL.nil ?_ | refine WN.then_normal ?_ | refine WC.skip ?_ | refine WN.block_normal ?_))
      exact WN.next (i + 1) (by omega) (by omega) (by repeat (first | exact Sub.nil | refine Sub.cons rfl rfl ?_)) .nil
    · (repeat (first | refine WL.step (Yl.assign rfl) rfl ?_ | (refine WL.k_call 12 ?_; refine WL.callV (g := 12) Try.call12 rfl (fun w s => works32_c w) rfl ?_) | refine WC.seq ?_ | refine WC.region ?_ | refine WL.nil ?_ | refine WN.then_normal ?_ | refine WC.exit ?_ | refine WC.ret ?_ | refine WN.then_exit ?_ | refine WN.block_here ?_))
      exact WN.ret1 rfl rfl ⟨rfl, rfl⟩ .nil
  · (repeat (first | refine WL.want rfl rfl rfl ?_ | refine WL.step (Yl.move rfl) rfl ?_ | (refine WL.k_pick ?_; first | refine WL.step (Yl.pick_t rfl rfl rfl) rfl ?_ | refine WL.step (Yl.pick_f rfl rfl rfl) rfl ?_) | (refine WL.k_bin .gtr ?_; refine WL.step (Yl.gtrT rfl rfl (by omega)) rfl ?_) | (refine WL.k_bin .leq ?_; refine WL.step (Yl.leqF rfl rfl (by omega)) rfl ?_) | refine WL.step (Yl.not rfl) rfl ?_ | refine WL.nil ?_ | refine WN.then_normal ?_))
    refine WC.cond_false rfl rfl ?_
    (repeat (first | refine WL.step (Yl.move rfl) rfl ?_ | refine WC.seq ?_ | refine WC.region ?_ | refine WN.then_normal ?_ | refine WC.skip ?_))
    refine WL.callV (g := 17) (v := .tuple #[.pointer none, .int .i64 2]) Try.call17 rfl (fun w0 st => bnew_no z w0 h) rfl ?_
    (repeat (first | refine WL.step (Yl.move rfl) rfl ?_ | refine WL.step (Yl.assign rfl) rfl ?_ | refine WL.step (Yl.extract rfl rfl) rfl ?_ | refine WC.seq ?_ | refine WC.region ?_ | refine WL.nil ?_ | refine WN.then_normal ?_))
    refine WL.callV (g := 30) (v := .tuple #[.pointer none, .int .i64 2]) Try.call30 rfl (fun w0 st => rnew_no z w0 h) rfl ?_
    (repeat (first | refine WL.want rfl rfl rfl ?_ | refine WL.step (Yl.move rfl) rfl ?_ | refine WL.step (Yl.assign rfl) rfl ?_ | refine WL.step (Yl.extract rfl rfl) rfl ?_ | refine WL.step (Yl.pick_f rfl rfl rfl) rfl ?_ | (refine WL.k_bin .neq ?_; first | refine WL.step (Yl.neqF rfl rfl rfl) rfl ?_ | refine WL.step (Yl.neqB (t := 4) Try.underlying4 rfl rfl) rfl ?_) | (refine WL.k_bin .eql ?_; refine WL.step (Yl.eqlPN (by kernel_rfl) rfl) rfl ?_) | refine WC.seq ?_ | refine WC.region ?_ | refine WL.nil ?_ | refine WN.then_normal ?_))
    refine WC.cond_false rfl rfl ?_
    (repeat (first | refine WL.step (Yl.assign rfl) rfl ?_ | refine WC.seq ?_ | refine WC.region ?_ | refine WL.nil ?_ | refine WN.then_normal ?_ | refine WC.block ?_ | refine WC.skip ?_))
    refine WC.loop (α := Nat) (fun i => [(1, .slice a m cap), (5, .pointer none), (7, .pointer none), (9, .int .i64 (i : Int))]) (fun _ => []) (fun i => i ≤ m) (fun i => m - i) 0 (by repeat (first | exact Sub.nil | refine Sub.cons rfl rfl ?_)) .nil (Nat.zero_le _) ?_
    intro i hi
    (repeat (first | refine WL.step (Yl.move rfl) rfl ?_ | refine WL.step (Yl.len (t := 57) Try.underlying57 rfl) rfl ?_ | refine WL.step (Yl.lss rfl rfl) rfl ?_ | refine WC.seq ?_ | refine WC.region ?_ | refine WL.nil ?_ | refine WN.then_normal ?_))
    refine WC.ite rfl (fun g1 => ?_) (fun g1 => ?_)
    · have hid : i < m := by omega
      obtain ⟨x, hx⟩ : ∃ t, L[i]? = some t := ⟨_, List.getElem?_eq_getElem (by omega)⟩
      (repeat (first | refine WL.step (Yl.move rfl) rfl ?_ | (refine WL.k_load ?_; refine WL.step (Yl.loadEl x.cs Try.isAgg63 Try.sizeOf63 rfl (Rd.old hr) x.len (by simp [Step.cs]) (step_at hx)) rfl ?_) | refine WL.step (Yl.indexAddr (t := 57) (j := i) Try.underlying57 Try.sizeOf63 rfl rfl (Rd.old hr) (step_ne hx) hid) rfl ?_ | refine WC.seq ?_ | refine WC.region ?_ | refine WN.then_normal ?_ | refine WC.block ?_ | refine WC.skip ?_))
      refine WL.allocA Try.zeroValue63 rfl fun b1 => ?_
      refine WL.storeWhole (T := 63) (k := 4) Try.sizeOf63 rfl rfl rfl .here rfl rfl ?_
      (repeat (first | refine WL.step (Yl.assign rfl) rfl ?_ | (refine WL.k_load ?_; refine WL.step (Yl.loadBlk (T := 3) Try.isAgg3 rfl (by repeat (first | exact .head _ | refine .tail _ ?_)) (by rfl)) rfl ?_) | (refine WL.k_fld ?_; refine WL.step (Yl.fldN0 (i := 0) (o := 0) (by kernel_rfl) rfl) rfl ?_) | refine WL.step (Yl.eql rfl rfl) rfl ?_ | refine WC.seq ?_ | refine WC.region ?_ | refine WL.nil ?_ | refine WN.then_normal ?_ | refine WC.block ?_))
      by_cases h0 : x.act = 0
      · refine WC.cond_true rfl (decide_eq_true h0) ?_
        (repeat (first | refine WC.seq ?_))
        refine WC.regionH [.blk b1 (.cells x.cs.toArray 63 (0, 0))] (by kernel_rfl) ?_
        (refine WH.order [0, 1, 2, 3, 4, 6, 7, 8, 9, 10] (by repeat (first | exact Part.nil | refine Part.cons (by repeat (first | exact Pick.here | apply Pick.there)) ?_ | refine Part.free ?_)) (by kernel_rfl) ?_; (repeat (first | (refine WT.k_move rfl ?_; (refine WT.kn rfl ?_; refine WT.take rfl rfl (fun _ _ _ h => h) (Yl.move rfl) rfl (by kernel_rfl) (by kernel_rfl) ?_)) | (refine WT.k_load rfl ?_; (refine WT.kn rfl ?_; first | refine WT.take rfl rfl (fun _ _ _ h => h) (Yl.loadBlk (T := 3) Try.isAgg3 rfl (by repeat (first | exact .head _ | refine .tail _ ?_)) (by rfl)) rfl (by kernel_rfl) (by kernel_rfl) ?_ | refine WT.take rfl rfl (fun _ _ _ h => h) (Yl.loadBlk (T := 22) Try.isAgg22 rfl (by repeat (first | exact .head _ | refine .tail _ ?_)) (by rfl)) rfl (by kernel_rfl) (by kernel_rfl) ?_)) | (refine WT.k_fld rfl ?_; (refine WT.kn rfl ?_; first | refine WT.take rfl rfl (fun _ _ _ h => h) (Yl.fldN0 (i := 1) (o := 1) (by kernel_rfl) rfl) rfl (by kernel_rfl) (by kernel_rfl) ?_ | refine WT.take rfl rfl (fun _ _ _ h => h) (Yl.fldN0 (i := 2) (o := 2) (by kernel_rfl) rfl) rfl (by kernel_rfl) (by kernel_rfl) ?_)))); refine WT.nil ?_)
        refine WH.only (i := 5) (by kernel_rfl) rfl ?_
        refine WL.callV (g := 19) (v := .int .i64 1) Try.call19 rfl (fun w0 st => bwrite_bad x.a x.n x.c x.sec _ w0 .none) rfl ?_
        refine WL.nil (WN.nextH (by repeat (first | exact Part.nil | refine Part.cons (by repeat (first | exact Pick.here | apply Pick.there)) ?_ | refine Part.free ?_)) ?_)
        refine WH.only (i := 11) (by kernel_rfl) rfl ?_
        refine WL.callV (g := 31) (v := .int .i64 1) Try.call31 rfl (fun w0 st => rwrite_no x.sec x.a x.n x.c w0) rfl ?_
        refine WL.nil (WN.nextH (by repeat (first | exact Part.nil | refine Part.cons (by repeat (first | exact Pick.here | apply Pick.there)) ?_ | refine Part.free ?_)) ?_)
        (refine WH.order [12] (by repeat (first | exact Part.nil | refine Part.cons (by repeat (first | exact Pick.here | apply Pick.there)) ?_ | refine Part.free ?_)) (by kernel_rfl) ?_; (repeat (first | (refine WT.k_bin .neq rfl ?_; (refine WT.kn rfl ?_; refine WT.take rfl rfl (fun _ _ _ h => h) (Yl.neqF rfl rfl rfl) rfl (by kernel_rfl) (by kernel_rfl) ?_)))); refine WT.nil ?_)
        refine WH.done (by kernel_rfl) ?_
        (repeat (first | refine WN.then_normal ?_))
        refine WC.cond_false rfl rfl ?_
        (repeat (first | refine WL.step (Yl.move rfl) rfl ?_ | (refine WL.k_load ?_; refine WL.step (Yl.loadBlk (T := 3) Try.isAgg3 rfl (by repeat (first | exact .head _ | refine .tail _ ?_)) (by rfl)) rfl ?_) | (refine WL.k_fld ?_; refine WL.step (Yl.fldN0 (i := 1) (o := 1) (by kernel_rfl) rfl) rfl ?_) | refine WC.seq ?_ | refine WC.region ?_ | refine WN.then_normal ?_ | refine WC.skip ?_ | refine WN.block_normal ?_))
        refine WL.callV (g := 37) (v := .bool true) Try.call37 rfl (fun w0 st => whole_no x.sec w0) rfl ?_
        (repeat (first | refine WL.step (Yl.not rfl) rfl ?_ | refine WL.nil ?_ | refine WN.then_normal ?_))
        refine WC.cond_false rfl rfl ?_
        (repeat (first | refine WL.step (Yl.move rfl) rfl ?_ | refine WL.step (Yl.assign rfl) rfl ?_ | (refine WL.k_bin .add ?_; refine WL.step (Yl.add64C rfl (by omega)) rfl ?_) | refine WC.region ?_ | refine WL.nil ?_ | refine WN.then_normal ?_ | refine WC.skip ?_ | refine WN.block_normal ?_))
        exact WN.next (i + 1) (by omega) (by omega) (by repeat (first | exact Sub.nil | refine Sub.cons rfl rfl ?_)) .nil
      by_cases h1 : x.act = 1
      · refine WC.cond_false rfl (decide_eq_false h0) ?_
        (repeat (first | refine WL.step (Yl.assign rfl) rfl ?_ | refine WL.step (Yl.eql rfl rfl) rfl ?_ | refine WC.seq ?_ | refine WC.region ?_ | refine WL.nil ?_ | refine WN.then_normal ?_))
        refine WC.cond_true rfl (decide_eq_true h1) ?_
        (repeat (first | refine WL.step (Yl.move rfl) rfl ?_ | refine WC.seq ?_ | refine WC.region ?_))
        refine WL.callV (g := 32) (v := .int .i64 1) Try.call32 rfl (fun w0 st => bsync_bad _ w0 .none) rfl ?_
        (repeat (first | refine WL.step (Yl.move rfl) rfl ?_))
        refine WL.callV (g := 33) (v := .int .i64 1) Try.call33 rfl (fun w0 st => rsync_no w0) rfl ?_
        (repeat (first | refine WL.step (Yl.neqF rfl rfl rfl) rfl ?_ | refine WL.nil ?_ | refine WN.then_normal ?_))
        refine WC.cond_false rfl rfl ?_
        (repeat (first | refine WL.step (Yl.move rfl) rfl ?_ | (refine WL.k_load ?_; refine WL.step (Yl.loadBlk (T := 3) Try.isAgg3 rfl (by repeat (first | exact .head _ | refine .tail _ ?_)) (by rfl)) rfl ?_) | (refine WL.k_fld ?_; refine WL.step (Yl.fldN0 (i := 1) (o := 1) (by kernel_rfl) rfl) rfl ?_) | refine WC.seq ?_ | refine WC.region ?_ | refine WN.then_normal ?_ | refine WC.skip ?_ | refine WN.block_normal ?_))
        refine WL.callV (g := 37) (v := .bool true) Try.call37 rfl (fun w0 st => whole_no x.sec w0) rfl ?_
        (repeat (first | refine WL.step (Yl.not rfl) rfl ?_ | refine WL.nil ?_ | refine WN.then_normal ?_))
        refine WC.cond_false rfl rfl ?_
        (repeat (first | refine WL.step (Yl.move rfl) rfl ?_ | refine WL.step (Yl.assign rfl) rfl ?_ | (refine WL.k_bin .add ?_; refine WL.step (Yl.add64C rfl (by omega)) rfl ?_) | refine WC.region ?_ | refine WL.nil ?_ | refine WN.then_normal ?_ | refine WC.skip ?_ | refine WN.block_normal ?_))
        exact WN.next (i + 1) (by omega) (by omega) (by repeat (first | exact Sub.nil | refine Sub.cons rfl rfl ?_)) .nil
      by_cases h2 : x.act = 2
      · refine WC.cond_false rfl (decide_eq_false h0) ?_
        (repeat (first | refine WL.step (Yl.assign rfl) rfl ?_ | refine WL.step (Yl.eql rfl rfl) rfl ?_ | refine WC.seq ?_ | refine WC.region ?_ | refine WL.nil ?_ | refine WN.then_normal ?_))
        refine WC.cond_false rfl (decide_eq_false h1) ?_
        (repeat (first | refine WL.step (Yl.assign rfl) rfl ?_ | refine WL.step (Yl.eql rfl rfl) rfl ?_ | refine WC.seq ?_ | refine WC.region ?_ | refine WL.nil ?_ | refine WN.then_normal ?_))
        refine WC.cond_true rfl (decide_eq_true h2) ?_
        (repeat (first | refine WC.seq ?_))
        refine WC.regionH [.blk b1 (.cells x.cs.toArray 63 (0, 0))] (by kernel_rfl) ?_
        (refine WH.order [0, 1, 2, 4, 5, 6] (by repeat (first | exact Part.nil | refine Part.cons (by repeat (first | exact Pick.here | apply Pick.there)) ?_ | refine Part.free ?_)) (by kernel_rfl) ?_; (repeat (first | (refine WT.k_move rfl ?_; (refine WT.kn rfl ?_; refine WT.take rfl rfl (fun _ _ _ h => h) (Yl.move rfl) rfl (by kernel_rfl) (by kernel_rfl) ?_)) | (refine WT.k_load rfl ?_; (refine WT.kn rfl ?_; refine WT.take rfl rfl (fun _ _ _ h => h) (Yl.loadBlk (T := 41) Try.isAgg41 rfl (by repeat (first | exact .head _ | refine .tail _ ?_)) (by rfl)) rfl (by kernel_rfl) (by kernel_rfl) ?_)) | (refine WT.k_fld rfl ?_; (refine WT.kn rfl ?_; refine WT.take rfl rfl (fun _ _ _ h => h) (Yl.fldN0 (i := 3) (o := 3) (by kernel_rfl) rfl) rfl (by kernel_rfl) (by kernel_rfl) ?_)))); refine WT.nil ?_)
        refine WH.only (i := 3) (by kernel_rfl) rfl ?_
        refine WL.callV (g := 22) (v := .int .i64 1) Try.call22 rfl (fun w0 st => bcrash_bad _ x.a2 x.n2 x.c2 w0 .none) rfl ?_
        refine WL.nil (WN.nextH (by repeat (first | exact Part.nil | refine Part.cons (by repeat (first | exact Pick.here | apply Pick.there)) ?_ | refine Part.free ?_)) ?_)
        refine WH.only (i := 7) (by kernel_rfl) rfl ?_
        refine WL.callV (g := 34) (v := .int .i64 1) Try.call34 rfl (fun w0 st => rcrash_no x.a2 x.n2 x.c2 w0) rfl ?_
        refine WL.nil (WN.nextH (by repeat (first | exact Part.nil | refine Part.cons (by repeat (first | exact Pick.here | apply Pick.there)) ?_ | refine Part.free ?_)) ?_)
        (refine WH.order [8] (by repeat (first | exact Part.nil | refine Part.cons (by repeat (first | exact Pick.here | apply Pick.there)) ?_ | refine Part.free ?_)) (by kernel_rfl) ?_; (repeat (first | (refine WT.k_bin .neq rfl ?_; (refine WT.kn rfl ?_; refine WT.take rfl rfl (fun _ _ _ h => h) (Yl.neqF rfl rfl rfl) rfl (by kernel_rfl) (by kernel_rfl) ?_)))); refine WT.nil ?_)
        refine WH.done (by kernel_rfl) ?_
        (repeat (first | refine WN.then_normal ?_))
        refine WC.cond_false rfl rfl ?_
        (repeat (first | refine WL.step (Yl.move rfl) rfl ?_ | (refine WL.k_load ?_; refine WL.step (Yl.loadBlk (T := 3) Try.isAgg3 rfl (by repeat (first | exact .head _ | refine .tail _ ?_)) (by rfl)) rfl ?_) | (refine WL.k_fld ?_; refine WL.step (Yl.fldN0 (i := 1) (o := 1) (by kernel_rfl) rfl) rfl ?_) | refine WC.seq ?_ | refine WC.region ?_ | refine WN.then_normal ?_ | refine WC.skip ?_ | refine WN.block_normal ?_))
        refine WL.callV (g := 37) (v := .bool true) Try.call37 rfl (fun w0 st => whole_no x.sec w0) rfl ?_
        (repeat (first | refine WL.step (Yl.not rfl) rfl ?_ | refine WL.nil ?_ | refine WN.then_normal ?_))
        refine WC.cond_false rfl rfl ?_
        (repeat (first | refine WL.step (Yl.move rfl) rfl ?_ | refine WL.step (Yl.assign rfl) rfl ?_ | (refine WL.k_bin .add ?_; refine WL.step (Yl.add64C rfl (by omega)) rfl ?_) | refine WC.region ?_ | refine WL.nil ?_ | refine WN.then_normal ?_ | refine WC.skip ?_ | refine WN.block_normal ?_))
        exact WN.next (i + 1) (by omega) (by omega) (by repeat (first | exact Sub.nil | refine Sub.cons rfl rfl ?_)) .nil
      by_cases h3 : x.act = 3
      · refine WC.cond_false rfl (decide_eq_false h0) ?_
        (repeat (first | refine WL.step (Yl.assign rfl) rfl ?_ | refine WL.step (Yl.eql rfl rfl) rfl ?_ | refine WC.seq ?_ | refine WC.region ?_ | refine WL.nil ?_ | refine WN.then_normal ?_))
        refine WC.cond_false rfl (decide_eq_false h1) ?_
        (repeat (first | refine WL.step (Yl.assign rfl) rfl ?_ | refine WL.step (Yl.eql rfl rfl) rfl ?_ | refine WC.seq ?_ | refine WC.region ?_ | refine WL.nil ?_ | refine WN.then_normal ?_))
        refine WC.cond_false rfl (decide_eq_false h2) ?_
        (repeat (first | refine WL.step (Yl.assign rfl) rfl ?_ | refine WL.step (Yl.eql rfl rfl) rfl ?_ | refine WC.seq ?_ | refine WC.region ?_ | refine WL.nil ?_ | refine WN.then_normal ?_))
        refine WC.cond_true rfl (decide_eq_true h3) ?_
        (repeat (first | refine WL.step (Yl.move rfl) rfl ?_ | refine WC.seq ?_ | refine WC.region ?_))
        refine WL.callV (g := 35) (v := .pointer none) Try.call35 rfl (fun w0 st => bcopy_bad _ w0 .none) rfl ?_
        (repeat (first | refine WL.step (Yl.move rfl) rfl ?_ | refine WL.step (Yl.assign rfl) rfl ?_ | refine WC.region ?_ | refine WL.nil ?_ | refine WN.then_normal ?_))
        refine WL.callV (g := 36) (v := .pointer none) Try.call36 rfl (fun w0 st => rcopy_no w0) rfl ?_
        (repeat (first | refine WL.step (Yl.move rfl) rfl ?_ | refine WL.step (Yl.assign rfl) rfl ?_ | (refine WL.k_load ?_; refine WL.step (Yl.loadBlk (T := 3) Try.isAgg3 rfl (by repeat (first | exact .head _ | refine .tail _ ?_)) (by rfl)) rfl ?_) | (refine WL.k_fld ?_; refine WL.step (Yl.fldN0 (i := 1) (o := 1) (by kernel_rfl) rfl) rfl ?_) | refine WC.seq ?_ | refine WC.region ?_ | refine WL.nil ?_ | refine WN.then_normal ?_ | refine WN.block_normal ?_))
        refine WL.callV (g := 37) (v := .bool true) Try.call37 rfl (fun w0 st => whole_no x.sec w0) rfl ?_
        (repeat (first | refine WL.step (Yl.not rfl) rfl ?_ | refine WL.nil ?_ | refine WN.then_normal ?_))
        refine WC.cond_false rfl rfl ?_
        (repeat (first | refine WL.step (Yl.move rfl) rfl ?_ | refine WL.step (Yl.assign rfl) rfl ?_ | (refine WL.k_bin .add ?_; refine WL.step (Yl.add64C rfl (by omega)) rfl ?_) | refine WC.region ?_ | refine WL.nil ?_ | refine WN.then_normal ?_ | refine WC.skip ?_ | refine WN.block_normal ?_))
        exact WN.next (i + 1) (by omega) (by omega) (by repeat (first | exact Sub.nil | refine Sub.cons rfl rfl ?_)) .nil
      refine WC.cond_false rfl (decide_eq_false h0) ?_
      (repeat (first | refine WL.step (Yl.assign rfl) rfl ?_ | refine WL.step (Yl.eql rfl rfl) rfl ?_ | refine WC.seq ?_ | refine WC.region ?_ | refine WL.nil ?_ | refine WN.then_normal ?_))
      refine WC.cond_false rfl (decide_eq_false h1) ?_
      (repeat (first | refine WL.step (Yl.assign rfl) rfl ?_ | refine WL.step (Yl.eql rfl rfl) rfl ?_ | refine WC.seq ?_ | refine WC.region ?_ | refine WL.nil ?_ | refine WN.then_normal ?_))
      refine WC.cond_false rfl (decide_eq_false h2) ?_
      (repeat (first | refine WL.step (Yl.assign rfl) rfl ?_ | refine WL.step (Yl.eql rfl rfl) rfl ?_ | refine WC.seq ?_ | refine WC.region ?_ | refine WL.nil ?_ | refine WN.then_normal ?_))
      refine WC.cond_false rfl (decide_eq_false h3) ?_
      (repeat (first | refine WL.step (Yl.move rfl) rfl ?_ | (refine WL.k_load ?_; refine WL.step (Yl.loadBlk (T := 3) Try.isAgg3 rfl (by repeat (first | exact .head _ | refine .tail _ ?_)) (by rfl)) rfl ?_) | (refine WL.k_fld ?_; refine WL.step (Yl.fldN0 (i := 1) (o := 1) (by kernel_rfl) rfl) rfl ?_) | refine WC.seq ?_ | refine WC.region ?_ | refine WN.then_normal ?_ | refine WC.skip ?_ | refine WN.block_normal ?_))
      refine WL.callV (g := 37) (v := .bool true) Try.call37 rfl (fun w0 st => whole_no x.sec w0) rfl ?_
      (repeat (first | refine WL.step (Yl.not rfl) rfl ?_ | refine WL.nil ?_ | refine WN.then_normal ?_))
      refine WC.cond_false rfl rfl ?_
      (repeat (first | refine WL.step (Yl.move rfl) rfl ?_ | refine WL.step (Yl.assign rfl) rfl ?_ | (refine WL.k_bin .add ?_; refine WL.step (Yl.add64C rfl (by omega)) rfl ?_) | refine WC.region ?_ | refine WL.nil ?_ | refine WN.then_normal ?_ | refine WC.skip ?_ | refine WN.block_normal ?_))
      exact WN.next (i + 1) (by omega) (by omega) (by repeat (first | exact Sub.nil | refine Sub.cons rfl rfl ?_)) .nil
    · (repeat (first | refine WL.step (Yl.assign rfl) rfl ?_ | (refine WL.k_call 12 ?_; refine WL.callV (g := 12) Try.call12 rfl (fun w s => works32_c w) rfl ?_) | refine WC.seq ?_ | refine WC.region ?_ | refine WL.nil ?_ | refine WN.then_normal ?_ | refine WC.exit ?_ | refine WC.ret ?_ | refine WN.then_exit ?_ | refine WN.block_here ?_))
      exact WN.ret1 rfl rfl ⟨rfl, rfl⟩ .nil
end Go.Proofs.Ytjijjohhmokmmaa
