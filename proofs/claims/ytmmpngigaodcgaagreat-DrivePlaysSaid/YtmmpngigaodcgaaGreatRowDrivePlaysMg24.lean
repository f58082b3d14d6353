import Derived.Test.YtmmpngigaodcgaaGreatRowDrivePlaysMg23
/- DrivePlays: what New refuses; nothing is looked at. -/
namespace Go.Proofs.YtmmpngigaodcgaaGreat
set_option linter.unusedVariables false
set_option linter.unusedSimpArgs false
open Go Go.RowKit
set_option maxRecDepth 100000
set_option maxHeartbeats 8000000
attribute [local irreducible] WL WC WN Yl WH WQ WT WE WU WG WV
theorem lpl33_few (z : Int) (a : Option Addr) (m cap : Nat) (S : List DStep) (w : World) (hl : S.length = m) (hm : m ≤ 9223372036854775807) (hr : CellsAt w a (S.flatMap DStep.cs)) (hok : ∀ s ∈ S, s.Ok w) (hf : 60 < m) : Calls Tryz.prog 3 #[.int .i64 z, .slice a m cap] w (Gives (Val (.bool true)) w) := by
  refine enter (args := [_, _]) Tryz.func3 Tryz.ntmps3 rfl rfl ?_
  (repeat (first | (refine WL.kG ?_; first | refine WL.passU rfl rfl rfl ?_ | refine WL.pass rfl rfl rfl rfl ?_) | refine WL.step (Yl.move rfl) rfl ?_ | refine WL.step (Yl.assign rfl) rfl ?_ | refine WL.step (Yl.pick_t rfl rfl rfl) rfl ?_ | refine WL.step (Yl.len (t := 22) Tryz.underlying22 rfl) rfl ?_ | (refine WL.k_bin .gtr ?_; refine WL.step (Yl.gtrT rfl rfl (by omega)) rfl ?_) | refine WC.seq ?_ | refine WC.region ?_ | refine WL.nil ?_ | refine WN.then_normal ?_))
  refine WC.cond_true rfl rfl ?_
  (repeat (first | refine WL.step (Yl.assign rfl) rfl ?_ | (refine WL.k_call 4 ?_; refine WL.callV (g := 4) Tryz.call4 rfl (fun w s => works33_c w) rfl ?_) | refine WC.seq ?_ | refine WC.region ?_ | refine WL.nil ?_ | refine WN.then_normal ?_ | refine WC.ret ?_ | refine WN.then_ret ?_))
  exact WN.ret1 rfl rfl ⟨rfl, rfl⟩ .nil
theorem lpl33_many (z : Int) (a : Option Addr) (m cap : Nat) (S : List DStep) (w : World) (hl : S.length = m) (hm : m ≤ 9223372036854775807) (hr : CellsAt w a (S.flatMap DStep.cs)) (hok : ∀ s ∈ S, s.Ok w) (hf : m ≤ 60) (h1 : 12 < z) (h2 : z ≤ 4096) : Calls Tryz.prog 3 #[.int .i64 z, .slice a m cap] w (Gives (Val (.bool true)) w) := by
  refine enter (args := [_, _]) Tryz.func3 Tryz.ntmps3 rfl rfl ?_
  (repeat (first | refine WL.want rfl rfl rfl ?_ | refine WL.step (Yl.move rfl) rfl ?_ | refine WL.step (Yl.assign rfl) rfl ?_ | (refine WL.k_pick ?_; first | refine WL.step (Yl.pick_t rfl rfl rfl) rfl ?_ | refine WL.step (Yl.pick_f rfl rfl rfl) rfl ?_) | refine WL.step (Yl.len (t := 22) Tryz.underlying22 rfl) rfl ?_ | (refine WL.k_bin .gtr ?_; first | refine WL.step (Yl.gtrF rfl rfl (by omega)) rfl ?_ | refine WL.step (Yl.gtrT rfl rfl (by omega)) rfl ?_) | (refine WL.k_bin .leq ?_; refine WL.step (Yl.leqT rfl rfl (by omega)) rfl ?_) | refine WC.seq ?_ | refine WC.region ?_ | refine WL.nil ?_ | refine WN.then_normal ?_))
  refine WC.cond_true rfl rfl ?_
  (repeat (first | refine WL.step (Yl.assign rfl) rfl ?_ | (refine WL.k_call 4 ?_; refine WL.callV (g := 4) Tryz.call4 rfl (fun w s => works33_c w) rfl ?_) | refine WC.seq ?_ | refine WC.region ?_ | refine WL.nil ?_ | refine WN.then_normal ?_ | refine WC.ret ?_ | refine WN.then_ret ?_))
  exact WN.ret1 rfl rfl ⟨rfl, rfl⟩ .nil
theorem lpl33_no0 (z : Int) (a : Option Addr) (m cap : Nat) (S : List DStep) (w : World) (hl : S.length = m) (hm : m ≤ 9223372036854775807) (hr : CellsAt w a (S.flatMap DStep.cs)) (hok : ∀ s ∈ S, s.Ok w) (hf : m ≤ 60) (h : z < 1 ∨ 4096 < z) (hz : z < 1) : Calls Tryz.prog 3 #[.int .i64 z, .slice a m cap] w (Gives (Val (.bool true)) w) := by
  refine enter (args := [_, _]) Tryz.func3 Tryz.ntmps3 rfl rfl ?_
  (repeat (first | (refine WL.kG ?_; first | refine WL.want rfl rfl rfl ?_ | refine WL.pass rfl rfl rfl rfl ?_) | refine WL.step (Yl.move rfl) rfl ?_ | refine WL.step (Yl.assign rfl) rfl ?_ | refine WL.step (Yl.pick_f rfl rfl rfl) rfl ?_ | refine WL.step (Yl.len (t := 22) Tryz.underlying22 rfl) rfl ?_ | (refine WL.k_bin .gtr ?_; refine WL.step (Yl.gtrF rfl rfl (by omega)) rfl ?_) | refine WC.seq ?_ | refine WC.region ?_ | refine WL.nil ?_ | refine WN.then_normal ?_))
  refine WC.cond_false rfl rfl ?_
  (repeat (first | refine WL.step (Yl.move rfl) rfl ?_ | refine WC.seq ?_ | refine WC.region ?_ | refine WN.then_normal ?_ | refine WC.skip ?_))
  refine WL.callV (g := 5) (v := .tuple #[.pointer none, .int .i64 2]) Tryz.call5 rfl (fun w0 st => dnew_no z w0 h) rfl ?_
  (repeat (first | refine WL.step (Yl.move rfl) rfl ?_ | refine WL.step (Yl.assign rfl) rfl ?_ | refine WL.step (Yl.extract rfl rfl) rfl ?_ | refine WC.seq ?_ | refine WC.region ?_ | refine WL.nil ?_ | refine WN.then_normal ?_))
  refine WL.callV (g := 6) (v := .tuple #[.pointer none, .int .i64 2]) Tryz.call6 rfl (fun w0 st => enew_no z w0 h) rfl ?_
  (repeat (first | refine WL.want rfl rfl rfl ?_ | refine WL.step (Yl.move rfl) rfl ?_ | refine WL.step (Yl.assign rfl) rfl ?_ | refine WL.step (Yl.extract rfl rfl) rfl ?_ | refine WL.step (Yl.pick_f rfl rfl rfl) rfl ?_ | (refine WL.k_bin .neq ?_; first | refine WL.step (Yl.neqF rfl rfl rfl) rfl ?_ | refine WL.step (Yl.neqT rfl rfl (by decide)) rfl ?_ | refine WL.step (Yl.neqB (t := 4) Tryz.underlying4 rfl rfl) rfl ?_) | (refine WL.k_bin .eql ?_; refine WL.step (Yl.eqlPN (by kernel_rfl) rfl) rfl ?_) | refine WC.seq ?_ | refine WC.region ?_ | refine WL.nil ?_ | refine WN.then_normal ?_))
  refine WC.cond_false rfl rfl ?_
  (repeat (first | refine WL.step (Yl.move rfl) rfl ?_ | refine WL.step (Yl.assign rfl) rfl ?_ | refine WL.step (Yl.len (t := 22) Tryz.underlying22 rfl) rfl ?_ | refine WC.seq ?_ | refine WC.region ?_ | refine WL.nil ?_ | refine WN.then_normal ?_ | refine WC.block ?_ | refine WC.skip ?_))
  refine WC.loop (α := Nat) (fun i => [(1, .slice a m cap), (5, .pointer none), (7, .pointer none), (9, .pointer none), (10, .pointer none), (51, .slice a m cap), (52, .int .i64 (m : Int)), (53, .int .i64 (i : Int))]) (fun _ => []) (fun i => i ≤ m) (fun i => m - i) 0 (by repeat (first | exact Sub.nil | refine Sub.cons rfl rfl ?_)) .nil (Nat.zero_le _) ?_
  intro i hi
  (repeat (first | refine WL.step (Yl.lss rfl rfl) rfl ?_ | refine WC.seq ?_ | refine WC.region ?_ | refine WL.nil ?_ | refine WN.then_normal ?_))
  refine WC.ite rfl (fun g1 => ?_) (fun g1 => ?_)
  · have hid : i < m := by omega
    obtain ⟨x, hx⟩ : ∃ t, S[i]? = some t := ⟨_, List.getElem?_eq_getElem (by omega)⟩
    have hxo := hok x (List.mem_of_getElem? hx)
    have hxr := hxo.hr.out
    have hxl := hxo.hl
    (repeat (first | (refine WL.k_load ?_; refine WL.step (Yl.loadEl x.cs Tryz.isAgg35 Tryz.sizeOf35 rfl (Rd.old hr) x.len (by simp [DStep.cs]) (dstep_at hx)) rfl ?_) | refine WL.step (Yl.indexAddr (t := 22) (j := i) Tryz.underlying22 Tryz.sizeOf35 rfl rfl (Rd.old hr) (dstep_ne hx) hid) rfl ?_ | refine WC.seq ?_ | refine WC.region ?_ | refine WN.then_normal ?_ | refine WC.block ?_ | refine WC.skip ?_))
    refine WL.allocA Tryz.zeroValue35 rfl fun b1 => ?_
    refine WL.storeWhole (T := 35) (k := 6) Tryz.sizeOf35 rfl rfl rfl .here rfl rfl ?_
    by_cases hbig : 70 < x.m
    · (repeat (first | (refine WL.k_load ?_; refine WL.step (Yl.loadBlk (T := 31) Tryz.isAgg31 rfl (by repeat (first | exact .head _ | refine .tail _ ?_)) (by rfl)) rfl ?_) | (refine WL.k_fld ?_; first | refine WL.step (Yl.fldN0 (i := 4) (o := 4) (by kernel_rfl) rfl) rfl ?_ | refine WL.step (Yl.fldN (i := 1) (o := 1) (off := 4) (by kernel_rfl) rfl) rfl ?_) | refine WL.step (Yl.len (t := 31) Tryz.underlying31 rfl) rfl ?_ | (refine WL.k_bin .gtr ?_; refine WL.step (Yl.gtrT rfl rfl (by omega)) rfl ?_) | refine WC.seq ?_ | refine WC.region ?_ | refine WL.nil ?_ | refine WN.then_normal ?_))
      refine WC.cond_true rfl rfl ?_
      (repeat (first | refine WL.step (Yl.assign rfl) rfl ?_ | (refine WL.k_call 4 ?_; refine WL.callV (g := 4) Tryz.call4 rfl (fun w s => works33_c w) rfl ?_) | refine WC.seq ?_ | refine WC.region ?_ | refine WL.nil ?_ | refine WN.then_normal ?_ | refine WC.ret ?_ | refine WN.then_ret ?_ | refine WN.block_ret ?_))
      exact WN.ret1 rfl rfl ⟨rfl, rfl⟩ .nil
    (repeat (first | (refine WL.k_load ?_; refine WL.step (Yl.loadBlk (T := 31) Tryz.isAgg31 rfl (by repeat (first | exact .head _ | refine .tail _ ?_)) (by rfl)) rfl ?_) | (refine WL.k_fld ?_; first | refine WL.step (Yl.fldN0 (i := 4) (o := 4) (by kernel_rfl) rfl) rfl ?_ | refine WL.step (Yl.fldN (i := 1) (o := 1) (off := 4) (by kernel_rfl) rfl) rfl ?_) | refine WL.step (Yl.len (t := 31) Tryz.underlying31 rfl) rfl ?_ | (refine WL.k_bin .gtr ?_; refine WL.step (Yl.gtrF rfl rfl (by omega)) rfl ?_) | refine WC.seq ?_ | refine WC.region ?_ | refine WL.nil ?_ | refine WN.then_normal ?_))
    refine WC.cond_false rfl rfl ?_
    (repeat (first | refine WC.seq ?_ | refine WN.then_normal ?_ | refine WC.skip ?_))
    refine WC.join (α := Nat × (Option Addr × Nat)) (fun g => [(1, .slice a m cap), (5, .pointer none), (7, .pointer none), (9, .pointer none), (10, .pointer none), (12, .pointer (some ⟨b1, 0, none⟩)), (13, .pointer (some ⟨g.1, 0, none⟩)), (51, .slice a m cap), (52, .int .i64 (m : Int)), (53, .int .i64 (i : Int))])
      (fun g => .blk g.1 (.cells #[.int .i64 x.at_, .slice g.2.1 x.m g.2.2] 33 (0, 0)) :: .row g.2.1 g.2.2 3 1 (zcells x.K) :: .blk b1 (.cells x.cs.toArray 35 (0, 0)) :: []) (fun g => x.m ≤ g.2.2) ?_ ?_
    · refine WC.regionH [.blk b1 (.cells x.cs.toArray 35 (0, 0))] (by kernel_rfl) ?_
      (refine WH.order [0, 1, 2, 3, 4, 5] (by repeat (first | exact Part.nil | refine Part.cons (by repeat (first | exact Pick.here | apply Pick.there)) ?_ | refine Part.free ?_)) (by kernel_rfl) ?_; (repeat (first | (refine WT.k_load rfl ?_; (refine WT.kn rfl ?_; first | refine WT.take rfl rfl (fun _ _ _ h => h) (Yl.loadBlk (T := 3) Tryz.isAgg3 rfl (by repeat (first | exact .head _ | refine .tail _ ?_)) (by rfl)) rfl (by kernel_rfl) (by kernel_rfl) ?_ | refine WT.take rfl rfl (fun _ _ _ h => h) (Yl.loadBlk (T := 31) Tryz.isAgg31 rfl (by repeat (first | exact .head _ | refine .tail _ ?_)) (by rfl)) rfl (by kernel_rfl) (by kernel_rfl) ?_)) | (refine WT.k_fld rfl ?_; (refine WT.kn rfl ?_; first | refine WT.take rfl rfl (fun _ _ _ h => h) (Yl.fldN0 (i := 4) (o := 4) (by kernel_rfl) rfl) rfl (by kernel_rfl) (by kernel_rfl) ?_ | refine WT.take rfl rfl (fun _ _ _ h => h) (Yl.fldN (i := 0) (o := 0) (off := 4) (by kernel_rfl) rfl) rfl (by kernel_rfl) (by kernel_rfl) ?_ | refine WT.take rfl rfl (fun _ _ _ h => h) (Yl.fldN (i := 1) (o := 1) (off := 4) (by kernel_rfl) rfl) rfl (by kernel_rfl) (by kernel_rfl) ?_)))); refine WT.nil ?_)
      refine WH.two (i := 6) (j := 8) (by kernel_rfl) rfl rfl ?_ ?_
      · refine WL.callR (g := 7) Tryz.call7 rfl (fun w0 st => icl_c x.a x.m x.c x.K w0 hxl (by omega) (hxo.hr.keep st.kept)) rfl fun qr hqr => ?_
        simp only [id]
        refine WL.nil (WN.nextH (.cons (.there .here) .nil) ?_)
        (refine WH.order [7] (by repeat (first | exact Part.nil | refine Part.cons (by repeat (first | exact Pick.here | apply Pick.there)) ?_ | refine Part.free ?_)) (by kernel_rfl) ?_; (repeat (first | (refine WT.k_build rfl ?_; (refine WT.kn rfl ?_; refine WT.take rfl rfl (fun _ _ _ h => h) (Yl.build (ps := [(0, .tmp 65), (1, .tmp 69)]) (vs := [(0, .int .i64 x.at_), (1, .slice qr.1 x.m qr.2)]) rfl (buildPl _ _ _ _)) rfl (by kernel_rfl) (by kernel_rfl) ?_)))); refine WT.nil ?_)
        refine WH.only (i := 8) (by kernel_rfl) rfl ?_
        refine WL.allocA Tryz.zeroValue33 rfl fun b13 => ?_
        refine WL.nil (WN.nextH (.cons (.there (.there .here)) .nil) ?_)
        refine WH.only (i := 9) (by kernel_rfl) rfl ?_
        refine WL.storeWhole (T := 33) (k := 2) Tryz.sizeOf33 rfl rfl rfl .here rfl rfl ?_
        refine WL.nil (WN.nextH (.cons (.there (.there .here)) .nil) (WH.done (by kernel_rfl) ?_))
        exact WN.join (b13, qr) hqr (by repeat (first | exact Sub.nil | refine Sub.cons rfl rfl ?_)) (Part.refl _)
      · refine WL.allocA Tryz.zeroValue33 rfl fun b13 => ?_
        refine WL.nil (WN.nextH (.cons (.there .here) .nil) ?_)
        refine WH.only (i := 6) (by kernel_rfl) rfl ?_
        refine WL.callR (g := 7) Tryz.call7 rfl (fun w0 st => icl_c x.a x.m x.c x.K w0 hxl (by omega) (hxo.hr.keep st.kept)) rfl fun qr hqr => ?_
        simp only [id]
        refine WL.nil (WN.nextH (.cons (.there (.there .here)) .nil) ?_)
        (refine WH.order [7] (by repeat (first | exact Part.nil | refine Part.cons (by repeat (first | exact Pick.here | apply Pick.there)) ?_ | refine Part.free ?_)) (by kernel_rfl) ?_; (repeat (first | (refine WT.k_build rfl ?_; (refine WT.kn rfl ?_; refine WT.take rfl rfl (fun _ _ _ h => h) (Yl.build (ps := [(0, .tmp 65), (1, .tmp 69)]) (vs := [(0, .int .i64 x.at_), (1, .slice qr.1 x.m qr.2)]) rfl (buildPl _ _ _ _)) rfl (by kernel_rfl) (by kernel_rfl) ?_)))); refine WT.nil ?_)
        refine WH.only (i := 9) (by kernel_rfl) rfl ?_
        refine WL.storeWhole (T := 33) (k := 2) Tryz.sizeOf33 rfl rfl rfl (.there .here) rfl rfl ?_
        refine WL.nil (WN.nextH (.cons (.there (.there .here)) .nil) (WH.done (by kernel_rfl) ?_))
        exact WN.join (b13, qr) hqr (by repeat (first | exact Sub.nil | refine Sub.cons rfl rfl ?_)) (.cons .here (.cons .here (Part.refl _)))
    rintro ⟨b13, qr⟩ hqr
    simp only at hqr ⊢
    (repeat (first | refine WL.step (Yl.assign rfl) rfl ?_ | (refine WL.k_load ?_; refine WL.step (Yl.loadBlk (T := 3) Tryz.isAgg3 rfl (by repeat (first | exact .head _ | refine .tail _ ?_)) (by rfl)) rfl ?_) | (refine WL.k_fld ?_; refine WL.step (Yl.fldN0 (i := 0) (o := 0) (by kernel_rfl) rfl) rfl ?_) | refine WL.step (Yl.eql rfl rfl) rfl ?_ | refine WC.seq ?_ | refine WC.region ?_ | refine WL.nil ?_ | refine WN.then_normal ?_ | refine WC.block ?_))
    refine WC.joinB (α := Unit) (fun _ => [(1, .slice a m cap), (5, .pointer none), (7, .pointer none), (9, .pointer none), (10, .pointer none), (14, .bool true), (51, .slice a m cap), (52, .int .i64 (m : Int)), (53, .int .i64 (i : Int))])
      (fun _ => []) (fun _ => True) ?_ ?_
    · skip
      by_cases h0 : x.act = 0
      · refine WC.cond_true rfl (decide_eq_true h0) ?_
        skip
        refine WC.regionH [.blk b1 (.cells x.cs.toArray 35 (0, 0))] (by kernel_rfl) ?_
        (refine WH.order [0, 1, 2, 3, 6, 7, 8, 9] (by repeat (first | exact Part.nil | refine Part.cons (by repeat (first | exact Pick.here | apply Pick.there)) ?_ | refine Part.free ?_)) (by kernel_rfl) ?_; (repeat (first | (refine WT.k_move rfl ?_; (refine WT.kn rfl ?_; refine WT.take rfl rfl (fun _ _ _ h => h) (Yl.move rfl) rfl (by kernel_rfl) (by kernel_rfl) ?_)) | (refine WT.k_load rfl ?_; (refine WT.kn rfl ?_; first | refine WT.take rfl rfl (fun _ _ _ h => h) (Yl.loadAll (T := 35) (T' := 35) Tryz.isAgg35 Tryz.sizeOf35 rfl (.head _) rfl) rfl (by kernel_rfl) (by kernel_rfl) ?_ | refine WT.take rfl rfl (fun _ _ _ h => h) (Yl.loadBlk (T := 3) Tryz.isAgg3 rfl (by repeat (first | exact .head _ | refine .tail _ ?_)) (by rfl)) rfl (by kernel_rfl) (by kernel_rfl) ?_)) | (refine WT.k_fld rfl ?_; (refine WT.kn rfl ?_; refine WT.take rfl rfl (fun _ _ _ h => h) (Yl.fldN0 (i := 1) (o := 1) (by kernel_rfl) rfl) rfl (by kernel_rfl) (by kernel_rfl) ?_)))); refine WT.nil ?_)
        refine WH.only (i := 4) (by kernel_rfl) rfl ?_
        refine WL.callR (g := 9) Tryz.call9 rfl (fun w0 st => sdata_c x w0) rfl fun q1 hq1 => ?_
        simp only [id]
        refine WL.nil (WN.nextH (by repeat (first | exact Part.nil | refine Part.cons (by repeat (first | exact Pick.here | apply Pick.there)) ?_ | refine Part.free ?_)) ?_)
        refine WH.only (i := 5) (by kernel_rfl) rfl ?_
        refine WL.callV (g := 8) (v := .int .i64 1) Tryz.call8 rfl (fun w0 st => dwrite_bad x.sec q1.1 x.dat.length q1.2 _ w0 .none) rfl ?_
        refine WL.nil (WN.nextH (by repeat (first | exact Part.nil | refine Part.cons (by repeat (first | exact Pick.here | apply Pick.there)) ?_ | refine Part.free ?_)) ?_)
        refine WH.only (i := 10) (by kernel_rfl) rfl ?_
        refine WL.callR (g := 9) Tryz.call9 rfl (fun w0 st => sdata_c x w0) rfl fun q2 hq2 => ?_
        simp only [id]
        refine WL.nil (WN.nextH (by repeat (first | exact Part.nil | refine Part.cons (by repeat (first | exact Pick.here | apply Pick.there)) ?_ | refine Part.free ?_)) ?_)
        refine WH.only (i := 11) (by kernel_rfl) rfl ?_
        refine WL.callV (g := 10) (v := .int .i64 1) Tryz.call10 rfl (fun w0 st => ewrite_no x.sec q2.1 x.dat.length q2.2 w0) rfl ?_
        refine WL.nil (WN.nextH (by repeat (first | exact Part.nil | refine Part.cons (by repeat (first | exact Pick.here | apply Pick.there)) ?_ | refine Part.free ?_)) ?_)
        (refine WH.order [12, 13] (by repeat (first | exact Part.nil | refine Part.cons (by repeat (first | exact Pick.here | apply Pick.there)) ?_ | refine Part.free ?_)) (by kernel_rfl) ?_; (repeat (first | (refine WT.k_assign rfl ?_; (refine WT.kn rfl ?_; refine WT.take rfl rfl (fun _ _ _ h => h) (Yl.assign rfl) rfl (by kernel_rfl) (by kernel_rfl) ?_)) | (refine WT.k_bin .eql rfl ?_; (refine WT.kn rfl ?_; refine WT.take rfl rfl (fun _ _ _ h => h) (Yl.eqlT rfl rfl rfl) rfl (by kernel_rfl) (by kernel_rfl) ?_)))); refine WT.nil ?_)
        refine WH.done (by kernel_rfl) ?_
        (repeat (first | refine WN.block_normal ?_))
        exact WN.join () trivial (by repeat (first | exact Sub.nil | refine Sub.cons rfl rfl ?_)) .nil
      by_cases h1 : x.act = 1
      · refine WC.cond_false rfl (decide_eq_false h0) ?_
        (repeat (first | refine WL.step (Yl.assign rfl) rfl ?_ | refine WL.step (Yl.eql rfl rfl) rfl ?_ | refine WC.seq ?_ | refine WC.region ?_ | refine WL.nil ?_ | refine WN.then_normal ?_))
        refine WC.cond_true rfl (decide_eq_true h1) ?_
        (repeat (first | refine WL.step (Yl.move rfl) rfl ?_ | refine WC.region ?_))
        refine WL.callV (g := 11) (v := .int .i64 1) Tryz.call11 rfl (fun w0 st => dsync_bad _ w0 .none) rfl ?_
        (repeat (first | refine WL.step (Yl.move rfl) rfl ?_))
        refine WL.callV (g := 12) (v := .int .i64 1) Tryz.call12 rfl (fun w0 st => esync_no w0) rfl ?_
        (repeat (first | refine WL.step (Yl.assign rfl) rfl ?_ | refine WL.step (Yl.eqlT rfl rfl rfl) rfl ?_ | refine WL.nil ?_ | refine WN.block_normal ?_))
        exact WN.join () trivial (by repeat (first | exact Sub.nil | refine Sub.cons rfl rfl ?_)) .nil
      by_cases h2 : x.act = 2
      · refine WC.cond_false rfl (decide_eq_false h0) ?_
        (repeat (first | refine WL.step (Yl.assign rfl) rfl ?_ | refine WL.step (Yl.eql rfl rfl) rfl ?_ | refine WC.seq ?_ | refine WC.region ?_ | refine WL.nil ?_ | refine WN.then_normal ?_))
        refine WC.cond_false rfl (decide_eq_false h1) ?_
        (repeat (first | refine WL.step (Yl.assign rfl) rfl ?_ | refine WL.step (Yl.eql rfl rfl) rfl ?_ | refine WC.seq ?_ | refine WC.region ?_ | refine WL.nil ?_ | refine WN.then_normal ?_))
        refine WC.cond_true rfl (decide_eq_true h2) ?_
        (repeat (first | refine WL.step (Yl.move rfl) rfl ?_ | (refine WL.k_load ?_; refine WL.step (Yl.loadBlk (T := 3) Tryz.isAgg3 rfl (by repeat (first | exact .head _ | refine .tail _ ?_)) (by rfl)) rfl ?_) | (refine WL.k_fld ?_; refine WL.step (Yl.fldN0 (i := 1) (o := 1) (by kernel_rfl) rfl) rfl ?_) | refine WC.seq ?_ | refine WC.region ?_))
        refine WL.callV (g := 13) (v := .tuple #[.slice none 0 0, .int .i64 1]) Tryz.call13 rfl (fun w0 st => dread_bad x.sec _ w0 .none) rfl ?_
        (repeat (first | refine WL.step (Yl.move rfl) rfl ?_ | refine WL.step (Yl.assign rfl) rfl ?_ | refine WL.step (Yl.extract rfl rfl) rfl ?_ | (refine WL.k_load ?_; refine WL.step (Yl.loadBlk (T := 3) Tryz.isAgg3 rfl (by repeat (first | exact .head _ | refine .tail _ ?_)) (by rfl)) rfl ?_) | (refine WL.k_fld ?_; refine WL.step (Yl.fldN0 (i := 1) (o := 1) (by kernel_rfl) rfl) rfl ?_) | refine WC.seq ?_ | refine WC.region ?_ | refine WL.nil ?_ | refine WN.then_normal ?_))
        refine WL.callV (g := 14) (v := .tuple #[.slice none 0 0, .int .i64 1]) Tryz.call14 rfl (fun w0 st => eread_no x.sec w0) rfl ?_
        (repeat (first | refine WL.step (Yl.move rfl) rfl ?_ | refine WL.step (Yl.assign rfl) rfl ?_ | refine WL.step (Yl.extract rfl rfl) rfl ?_ | refine WC.seq ?_ | refine WC.region ?_ | refine WL.nil ?_ | refine WN.then_normal ?_))
        refine WL.callV (g := 15) (v := .bool true) Tryz.call15 rfl (fun w0 st => bequal_tt none none 0 0 0 [] w0 rfl (.nil _ _) (.nil _ _)) rfl ?_
        (repeat (first | refine WL.want rfl rfl rfl ?_ | refine WL.step (Yl.move rfl) rfl ?_ | refine WL.step (Yl.assign rfl) rfl ?_ | refine WL.step (Yl.pick_t rfl rfl rfl) rfl ?_ | refine WL.step (Yl.eqlT rfl rfl rfl) rfl ?_ | refine WC.region ?_ | refine WL.nil ?_ | refine WN.then_normal ?_))
        refine WL.clear0 Tryz.underlying38 rfl ?_
        (repeat (first | refine WL.nil ?_ | refine WN.block_normal ?_))
        exact WN.join () trivial (by repeat (first | exact Sub.nil | refine Sub.cons rfl rfl ?_)) .nil
      by_cases h3 : x.act = 3
      · refine WC.cond_false rfl (decide_eq_false h0) ?_
        (repeat (first | refine WL.step (Yl.assign rfl) rfl ?_ | refine WL.step (Yl.eql rfl rfl) rfl ?_ | refine WC.seq ?_ | refine WC.region ?_ | refine WL.nil ?_ | refine WN.then_normal ?_))
        refine WC.cond_false rfl (decide_eq_false h1) ?_
        (repeat (first | refine WL.step (Yl.assign rfl) rfl ?_ | refine WL.step (Yl.eql rfl rfl) rfl ?_ | refine WC.seq ?_ | refine WC.region ?_ | refine WL.nil ?_ | refine WN.then_normal ?_))
        refine WC.cond_false rfl (decide_eq_false h2) ?_
        (repeat (first | refine WL.step (Yl.assign rfl) rfl ?_ | refine WL.step (Yl.eql rfl rfl) rfl ?_ | refine WC.seq ?_ | refine WC.region ?_ | refine WL.nil ?_ | refine WN.then_normal ?_))
        refine WC.cond_true rfl (decide_eq_true h3) ?_
        (repeat (first | refine WC.seq ?_))
        refine WC.regionH [.blk b13 (.cells #[.int .i64 x.at_, .slice qr.1 x.m qr.2] 33 (0, 0)), .blk b1 (.cells x.cs.toArray 35 (0, 0))] (by kernel_rfl) ?_
        (refine WH.order [0, 1, 3, 4, 5] (by repeat (first | exact Part.nil | refine Part.cons (by repeat (first | exact Pick.here | apply Pick.there)) ?_ | refine Part.free ?_)) (by kernel_rfl) ?_; (repeat (first | (refine WT.k_move rfl ?_; (refine WT.kn rfl ?_; refine WT.take rfl rfl (fun _ _ _ h => h) (Yl.move rfl) rfl (by kernel_rfl) (by kernel_rfl) ?_)) | (refine WT.k_load rfl ?_; (refine WT.kn rfl ?_; first | refine WT.take rfl rfl (fun _ _ _ h => h) (Yl.loadAll (T := 33) (T' := 33) Tryz.isAgg33 Tryz.sizeOf33 rfl (.head _) rfl) rfl (by kernel_rfl) (by kernel_rfl) ?_ | refine WT.take rfl rfl (fun _ _ _ h => h) (Yl.loadAgg (T := 33) (us := [.int .i64 x.at_, .slice x.a x.m x.c]) Tryz.isAgg33 Tryz.sizeOf33 rfl (.tail _ (.head _)) rfl (fun i u hu => by match i, hu with | 0, hu => exact hu | 1, hu => exact hu)) rfl (by kernel_rfl) (by kernel_rfl) ?_)) | (refine WT.k_fld rfl ?_; (refine WT.kn rfl ?_; refine WT.take rfl rfl (fun _ _ _ h => h) (Yl.fldN0 (i := 4) (o := 4) (by kernel_rfl) rfl) rfl (by kernel_rfl) (by kernel_rfl) ?_)))); refine WT.nil ?_)
        refine WH.only (i := 2) (by kernel_rfl) rfl ?_
        refine WL.callV (g := 16) (v := .int .i64 1) Tryz.call16 rfl (fun w0 st => darm_bad x.at_ qr.1 x.m qr.2 _ w0 .none) rfl ?_
        refine WL.nil (WN.nextH (by repeat (first | exact Part.nil | refine Part.cons (by repeat (first | exact Pick.here | apply Pick.there)) ?_ | refine Part.free ?_)) ?_)
        refine WH.only (i := 6) (by kernel_rfl) rfl ?_
        refine WL.callV (g := 17) (v := .int .i64 1) Tryz.call17 rfl (fun w0 st => earm_no x.at_ x.a x.m x.c w0) rfl ?_
        refine WL.nil (WN.nextH (by repeat (first | exact Part.nil | refine Part.cons (by repeat (first | exact Pick.here | apply Pick.there)) ?_ | refine Part.free ?_)) ?_)
        (refine WH.order [7, 8, 9, 10, 11, 12, 13] (by repeat (first | exact Part.nil | refine Part.cons (by repeat (first | exact Pick.here | apply Pick.there)) ?_ | refine Part.free ?_)) (by kernel_rfl) ?_; (repeat (first | (refine WT.k_move rfl ?_; (refine WT.kn rfl ?_; refine WT.take rfl rfl (fun _ _ _ h => h) (Yl.move rfl) rfl (by kernel_rfl) (by kernel_rfl) ?_)) | (refine WT.k_load rfl ?_; (refine WT.kg rfl ?_; refine WT.takeG rfl rfl rfl rfl (fun _ _ _ h => h) (Yl.loadBlk (T := 31) Tryz.isAgg31 rfl (by repeat (first | exact .head _ | refine .tail _ ?_)) (by rfl)) rfl (by kernel_rfl) (by kernel_rfl) ?_)) | (refine WT.k_fld rfl ?_; (refine WT.kg rfl ?_; first | refine WT.takeG rfl rfl rfl rfl (fun _ _ _ h => h) (Yl.fldN0 (i := 1) (o := 1) (by kernel_rfl) rfl) rfl (by kernel_rfl) (by kernel_rfl) ?_ | refine WT.takeG rfl rfl rfl rfl (fun _ _ _ h => h) (Yl.fldN0 (i := 4) (o := 4) (by kernel_rfl) rfl) rfl (by kernel_rfl) (by kernel_rfl) ?_ | refine WT.takeG rfl rfl rfl rfl (fun _ _ _ h => h) (Yl.fldN (i := 1) (o := 1) (off := 4) (by kernel_rfl) rfl) rfl (by kernel_rfl) (by kernel_rfl) ?_)) | (refine WT.k_bin .eql rfl ?_; (refine WT.kn rfl ?_; refine WT.take rfl rfl (fun _ _ _ h => h) (Yl.eqlT rfl rfl rfl) rfl (by kernel_rfl) (by kernel_rfl) ?_)))); refine WT.nil ?_)
        refine WH.only (i := 14) (by kernel_rfl) rfl ?_
        refine WL.want rfl rfl rfl ?_
        refine WL.callV (g := 18) (v := .bool true) Tryz.call18 rfl (fun w0 st => iequal_t qr.1 x.a x.m qr.2 x.c x.K w0 hxl (by omega) (Rd.row (.tail _ (.head _)) w0 st) (hxo.hr.keep st.kept)) rfl ?_
        refine WL.nil (WN.nextH (by repeat (first | exact Part.nil | refine Part.cons (by repeat (first | exact Pick.here | apply Pick.there)) ?_ | refine Part.free ?_)) ?_)
        (refine WH.order [15, 16] (by repeat (first | exact Part.nil | refine Part.cons (by repeat (first | exact Pick.here | apply Pick.there)) ?_ | refine Part.free ?_)) (by kernel_rfl) ?_; (repeat (first | (refine WT.k_assign rfl ?_; (refine WT.kn rfl ?_; refine WT.take rfl rfl (fun _ _ _ h => h) (Yl.assign rfl) rfl (by kernel_rfl) (by kernel_rfl) ?_)) | (refine WT.k_pick rfl ?_; (refine WT.kn rfl ?_; refine WT.take rfl rfl (fun _ _ _ h => h) (Yl.pick_t rfl rfl rfl) rfl (by kernel_rfl) (by kernel_rfl) ?_)))); refine WT.nil ?_)
        refine WH.done (by kernel_rfl) ?_
        (repeat (first | (refine WL.k_load ?_; refine WL.step (Yl.loadBlk (T := 31) Tryz.isAgg31 rfl (by repeat (first | exact .head _ | refine .tail _ ?_)) (by rfl)) rfl ?_) | (refine WL.k_fld ?_; refine WL.step (Yl.fldN0 (i := 1) (o := 1) (by kernel_rfl) rfl) rfl ?_) | refine WC.region ?_ | refine WN.then_normal ?_))
        refine WL.clearFit (z := .int .i64 0) Tryz.underlying31 Tryz.zeroValue3 rfl rfl (.there .here) (by rw [zcells_len, hxl]; exact Nat.le_refl _) fun y1 => ?_
        (repeat (first | refine WL.nil ?_ | refine WN.block_normal ?_))
        exact WN.join () trivial (by repeat (first | exact Sub.nil | refine Sub.cons rfl rfl ?_)) .nil
      by_cases h4 : x.act = 4
      · refine WC.cond_false rfl (decide_eq_false h0) ?_
        (repeat (first | refine WL.step (Yl.assign rfl) rfl ?_ | refine WL.step (Yl.eql rfl rfl) rfl ?_ | refine WC.seq ?_ | refine WC.region ?_ | refine WL.nil ?_ | refine WN.then_normal ?_))
        refine WC.cond_false rfl (decide_eq_false h1) ?_
        (repeat (first | refine WL.step (Yl.assign rfl) rfl ?_ | refine WL.step (Yl.eql rfl rfl) rfl ?_ | refine WC.seq ?_ | refine WC.region ?_ | refine WL.nil ?_ | refine WN.then_normal ?_))
        refine WC.cond_false rfl (decide_eq_false h2) ?_
        (repeat (first | refine WL.step (Yl.assign rfl) rfl ?_ | refine WL.step (Yl.eql rfl rfl) rfl ?_ | refine WC.seq ?_ | refine WC.region ?_ | refine WL.nil ?_ | refine WN.then_normal ?_))
        refine WC.cond_false rfl (decide_eq_false h3) ?_
        (repeat (first | refine WL.step (Yl.assign rfl) rfl ?_ | refine WL.step (Yl.eql rfl rfl) rfl ?_ | refine WC.seq ?_ | refine WC.region ?_ | refine WL.nil ?_ | refine WN.then_normal ?_))
        refine WC.cond_true rfl (decide_eq_true h4) ?_
        (repeat (first | refine WL.step (Yl.move rfl) rfl ?_ | refine WC.region ?_))
        refine WL.callV (g := 19) (v := .int .i64 1) Tryz.call19 rfl (fun w0 st => drestart_bad _ w0 .none) rfl ?_
        (repeat (first | refine WL.step (Yl.move rfl) rfl ?_))
        refine WL.callV (g := 20) (v := .int .i64 1) Tryz.call20 rfl (fun w0 st => erestart_no w0) rfl ?_
        (repeat (first | refine WL.step (Yl.assign rfl) rfl ?_ | refine WL.step (Yl.eqlT rfl rfl rfl) rfl ?_ | refine WL.nil ?_ | refine WN.block_normal ?_))
        exact WN.join () trivial (by repeat (first | exact Sub.nil | refine Sub.cons rfl rfl ?_)) .nil
      by_cases h5 : x.act = 5
      · refine WC.cond_false rfl (decide_eq_false h0) ?_
        (repeat (first | refine WL.step (Yl.assign rfl) rfl ?_ | refine WL.step (Yl.eql rfl rfl) rfl ?_ | refine WC.seq ?_ | refine WC.region ?_ | refine WL.nil ?_ | refine WN.then_normal ?_))
        refine WC.cond_false rfl (decide_eq_false h1) ?_
        (repeat (first | refine WL.step (Yl.assign rfl) rfl ?_ | refine WL.step (Yl.eql rfl rfl) rfl ?_ | refine WC.seq ?_ | refine WC.region ?_ | refine WL.nil ?_ | refine WN.then_normal ?_))
        refine WC.cond_false rfl (decide_eq_false h2) ?_
        (repeat (first | refine WL.step (Yl.assign rfl) rfl ?_ | refine WL.step (Yl.eql rfl rfl) rfl ?_ | refine WC.seq ?_ | refine WC.region ?_ | refine WL.nil ?_ | refine WN.then_normal ?_))
        refine WC.cond_false rfl (decide_eq_false h3) ?_
        (repeat (first | refine WL.step (Yl.assign rfl) rfl ?_ | refine WL.step (Yl.eql rfl rfl) rfl ?_ | refine WC.seq ?_ | refine WC.region ?_ | refine WL.nil ?_ | refine WN.then_normal ?_))
        refine WC.cond_false rfl (decide_eq_false h4) ?_
        (repeat (first | refine WL.step (Yl.assign rfl) rfl ?_ | refine WL.step (Yl.eql rfl rfl) rfl ?_ | refine WC.seq ?_ | refine WC.region ?_ | refine WL.nil ?_ | refine WN.then_normal ?_))
        refine WC.cond_true rfl (decide_eq_true h5) ?_
        (repeat (first | refine WL.step (Yl.move rfl) rfl ?_ | refine WL.step (Yl.assign rfl) rfl ?_ | refine WC.seq ?_ | refine WC.region ?_ | refine WL.nil ?_ | refine WN.then_normal ?_))
        refine WL.callV (g := 21) (v := .pointer none) Tryz.call21 rfl (fun w0 st => dcopy_bad _ w0 .none) rfl ?_
        (repeat (first | refine WL.step (Yl.move rfl) rfl ?_))
        refine WL.callV (g := 22) (v := .pointer none) Tryz.call22 rfl (fun w0 st => ecopy_no w0) rfl ?_
        (repeat (first | refine WL.step (Yl.assign rfl) rfl ?_ | refine WL.nil ?_ | refine WN.block_normal ?_))
        exact WN.join () trivial (by repeat (first | exact Sub.nil | refine Sub.cons rfl rfl ?_)) .nil
      refine WC.cond_false rfl (decide_eq_false h0) ?_
      (repeat (first | refine WL.step (Yl.assign rfl) rfl ?_ | refine WL.step (Yl.eql rfl rfl) rfl ?_ | refine WC.seq ?_ | refine WC.region ?_ | refine WL.nil ?_ | refine WN.then_normal ?_))
      refine WC.cond_false rfl (decide_eq_false h1) ?_
      (repeat (first | refine WL.step (Yl.assign rfl) rfl ?_ | refine WL.step (Yl.eql rfl rfl) rfl ?_ | refine WC.seq ?_ | refine WC.region ?_ | refine WL.nil ?_ | refine WN.then_normal ?_))
      refine WC.cond_false rfl (decide_eq_false h2) ?_
      (repeat (first | refine WL.step (Yl.assign rfl) rfl ?_ | refine WL.step (Yl.eql rfl rfl) rfl ?_ | refine WC.seq ?_ | refine WC.region ?_ | refine WL.nil ?_ | refine WN.then_normal ?_))
      refine WC.cond_false rfl (decide_eq_false h3) ?_
      (repeat (first | refine WL.step (Yl.assign rfl) rfl ?_ | refine WL.step (Yl.eql rfl rfl) rfl ?_ | refine WC.seq ?_ | refine WC.region ?_ | refine WL.nil ?_ | refine WN.then_normal ?_))
      refine WC.cond_false rfl (decide_eq_false h4) ?_
      (repeat (first | refine WL.step (Yl.assign rfl) rfl ?_ | refine WL.step (Yl.eql rfl rfl) rfl ?_ | refine WC.seq ?_ | refine WC.region ?_ | refine WL.nil ?_ | refine WN.then_normal ?_))
      refine WC.cond_false rfl (decide_eq_false h5) ?_
      (repeat (first | refine WC.skip ?_ | refine WN.block_normal ?_))
      exact WN.join () trivial (by repeat (first | exact Sub.nil | refine Sub.cons rfl rfl ?_)) .nil
    · rintro _ _
      (repeat (first | refine WL.want rfl rfl rfl ?_ | refine WL.step (Yl.move rfl) rfl ?_ | refine WL.step (Yl.not rfl) rfl ?_ | refine WC.seq ?_ | refine WC.region ?_))
      refine WL.callV (g := 23) (v := .bool true) Tryz.call23 rfl (fun w0 st => shows_no w0) rfl ?_
      (repeat (first | (refine WL.kG ?_; first | refine WL.want rfl rfl rfl ?_ | refine WL.pass rfl rfl rfl rfl ?_) | refine WL.step (Yl.move rfl) rfl ?_ | refine WL.step (Yl.pick_f rfl rfl rfl) rfl ?_ | (refine WL.k_bin .neq ?_; refine WL.step (Yl.neqPN (p := none) (by kernel_rfl) rfl) rfl ?_) | refine WL.step (Yl.not rfl) rfl ?_ | refine WL.nil ?_ | refine WN.then_normal ?_))
      refine WC.cond_false rfl rfl ?_
      (repeat (first | refine WL.step (Yl.move rfl) rfl ?_ | (refine WL.k_bin .add ?_; refine WL.step (Yl.add64C rfl (by omega)) rfl ?_) | refine WC.region ?_ | refine WL.nil ?_ | refine WN.then_normal ?_ | refine WC.skip ?_ | refine WN.block_normal ?_))
      exact WN.next (i + 1) (by omega) (by omega) (by repeat (first | exact Sub.nil | refine Sub.cons rfl rfl ?_)) .nil
  · (repeat (first | refine WL.step (Yl.move rfl) rfl ?_ | refine WC.seq ?_ | refine WC.region ?_ | refine WN.then_normal ?_ | refine WC.exit ?_ | refine WN.then_exit ?_ | refine WN.block_here ?_))
    refine WL.callV (g := 23) (v := .bool true) Tryz.call23 rfl (fun w0 st => shows_no w0) rfl ?_
    (repeat (first | refine WL.want rfl rfl rfl ?_ | refine WL.step (Yl.move rfl) rfl ?_ | refine WL.step (Yl.assign rfl) rfl ?_ | refine WL.step (Yl.pick_t rfl rfl rfl) rfl ?_ | (refine WL.k_call 4 ?_; refine WL.callV (g := 4) Tryz.call4 rfl (fun w s => works33_c w) rfl ?_) | refine WL.nil ?_ | refine WN.then_normal ?_ | refine WC.ret ?_))
    exact WN.ret1 rfl rfl ⟨rfl, rfl⟩ .nil
theorem lpl33_no1 (z : Int) (a : Option Addr) (m cap : Nat) (S : List DStep) (w : World) (hl : S.length = m) (hm : m ≤ 9223372036854775807) (hr : CellsAt w a (S.flatMap DStep.cs)) (hok : ∀ s ∈ S, s.Ok w) (hf : m ≤ 60) (h : z < 1 ∨ 4096 < z) (hz : 4096 < z) : Calls Tryz.prog 3 #[.int .i64 z, .slice a m cap] w (Gives (Val (.bool true)) w) := by
  refine enter (args := [_, _]) Tryz.func3 Tryz.ntmps3 rfl rfl ?_
  (repeat (first | refine WL.want rfl rfl rfl ?_ | refine WL.step (Yl.move rfl) rfl ?_ | refine WL.step (Yl.assign rfl) rfl ?_ | (refine WL.k_pick ?_; first | refine WL.step (Yl.pick_t rfl rfl rfl) rfl ?_ | refine WL.step (Yl.pick_f rfl rfl rfl) rfl ?_) | refine WL.step (Yl.len (t := 22) Tryz.underlying22 rfl) rfl ?_ | (refine WL.k_bin .gtr ?_; first | refine WL.step (Yl.gtrF rfl rfl (by omega)) rfl ?_ | refine WL.step (Yl.gtrT rfl rfl (by omega)) rfl ?_) | (refine WL.k_bin .leq ?_; refine WL.step (Yl.leqF rfl rfl (by omega)) rfl ?_) | refine WC.seq ?_ | refine WC.region ?_ | refine WL.nil ?_ | refine WN.then_normal ?_))
  refine WC.cond_false rfl rfl ?_
  (repeat (first | refine WL.step (Yl.move rfl) rfl ?_ | refine WC.seq ?_ | refine WC.region ?_ | refine WN.then_normal ?_ | refine WC.skip ?_))
  refine WL.callV (g := 5) (v := .tuple #[.pointer none, .int .i64 2]) Tryz.call5 rfl (fun w0 st => dnew_no z w0 h) rfl ?_
  (repeat (first | refine WL.step (Yl.move rfl) rfl ?_ | refine WL.step (Yl.assign rfl) rfl ?_ | refine WL.step (Yl.extract rfl rfl) rfl ?_ | refine WC.seq ?_ | refine WC.region ?_ | refine WL.nil ?_ | refine WN.then_normal ?_))
  refine WL.callV (g := 6) (v := .tuple #[.pointer none, .int .i64 2]) Tryz.call6 rfl (fun w0 st => enew_no z w0 h) rfl ?_
  (repeat (first | refine WL.want rfl rfl rfl ?_ | refine WL.step (Yl.move rfl) rfl ?_ | refine WL.step (Yl.assign rfl) rfl ?_ | refine WL.step (Yl.extract rfl rfl) rfl ?_ | refine WL.step (Yl.pick_f rfl rfl rfl) rfl ?_ | (refine WL.k_bin .neq ?_; first | refine WL.step (Yl.neqF rfl rfl rfl) rfl ?_ | refine WL.step (Yl.neqT rfl rfl (by decide)) rfl ?_ | refine WL.step (Yl.neqB (t := 4) Tryz.underlying4 rfl rfl) rfl ?_) | (refine WL.k_bin .eql ?_; refine WL.step (Yl.eqlPN (by kernel_rfl) rfl) rfl ?_) | refine WC.seq ?_ | refine WC.region ?_ | refine WL.nil ?_ | refine WN.then_normal ?_))
  refine WC.cond_false rfl rfl ?_
  (repeat (first | refine WL.step (Yl.move rfl) rfl ?_ | refine WL.step (Yl.assign rfl) rfl ?_ | refine WL.step (Yl.len (t := 22) Tryz.underlying22 rfl) rfl ?_ | refine WC.seq ?_ | refine WC.region ?_ | refine WL.nil ?_ | refine WN.then_normal ?_ | refine WC.block ?_ | refine WC.skip ?_))
  refine WC.loop (α := Nat) (fun i => [(1, .slice a m cap), (5, .pointer none), (7, .pointer none), (9, .pointer none), (10, .pointer none), (51, .slice a m cap), (52, .int .i64 (m : Int)), (53, .int .i64 (i : Int))]) (fun _ => []) (fun i => i ≤ m) (fun i => m - i) 0 (by repeat (first | exact Sub.nil | refine Sub.cons rfl rfl ?_)) .nil (Nat.zero_le _) ?_
  intro i hi
  (repeat (first | refine WL.step (Yl.lss rfl rfl) rfl ?_ | refine WC.seq ?_ | refine WC.region ?_ | refine WL.nil ?_ | refine WN.then_normal ?_))
  refine WC.ite rfl (fun g1 => ?_) (fun g1 => ?_)
  · have hid : i < m := by omega
    obtain ⟨x, hx⟩ : ∃ t, S[i]? = some t := ⟨_, List.getElem?_eq_getElem (by omega)⟩
    have hxo := hok x (List.mem_of_getElem? hx)
    have hxr := hxo.hr.out
    have hxl := hxo.hl
    (repeat (first | (refine WL.k_load ?_; refine WL.step (Yl.loadEl x.cs Tryz.isAgg35 Tryz.sizeOf35 rfl (Rd.old hr) x.len (by simp [DStep.cs]) (dstep_at hx)) rfl ?_) | refine WL.step (Yl.indexAddr (t := 22) (j := i) Tryz.underlying22 Tryz.sizeOf35 rfl rfl (Rd.old hr) (dstep_ne hx) hid) rfl ?_ | refine WC.seq ?_ | refine WC.region ?_ | refine WN.then_normal ?_ | refine WC.block ?_ | refine WC.skip ?_))
    refine WL.allocA Tryz.zeroValue35 rfl fun b1 => ?_
    refine WL.storeWhole (T := 35) (k := 6) Tryz.sizeOf35 rfl rfl rfl .here rfl rfl ?_
    by_cases hbig : 70 < x.m
    · (repeat (first | (refine WL.k_load ?_; refine WL.step (Yl.loadBlk (T := 31) Tryz.isAgg31 rfl (by repeat (first | exact .head _ | refine .tail _ ?_)) (by rfl)) rfl ?_) | (refine WL.k_fld ?_; first | refine WL.step (Yl.fldN0 (i := 4) (o := 4) (by kernel_rfl) rfl) rfl ?_ | refine WL.step (Yl.fldN (i := 1) (o := 1) (off := 4) (by kernel_rfl) rfl) rfl ?_) | refine WL.step (Yl.len (t := 31) Tryz.underlying31 rfl) rfl ?_ | (refine WL.k_bin .gtr ?_; refine WL.step (Yl.gtrT rfl rfl (by omega)) rfl ?_) | refine WC.seq ?_ | refine WC.region ?_ | refine WL.nil ?_ | refine WN.then_normal ?_))
      refine WC.cond_true rfl rfl ?_
      (repeat (first | refine WL.step (Yl.assign rfl) rfl ?_ | (refine WL.k_call 4 ?_; refine WL.callV (g := 4) Tryz.call4 rfl (fun w s => works33_c w) rfl ?_) | refine WC.seq ?_ | refine WC.region ?_ | refine WL.nil ?_ | refine WN.then_normal ?_ | refine WC.ret ?_ | refine WN.then_ret ?_ | refine WN.block_ret ?_))
      exact WN.ret1 rfl rfl ⟨rfl, rfl⟩ .nil
    (repeat (first | (refine WL.k_load ?_; refine WL.step (Yl.loadBlk (T := 31) Tryz.isAgg31 rfl (by repeat (first | exact .head _ | refine .tail _ ?_)) (by rfl)) rfl ?_) | (refine WL.k_fld ?_; first | refine WL.step (Yl.fldN0 (i := 4) (o := 4) (by kernel_rfl) rfl) rfl ?_ | refine WL.step (Yl.fldN (i := 1) (o := 1) (off := 4) (by kernel_rfl) rfl) rfl ?_) | refine WL.step (Yl.len (t := 31) Tryz.underlying31 rfl) rfl ?_ | (refine WL.k_bin .gtr ?_; refine WL.step (Yl.gtrF rfl rfl (by omega)) rfl ?_) | refine WC.seq ?_ | refine WC.region ?_ | refine WL.nil ?_ | refine WN.then_normal ?_))
    refine WC.cond_false rfl rfl ?_
    (repeat (first | refine WC.seq ?_ | refine WN.then_normal ?_ | refine WC.skip ?_))
    refine WC.join (α := Nat × (Option Addr × Nat)) (fun g => [(1, .slice a m cap), (5, .pointer none), (7, .pointer none), (9, .pointer none), (10, .pointer none), (12, .pointer (some ⟨b1, 0, none⟩)), (13, .pointer (some ⟨g.1, 0, none⟩)), (51, .slice a m cap), (52, .int .i64 (m : Int)), (53, .int .i64 (i : Int))])
      (fun g => .blk g.1 (.cells #[.int .i64 x.at_, .slice g.2.1 x.m g.2.2] 33 (0, 0)) :: .row g.2.1 g.2.2 3 1 (zcells x.K) :: .blk b1 (.cells x.cs.toArray 35 (0, 0)) :: []) (fun g => x.m ≤ g.2.2) ?_ ?_
    · refine WC.regionH [.blk b1 (.cells x.cs.toArray 35 (0, 0))] (by kernel_rfl) ?_
      (refine WH.order [0, 1, 2, 3, 4, 5] (by repeat (first | exact Part.nil | refine Part.cons (by repeat (first | exact Pick.here | apply Pick.there)) ?_ | refine Part.free ?_)) (by kernel_rfl) ?_; (repeat (first | (refine WT.k_load rfl ?_; (refine WT.kn rfl ?_; first | refine WT.take rfl rfl (fun _ _ _ h => h) (Yl.loadBlk (T := 3) Tryz.isAgg3 rfl (by repeat (first | exact .head _ | refine .tail _ ?_)) (by rfl)) rfl (by kernel_rfl) (by kernel_rfl) ?_ | refine WT.take rfl rfl (fun _ _ _ h => h) (Yl.loadBlk (T := 31) Tryz.isAgg31 rfl (by repeat (first | exact .head _ | refine .tail _ ?_)) (by rfl)) rfl (by kernel_rfl) (by kernel_rfl) ?_)) | (refine WT.k_fld rfl ?_; (refine WT.kn rfl ?_; first | refine WT.take rfl rfl (fun _ _ _ h => h) (Yl.fldN0 (i := 4) (o := 4) (by kernel_rfl) rfl) rfl (by kernel_rfl) (by kernel_rfl) ?_ | refine WT.take rfl rfl (fun _ _ _ h => h) (Yl.fldN (i := 0) (o := 0) (off := 4) (by kernel_rfl) rfl) rfl (by kernel_rfl) (by kernel_rfl) ?_ | refine WT.take rfl rfl (fun _ _ _ h => h) (Yl.fldN (i := 1) (o := 1) (off := 4) (by kernel_rfl) rfl) rfl (by kernel_rfl) (by kernel_rfl) ?_)))); refine WT.nil ?_)
      refine WH.two (i := 6) (j := 8) (by kernel_rfl) rfl rfl ?_ ?_
      · refine WL.callR (g := 7) Tryz.call7 rfl (fun w0 st => icl_c x.a x.m x.c x.K w0 hxl (by omega) (hxo.hr.keep st.kept)) rfl fun qr hqr => ?_
        simp only [id]
        refine WL.nil (WN.nextH (.cons (.there .here) .nil) ?_)
        (refine WH.order [7] (by repeat (first | exact Part.nil | refine Part.cons (by repeat (first | exact Pick.here | apply Pick.there)) ?_ | refine Part.free ?_)) (by kernel_rfl) ?_; (repeat (first | (refine WT.k_build rfl ?_; (refine WT.kn rfl ?_; refine WT.take rfl rfl (fun _ _ _ h => h) (Yl.build (ps := [(0, .tmp 65), (1, .tmp 69)]) (vs := [(0, .int .i64 x.at_), (1, .slice qr.1 x.m qr.2)]) rfl (buildPl _ _ _ _)) rfl (by kernel_rfl) (by kernel_rfl) ?_)))); refine WT.nil ?_)
        refine WH.only (i := 8) (by kernel_rfl) rfl ?_
        refine WL.allocA Tryz.zeroValue33 rfl fun b13 => ?_
        refine WL.nil (WN.nextH (.cons (.there (.there .here)) .nil) ?_)
        refine WH.only (i := 9) (by kernel_rfl) rfl ?_
        refine WL.storeWhole (T := 33) (k := 2) Tryz.sizeOf33 rfl rfl rfl .here rfl rfl ?_
        refine WL.nil (WN.nextH (.cons (.there (.there .here)) .nil) (WH.done (by kernel_rfl) ?_))
        exact WN.join (b13, qr) hqr (by repeat (first | exact Sub.nil | refine Sub.cons rfl rfl ?_)) (Part.refl _)
      · refine WL.allocA Tryz.zeroValue33 rfl fun b13 => ?_
        refine WL.nil (WN.nextH (.cons (.there .here) .nil) ?_)
        refine WH.only (i := 6) (by kernel_rfl) rfl ?_
        refine WL.callR (g := 7) Tryz.call7 rfl (fun w0 st => icl_c x.a x.m x.c x.K w0 hxl (by omega) (hxo.hr.keep st.kept)) rfl fun qr hqr => ?_
        simp only [id]
        refine WL.nil (WN.nextH (.cons (.there (.there .here)) .nil) ?_)
        (refine WH.order [7] (by repeat (first | exact Part.nil | refine Part.cons (by repeat (first | exact Pick.here | apply Pick.there)) ?_ | refine Part.free ?_)) (by kernel_rfl) ?_; (repeat (first | (refine WT.k_build rfl ?_; (refine WT.kn rfl ?_; refine WT.take rfl rfl (fun _ _ _ h => h) (Yl.build (ps := [(0, .tmp 65), (1, .tmp 69)]) (vs := [(0, .int .i64 x.at_), (1, .slice qr.1 x.m qr.2)]) rfl (buildPl _ _ _ _)) rfl (by kernel_rfl) (by kernel_rfl) ?_)))); refine WT.nil ?_)
        refine WH.only (i := 9) (by kernel_rfl) rfl ?_
        refine WL.storeWhole (T := 33) (k := 2) Tryz.sizeOf33 rfl rfl rfl (.there .here) rfl rfl ?_
        refine WL.nil (WN.nextH (.cons (.there (.there .here)) .nil) (WH.done (by kernel_rfl) ?_))
        exact WN.join (b13, qr) hqr (by repeat (first | exact Sub.nil | refine Sub.cons rfl rfl ?_)) (.cons .here (.cons .here (Part.refl _)))
    rintro ⟨b13, qr⟩ hqr
    simp only at hqr ⊢
    (repeat (first | refine WL.step (Yl.assign rfl) rfl ?_ | (refine WL.k_load ?_; refine WL.step (Yl.loadBlk (T := 3) Tryz.isAgg3 rfl (by repeat (first | exact .head _ | refine .tail _ ?_)) (by rfl)) rfl ?_) | (refine WL.k_fld ?_; refine WL.step (Yl.fldN0 (i := 0) (o := 0) (by kernel_rfl) rfl) rfl ?_) | refine WL.step (Yl.eql rfl rfl) rfl ?_ | refine WC.seq ?_ | refine WC.region ?_ | refine WL.nil ?_ | refine WN.then_normal ?_ | refine WC.block ?_))
    refine WC.joinB (α := Unit) (fun _ => [(1, .slice a m cap), (5, .pointer none), (7, .pointer none), (9, .pointer none), (10, .pointer none), (14, .bool true), (51, .slice a m cap), (52, .int .i64 (m : Int)), (53, .int .i64 (i : Int))])
      (fun _ => []) (fun _ => True) ?_ ?_
    · skip
      by_cases h0 : x.act = 0
      · refine WC.cond_true rfl (decide_eq_true h0) ?_
        skip
        refine WC.regionH [.blk b1 (.cells x.cs.toArray 35 (0, 0))] (by kernel_rfl) ?_
        (refine WH.order [0, 1, 2, 3, 6, 7, 8, 9] (by repeat (first | exact Part.nil | refine Part.cons (by repeat (first | exact Pick.here | apply Pick.there)) ?_ | refine Part.free ?_)) (by kernel_rfl) ?_; (repeat (first | (refine WT.k_move rfl ?_; (refine WT.kn rfl ?_; refine WT.take rfl rfl (fun _ _ _ h => h) (Yl.move rfl) rfl (by kernel_rfl) (by kernel_rfl) ?_)) | (refine WT.k_load rfl ?_; (refine WT.kn rfl ?_; first | refine WT.take rfl rfl (fun _ _ _ h => h) (Yl.loadAll (T := 35) (T' := 35) Tryz.isAgg35 Tryz.sizeOf35 rfl (.head _) rfl) rfl (by kernel_rfl) (by kernel_rfl) ?_ | refine WT.take rfl rfl (fun _ _ _ h => h) (Yl.loadBlk (T := 3) Tryz.isAgg3 rfl (by repeat (first | exact .head _ | refine .tail _ ?_)) (by rfl)) rfl (by kernel_rfl) (by kernel_rfl) ?_)) | (refine WT.k_fld rfl ?_; (refine WT.kn rfl ?_; refine WT.take rfl rfl (fun _ _ _ h => h) (Yl.fldN0 (i := 1) (o := 1) (by kernel_rfl) rfl) rfl (by kernel_rfl) (by kernel_rfl) ?_)))); refine WT.nil ?_)
        refine WH.only (i := 4) (by kernel_rfl) rfl ?_
        refine WL.callR (g := 9) Tryz.call9 rfl (fun w0 st => sdata_c x w0) rfl fun q1 hq1 => ?_
        simp only [id]
        refine WL.nil (WN.nextH (by repeat (first | exact Part.nil | refine Part.cons (by repeat (first | exact Pick.here | apply Pick.there)) ?_ | refine Part.free ?_)) ?_)
        refine WH.only (i := 5) (by kernel_rfl) rfl ?_
        refine WL.callV (g := 8) (v := .int .i64 1) Tryz.call8 rfl (fun w0 st => dwrite_bad x.sec q1.1 x.dat.length q1.2 _ w0 .none) rfl ?_
        refine WL.nil (WN.nextH (by repeat (first | exact Part.nil | refine Part.cons (by repeat (first | exact Pick.here | apply Pick.there)) ?_ | refine Part.free ?_)) ?_)
        refine WH.only (i := 10) (by kernel_rfl) rfl ?_
        refine WL.callR (g := 9) Tryz.call9 rfl (fun w0 st => sdata_c x w0) rfl fun q2 hq2 => ?_
        simp only [id]
        refine WL.nil (WN.nextH (by repeat (first | exact Part.nil | refine Part.cons (by repeat (first | exact Pick.here | apply Pick.there)) ?_ | refine Part.free ?_)) ?_)
        refine WH.only (i := 11) (by kernel_rfl) rfl ?_
        refine WL.callV (g := 10) (v := .int .i64 1) Tryz.call10 rfl (fun w0 st => ewrite_no x.sec q2.1 x.dat.length q2.2 w0) rfl ?_
        refine WL.nil (WN.nextH (by repeat (first | exact Part.nil | refine Part.cons (by repeat (first | exact Pick.here | apply Pick.there)) ?_ | refine Part.free ?_)) ?_)
        (refine WH.order [12, 13] (by repeat (first | exact Part.nil | refine Part.cons (by repeat (first | exact Pick.here | apply Pick.there)) ?_ | refine Part.free ?_)) (by kernel_rfl) ?_; (repeat (first | (refine WT.k_assign rfl ?_; (refine WT.kn rfl ?_; refine WT.take rfl rfl (fun _ _ _ h => h) (Yl.assign rfl) rfl (by kernel_rfl) (by kernel_rfl) ?_)) | (refine WT.k_bin .eql rfl ?_; (refine WT.kn rfl ?_; refine WT.take rfl rfl (fun _ _ _ h => h) (Yl.eqlT rfl rfl rfl) rfl (by kernel_rfl) (by kernel_rfl) ?_)))); refine WT.nil ?_)
        refine WH.done (by kernel_rfl) ?_
        (repeat (first | refine WN.block_normal ?_))
        exact WN.join () trivial (by repeat (first | exact Sub.nil | refine Sub.cons rfl rfl ?_)) .nil
      by_cases h1 : x.act = 1
      · refine WC.cond_false rfl (decide_eq_false h0) ?_
        (repeat (first | refine WL.step (Yl.assign rfl) rfl ?_ | refine WL.step (Yl.eql rfl rfl) rfl ?_ | refine WC.seq ?_ | refine WC.region ?_ | refine WL.nil ?_ | refine WN.then_normal ?_))
        refine WC.cond_true rfl (decide_eq_true h1) ?_
        (repeat (first | refine WL.step (Yl.move rfl) rfl ?_ | refine WC.region ?_))
        refine WL.callV (g := 11) (v := .int .i64 1) Tryz.call11 rfl (fun w0 st => dsync_bad _ w0 .none) rfl ?_
        (repeat (first | refine WL.step (Yl.move rfl) rfl ?_))
        refine WL.callV (g := 12) (v := .int .i64 1) Tryz.call12 rfl (fun w0 st => esync_no w0) rfl ?_
        (repeat (first | refine WL.step (Yl.assign rfl) rfl ?_ | refine WL.step (Yl.eqlT rfl rfl rfl) rfl ?_ | refine WL.nil ?_ | refine WN.block_normal ?_))
        exact WN.join () trivial (by repeat (first | exact Sub.nil | refine Sub.cons rfl rfl ?_)) .nil
      by_cases h2 : x.act = 2
      · refine WC.cond_false rfl (decide_eq_false h0) ?_
        (repeat (first | refine WL.step (Yl.assign rfl) rfl ?_ | refine WL.step (Yl.eql rfl rfl) rfl ?_ | refine WC.seq ?_ | refine WC.region ?_ | refine WL.nil ?_ | refine WN.then_normal ?_))
        refine WC.cond_false rfl (decide_eq_false h1) ?_
        (repeat (first | refine WL.step (Yl.assign rfl) rfl ?_ | refine WL.step (Yl.eql rfl rfl) rfl ?_ | refine WC.seq ?_ | refine WC.region ?_ | refine WL.nil ?_ | refine WN.then_normal ?_))
        refine WC.cond_true rfl (decide_eq_true h2) ?_
        (repeat (first | refine WL.step (Yl.move rfl) rfl ?_ | (refine WL.k_load ?_; refine WL.step (Yl.loadBlk (T := 3) Tryz.isAgg3 rfl (by repeat (first | exact .head _ | refine .tail _ ?_)) (by rfl)) rfl ?_) | (refine WL.k_fld ?_; refine WL.step (Yl.fldN0 (i := 1) (o := 1) (by kernel_rfl) rfl) rfl ?_) | refine WC.seq ?_ | refine WC.region ?_))
        refine WL.callV (g := 13) (v := .tuple #[.slice none 0 0, .int .i64 1]) Tryz.call13 rfl (fun w0 st => dread_bad x.sec _ w0 .none) rfl ?_
        (repeat (first | refine WL.step (Yl.move rfl) rfl ?_ | refine WL.step (Yl.assign rfl) rfl ?_ | refine WL.step (Yl.extract rfl rfl) rfl ?_ | (refine WL.k_load ?_; refine WL.step (Yl.loadBlk (T := 3) Tryz.isAgg3 rfl (by repeat (first | exact .head _ | refine .tail _ ?_)) (by rfl)) rfl ?_) | (refine WL.k_fld ?_; refine WL.step (Yl.fldN0 (i := 1) (o := 1) (by kernel_rfl) rfl) rfl ?_) | refine WC.seq ?_ | refine WC.region ?_ | refine WL.nil ?_ | refine WN.then_normal ?_))
        refine WL.callV (g := 14) (v := .tuple #[.slice none 0 0, .int .i64 1]) Tryz.call14 rfl (fun w0 st => eread_no x.sec w0) rfl ?_
        (repeat (first | refine WL.step (Yl.move rfl) rfl ?_ | refine WL.step (Yl.assign rfl) rfl ?_ | refine WL.step (Yl.extract rfl rfl) rfl ?_ | refine WC.seq ?_ | refine WC.region ?_ | refine WL.nil ?_ | refine WN.then_normal ?_))
        refine WL.callV (g := 15) (v := .bool true) Tryz.call15 rfl (fun w0 st => bequal_tt none none 0 0 0 [] w0 rfl (.nil _ _) (.nil _ _)) rfl ?_
        (repeat (first | refine WL.want rfl rfl rfl ?_ | refine WL.step (Yl.move rfl) rfl ?_ | refine WL.step (Yl.assign rfl) rfl ?_ | refine WL.step (Yl.pick_t rfl rfl rfl) rfl ?_ | refine WL.step (Yl.eqlT rfl rfl rfl) rfl ?_ | refine WC.region ?_ | refine WL.nil ?_ | refine WN.then_normal ?_))
        refine WL.clear0 Tryz.underlying38 rfl ?_
        (repeat (first | refine WL.nil ?_ | refine WN.block_normal ?_))
        exact WN.join () trivial (by repeat (first | exact Sub.nil | refine Sub.cons rfl rfl ?_)) .nil
      by_cases h3 : x.act = 3
      · refine WC.cond_false rfl (decide_eq_false h0) ?_
        (repeat (first | refine WL.step (Yl.assign rfl) rfl ?_ | refine WL.step (Yl.eql rfl rfl) rfl ?_ | refine WC.seq ?_ | refine WC.region ?_ | refine WL.nil ?_ | refine WN.then_normal ?_))
        refine WC.cond_false rfl (decide_eq_false h1) ?_
        (repeat (first | refine WL.step (Yl.assign rfl) rfl ?_ | refine WL.step (Yl.eql rfl rfl) rfl ?_ | refine WC.seq ?_ | refine WC.region ?_ | refine WL.nil ?_ | refine WN.then_normal ?_))
        refine WC.cond_false rfl (decide_eq_false h2) ?_
        (repeat (first | refine WL.step (Yl.assign rfl) rfl ?_ | refine WL.step (Yl.eql rfl rfl) rfl ?_ | refine WC.seq ?_ | refine WC.region ?_ | refine WL.nil ?_ | refine WN.then_normal ?_))
        refine WC.cond_true rfl (decide_eq_true h3) ?_
        (repeat (first | refine WC.seq ?_))
        refine WC.regionH [.blk b13 (.cells #[.int .i64 x.at_, .slice qr.1 x.m qr.2] 33 (0, 0)), .blk b1 (.cells x.cs.toArray 35 (0, 0))] (by kernel_rfl) ?_
        (refine WH.order [0, 1, 3, 4, 5] (by repeat (first | exact Part.nil | refine Part.cons (by repeat (first | exact Pick.here | apply Pick.there)) ?_ | refine Part.free ?_)) (by kernel_rfl) ?_; (repeat (first | (refine WT.k_move rfl ?_; (refine WT.kn rfl ?_; refine WT.take rfl rfl (fun _ _ _ h => h) (Yl.move rfl) rfl (by kernel_rfl) (by kernel_rfl) ?_)) | (refine WT.k_load rfl ?_; (refine WT.kn rfl ?_; first | refine WT.take rfl rfl (fun _ _ _ h => h) (Yl.loadAll (T := 33) (T' := 33) Tryz.isAgg33 Tryz.sizeOf33 rfl (.head _) rfl) rfl (by kernel_rfl) (by kernel_rfl) ?_ | refine WT.take rfl rfl (fun _ _ _ h => h) (Yl.loadAgg (T := 33) (us := [.int .i64 x.at_, .slice x.a x.m x.c]) Tryz.isAgg33 Tryz.sizeOf33 rfl (.tail _ (.head _)) rfl (fun i u hu => by match i, hu with | 0, hu => exact hu | 1, hu => exact hu)) rfl (by kernel_rfl) (by kernel_rfl) ?_)) | (refine WT.k_fld rfl ?_; (refine WT.kn rfl ?_; refine WT.take rfl rfl (fun _ _ _ h => h) (Yl.fldN0 (i := 4) (o := 4) (by kernel_rfl) rfl) rfl (by kernel_rfl) (by kernel_rfl) ?_)))); refine WT.nil ?_)
        refine WH.only (i := 2) (by kernel_rfl) rfl ?_
        refine WL.callV (g := 16) (v := .int .i64 1) Tryz.call16 rfl (fun w0 st => darm_bad x.at_ qr.1 x.m qr.2 _ w0 .none) rfl ?_
        refine WL.nil (WN.nextH (by repeat (first | exact Part.nil | refine Part.cons (by repeat (first | exact Pick.here | apply Pick.there)) ?_ | refine Part.free ?_)) ?_)
        refine WH.only (i := 6) (by kernel_rfl) rfl ?_
        refine WL.callV (g := 17) (v := .int .i64 1) Tryz.call17 rfl (fun w0 st => earm_no x.at_ x.a x.m x.c w0) rfl ?_
        refine WL.nil (WN.nextH (by repeat (first | exact Part.nil | refine Part.cons (by repeat (first | exact Pick.here | apply Pick.there)) ?_ | refine Part.free ?_)) ?_)
        (refine WH.order [7, 8, 9, 10, 11, 12, 13] (by repeat (first | exact Part.nil | refine Part.cons (by repeat (first | exact Pick.here | apply Pick.there)) ?_ | refine Part.free ?_)) (by kernel_rfl) ?_; (repeat (first | (refine WT.k_move rfl ?_; (refine WT.kn rfl ?_; refine WT.take rfl rfl (fun _ _ _ h => h) (Yl.move rfl) rfl (by kernel_rfl) (by kernel_rfl) ?_)) | (refine WT.k_load rfl ?_; (refine WT.kg rfl ?_; refine WT.takeG rfl rfl rfl rfl (fun _ _ _ h => h) (Yl.loadBlk (T := 31) Tryz.isAgg31 rfl (by repeat (first | exact .head _ | refine .tail _ ?_)) (by rfl)) rfl (by kernel_rfl) (by kernel_rfl) ?_)) | (refine WT.k_fld rfl ?_; (refine WT.kg rfl ?_; first | refine WT.takeG rfl rfl rfl rfl (fun _ _ _ h => h) (Yl.fldN0 (i := 1) (o := 1) (by kernel_rfl) rfl) rfl (by kernel_rfl) (by kernel_rfl) ?_ | refine WT.takeG rfl rfl rfl rfl (fun _ _ _ h => h) (Yl.fldN0 (i := 4) (o := 4) (by kernel_rfl) rfl) rfl (by kernel_rfl) (by kernel_rfl) ?_ | refine WT.takeG rfl rfl rfl rfl (fun _ _ _ h => h) (Yl.fldN (i := 1) (o := 1) (off := 4) (by kernel_rfl) rfl) rfl (by kernel_rfl) (by kernel_rfl) ?_)) | (refine WT.k_bin .eql rfl ?_; (refine WT.kn rfl ?_; refine WT.take rfl rfl (fun _ _ _ h => h) (Yl.eqlT rfl rfl rfl) rfl (by kernel_rfl) (by kernel_rfl) ?_)))); refine WT.nil ?_)
        refine WH.only (i := 14) (by kernel_rfl) rfl ?_
        refine WL.want rfl rfl rfl ?_
        refine WL.callV (g := 18) (v := .bool true) Tryz.call18 rfl (fun w0 st => iequal_t qr.1 x.a x.m qr.2 x.c x.K w0 hxl (by omega) (Rd.row (.tail _ (.head _)) w0 st) (hxo.hr.keep st.kept)) rfl ?_
        refine WL.nil (WN.nextH (by repeat (first | exact Part.nil | refine Part.cons (by repeat (first | exact Pick.here | apply Pick.there)) ?_ | refine Part.free ?_)) ?_)
        (refine WH.order [15, 16] (by repeat (first | exact Part.nil | refine Part.cons (by repeat (first | exact Pick.here | apply Pick.there)) ?_ | refine Part.free ?_)) (by kernel_rfl) ?_; (repeat (first | (refine WT.k_assign rfl ?_; (refine WT.kn rfl ?_; refine WT.take rfl rfl (fun _ _ _ h => h) (Yl.assign rfl) rfl (by kernel_rfl) (by kernel_rfl) ?_)) | (refine WT.k_pick rfl ?_; (refine WT.kn rfl ?_; refine WT.take rfl rfl (fun _ _ _ h => h) (Yl.pick_t rfl rfl rfl) rfl (by kernel_rfl) (by kernel_rfl) ?_)))); refine WT.nil ?_)
        refine WH.done (by kernel_rfl) ?_
        (repeat (first | (refine WL.k_load ?_; refine WL.step (Yl.loadBlk (T := 31) Tryz.isAgg31 rfl (by repeat (first | exact .head _ | refine .tail _ ?_)) (by rfl)) rfl ?_) | (refine WL.k_fld ?_; refine WL.step (Yl.fldN0 (i := 1) (o := 1) (by kernel_rfl) rfl) rfl ?_) | refine WC.region ?_ | refine WN.then_normal ?_))
        refine WL.clearFit (z := .int .i64 0) Tryz.underlying31 Tryz.zeroValue3 rfl rfl (.there .here) (by rw [zcells_len, hxl]; exact Nat.le_refl _) fun y1 => ?_
        (repeat (first | refine WL.nil ?_ | refine WN.block_normal ?_))
        exact WN.join () trivial (by repeat (first | exact Sub.nil | refine Sub.cons rfl rfl ?_)) .nil
      by_cases h4 : x.act = 4
      · refine WC.cond_false rfl (decide_eq_false h0) ?_
        (repeat (first | refine WL.step (Yl.assign rfl) rfl ?_ | refine WL.step (Yl.eql rfl rfl) rfl ?_ | refine WC.seq ?_ | refine WC.region ?_ | refine WL.nil ?_ | refine WN.then_normal ?_))
        refine WC.cond_false rfl (decide_eq_false h1) ?_
        (repeat (first | refine WL.step (Yl.assign rfl) rfl ?_ | refine WL.step (Yl.eql rfl rfl) rfl ?_ | refine WC.seq ?_ | refine WC.region ?_ | refine WL.nil ?_ | refine WN.then_normal ?_))
        refine WC.cond_false rfl (decide_eq_false h2) ?_
        (repeat (first | refine WL.step (Yl.assign rfl) rfl ?_ | refine WL.step (Yl.eql rfl rfl) rfl ?_ | refine WC.seq ?_ | refine WC.region ?_ | refine WL.nil ?_ | refine WN.then_normal ?_))
        refine WC.cond_false rfl (decide_eq_false h3) ?_
        (repeat (first | refine WL.step (Yl.assign rfl) rfl ?_ | refine WL.step (Yl.eql rfl rfl) rfl ?_ | refine WC.seq ?_ | refine WC.region ?_ | refine WL.nil ?_ | refine WN.then_normal ?_))
        refine WC.cond_true rfl (decide_eq_true h4) ?_
        (repeat (first | refine WL.step (Yl.move rfl) rfl ?_ | refine WC.region ?_))
        refine WL.callV (g := 19) (v := .int .i64 1) Tryz.call19 rfl (fun w0 st => drestart_bad _ w0 .none) rfl ?_
        (repeat (first | refine WL.step (Yl.move rfl) rfl ?_))
        refine WL.callV (g := 20) (v := .int .i64 1) Tryz.call20 rfl (fun w0 st => erestart_no w0) rfl ?_
        (repeat (first | refine WL.step (Yl.assign rfl) rfl ?_ | refine WL.step (Yl.eqlT rfl rfl rfl) rfl ?_ | refine WL.nil ?_ | refine WN.block_normal ?_))
        exact WN.join () trivial (by repeat (first | exact Sub.nil | refine Sub.cons rfl rfl ?_)) .nil
      by_cases h5 : x.act = 5
      · refine WC.cond_false rfl (decide_eq_false h0) ?_
        (repeat (first | refine WL.step (Yl.assign rfl) rfl ?_ | refine WL.step (Yl.eql rfl rfl) rfl ?_ | refine WC.seq ?_ | refine WC.region ?_ | refine WL.nil ?_ | refine WN.then_normal ?_))
        refine WC.cond_false rfl (decide_eq_false h1) ?_
        (repeat (first | refine WL.step (Yl.assign rfl) rfl ?_ | refine WL.step (Yl.eql rfl rfl) rfl ?_ | refine WC.seq ?_ | refine WC.region ?_ | refine WL.nil ?_ | refine WN.then_normal ?_))
        refine WC.cond_false rfl (decide_eq_false h2) ?_
        (repeat (first | refine WL.step (Yl.assign rfl) rfl ?_ | refine WL.step (Yl.eql rfl rfl) rfl ?_ | refine WC.seq ?_ | refine WC.region ?_ | refine WL.nil ?_ | refine WN.then_normal ?_))
        refine WC.cond_false rfl (decide_eq_false h3) ?_
        (repeat (first | refine WL.step (Yl.assign rfl) rfl ?_ | refine WL.step (Yl.eql rfl rfl) rfl ?_ | refine WC.seq ?_ | refine WC.region ?_ | refine WL.nil ?_ | refine WN.then_normal ?_))
        refine WC.cond_false rfl (decide_eq_false h4) ?_
        (repeat (first | refine WL.step (Yl.assign rfl) rfl ?_ | refine WL.step (Yl.eql rfl rfl) rfl ?_ | refine WC.seq ?_ | refine WC.region ?_ | refine WL.nil ?_ | refine WN.then_normal ?_))
        refine WC.cond_true rfl (decide_eq_true h5) ?_
        (repeat (first | refine WL.step (Yl.move rfl) rfl ?_ | refine WL.step (Yl.assign rfl) rfl ?_ | refine WC.seq ?_ | refine WC.region ?_ | refine WL.nil ?_ | refine WN.then_normal ?_))
        refine WL.callV (g := 21) (v := .pointer none) Tryz.call21 rfl (fun w0 st => dcopy_bad _ w0 .none) rfl ?_
        (repeat (first | refine WL.step (Yl.move rfl) rfl ?_))
        refine WL.callV (g := 22) (v := .pointer none) Tryz.call22 rfl (fun w0 st => ecopy_no w0) rfl ?_
        (repeat (first | refine WL.step (Yl.assign rfl) rfl ?_ | refine WL.nil ?_ | refine WN.block_normal ?_))
        exact WN.join () trivial (by repeat (first | exact Sub.nil | refine Sub.cons rfl rfl ?_)) .nil
      refine WC.cond_false rfl (decide_eq_false h0) ?_
      (repeat (first | refine WL.step (Yl.assign rfl) rfl ?_ | refine WL.step (Yl.eql rfl rfl) rfl ?_ | refine WC.seq ?_ | refine WC.region ?_ | refine WL.nil ?_ | refine WN.then_normal ?_))
      refine WC.cond_false rfl (decide_eq_false h1) ?_
      (repeat (first | refine WL.step (Yl.assign rfl) rfl ?_ | refine WL.step (Yl.eql rfl rfl) rfl ?_ | refine WC.seq ?_ | refine WC.region ?_ | refine WL.nil ?_ | refine WN.then_normal ?_))
      refine WC.cond_false rfl (decide_eq_false h2) ?_
      (repeat (first | refine WL.step (Yl.assign rfl) rfl ?_ | refine WL.step (Yl.eql rfl rfl) rfl ?_ | refine WC.seq ?_ | refine WC.region ?_ | refine WL.nil ?_ | refine WN.then_normal ?_))
      refine WC.cond_false rfl (decide_eq_false h3) ?_
      (repeat (first | refine WL.step (Yl.assign rfl) rfl ?_ | refine WL.step (Yl.eql rfl rfl) rfl ?_ | refine WC.seq ?_ | refine WC.region ?_ | refine WL.nil ?_ | refine WN.then_normal ?_))
      refine WC.cond_false rfl (decide_eq_false h4) ?_
      (repeat (first | refine WL.step (Yl.assign rfl) rfl ?_ | refine WL.step (Yl.eql rfl rfl) rfl ?_ | refine WC.seq ?_ | refine WC.region ?_ | refine WL.nil ?_ | refine WN.then_normal ?_))
      refine WC.cond_false rfl (decide_eq_false h5) ?_
      (repeat (first | refine WC.skip ?_ | refine WN.block_normal ?_))
      exact WN.join () trivial (by repeat (first | exact Sub.nil | refine Sub.cons rfl rfl ?_)) .nil
    · rintro _ _
      (repeat (first | refine WL.want rfl rfl rfl ?_ | refine WL.step (Yl.move rfl) rfl ?_ | refine WL.step (Yl.not rfl) rfl ?_ | refine WC.seq ?_ | refine WC.region ?_))
      refine WL.callV (g := 23) (v := .bool true) Tryz.call23 rfl (fun w0 st => shows_no w0) rfl ?_
      (repeat (first | (refine WL.kG ?_; first | refine WL.want rfl rfl rfl ?_ | refine WL.pass rfl rfl rfl rfl ?_) | refine WL.step (Yl.move rfl) rfl ?_ | refine WL.step (Yl.pick_f rfl rfl rfl) rfl ?_ | (refine WL.k_bin .neq ?_; refine WL.step (Yl.neqPN (p := none) (by kernel_rfl) rfl) rfl ?_) | refine WL.step (Yl.not rfl) rfl ?_ | refine WL.nil ?_ | refine WN.then_normal ?_))
      refine WC.cond_false rfl rfl ?_
      (repeat (first | refine WL.step (Yl.move rfl) rfl ?_ | (refine WL.k_bin .add ?_; refine WL.step (Yl.add64C rfl (by omega)) rfl ?_) | refine WC.region ?_ | refine WL.nil ?_ | refine WN.then_normal ?_ | refine WC.skip ?_ | refine WN.block_normal ?_))
      exact WN.next (i + 1) (by omega) (by omega) (by repeat (first | exact Sub.nil | refine Sub.cons rfl rfl ?_)) .nil
  · (repeat (first | refine WL.step (Yl.move rfl) rfl ?_ | refine WC.seq ?_ | refine WC.region ?_ | refine WN.then_normal ?_ | refine WC.exit ?_ | refine WN.then_exit ?_ | refine WN.block_here ?_))
    refine WL.callV (g := 23) (v := .bool true) Tryz.call23 rfl (fun w0 st => shows_no w0) rfl ?_
    (repeat (first | refine WL.want rfl rfl rfl ?_ | refine WL.step (Yl.move rfl) rfl ?_ | refine WL.step (Yl.assign rfl) rfl ?_ | refine WL.step (Yl.pick_t rfl rfl rfl) rfl ?_ | (refine WL.k_call 4 ?_; refine WL.callV (g := 4) Tryz.call4 rfl (fun w s => works33_c w) rfl ?_) | refine WL.nil ?_ | refine WN.then_normal ?_ | refine WC.ret ?_))
    exact WN.ret1 rfl rfl ⟨rfl, rfl⟩ .nil
end Go.Proofs.YtmmpngigaodcgaaGreat
