import Derived.Test.YtmmpngigaodcgaaGreatRowDrivePlaysMg23
import Derived.Test.YtmmpngigaodcgaaGreatRowDrivePlaysMg24
import Derived.Test.YtmmpngigaodcgaaGreatRowDrivePlaysMg22
/- DrivePlays, up to twelve sectors. -/
namespace Go.Proofs.YtmmpngigaodcgaaGreat
set_option linter.unusedVariables false
set_option linter.unusedSimpArgs false
open Go Go.RowKit
set_option maxRecDepth 100000
set_option maxHeartbeats 8000000
theorem permN (D R Z : List HA) : ((R ++ Z) ++ (D ++ [])).Perm (D ++ (R ++ ([] ++ Z))) := by
  classical
  rw [List.perm_iff_count]; intro u; simp only [List.count_append, List.count_cons, List.count_nil]; omega
theorem permRd (x y z g : HA) (D R : List HA) : ((g :: D) ++ ([x, y, z] ++ R)).Perm (z :: (g :: (D ++ ([x, y] ++ R)))) := by
  classical
  rw [List.perm_iff_count]; intro u; simp only [List.count_append, List.count_cons, List.count_nil]; omega
theorem permRd2 (x y z g : HA) (D R : List HA) : (z :: (g :: (D ++ ([x, y] ++ R)))).Perm ((g :: D) ++ ([x, y, z] ++ R)) := by
  classical
  rw [List.perm_iff_count]; intro u; simp only [List.count_append, List.count_cons, List.count_nil]; omega
attribute [local irreducible] WL WC WN Yl WH WQ WT WE WU WG WV
theorem lpl33_yes (n : Nat) (a : Option Addr) (m cap : Nat) (S : List DStep) (w : World) (hl : S.length = m) (hm : m ≤ 9223372036854775807) (hr : CellsAt w a (S.flatMap DStep.cs)) (hok : ∀ s ∈ S, s.Ok w) (hf : m ≤ 60) (h1 : 1 ≤ n) (h2 : n ≤ 12) : Calls Tryz.prog 3 #[.int .i64 (n : Int), .slice a m cap] w (Gives (Val (.bool true)) w) := by
  refine enter (args := [_, _]) Tryz.func3 Tryz.ntmps3 rfl rfl ?_
  (repeat (first | (refine WL.kG ?_; first | refine WL.want rfl rfl rfl ?_ | refine WL.pass rfl rfl rfl rfl ?_) | refine WL.step (Yl.move rfl) rfl ?_ | refine WL.step (Yl.assign rfl) rfl ?_ | refine WL.step (Yl.pick_f rfl rfl rfl) rfl ?_ | refine WL.step (Yl.len (t := 22) Tryz.underlying22 rfl) rfl ?_ | (refine WL.k_bin .gtr ?_; refine WL.step (Yl.gtrF rfl rfl (by omega)) rfl ?_) | refine WC.seq ?_ | refine WC.region ?_ | refine WL.nil ?_ | refine WN.then_normal ?_))
  refine WC.cond_false rfl rfl ?_
  (repeat (first | refine WL.step (Yl.move rfl) rfl ?_ | refine WC.seq ?_ | refine WC.region ?_ | refine WN.then_normal ?_ | refine WC.skip ?_))
  refine WL.call (g := 5) Tryz.call5 rfl (fun w0 st => dnew_c n w0 h1 (by omega)) rfl fun v1 B1 hv1 => ?_
  obtain ⟨p, s, hs, hsv, rfl, rfl⟩ := hv1
  (repeat (first | refine WL.step (Yl.move rfl) rfl ?_ | refine WL.step (Yl.assign rfl) rfl ?_ | refine WL.step (Yl.extract rfl rfl) rfl ?_ | refine WC.seq ?_ | refine WC.region ?_ | refine WL.nil ?_ | refine WN.then_normal ?_))
  refine WL.call (g := 6) Tryz.call6 rfl (fun w0 st => enew_c n w0 h1 (by omega)) rfl fun v1 B1 hv1 => ?_
  obtain ⟨q, t, Z, ht, htv, rfl, rfl, hz⟩ := hv1
  (repeat (first | refine WL.want rfl rfl rfl ?_ | refine WL.step (Yl.move rfl) rfl ?_ | refine WL.step (Yl.assign rfl) rfl ?_ | refine WL.step (Yl.extract rfl rfl) rfl ?_ | refine WL.step (Yl.pick_f rfl rfl rfl) rfl ?_ | (refine WL.k_bin .neq ?_; first | refine WL.step (Yl.neqF rfl rfl rfl) rfl ?_ | refine WL.step (Yl.neqB (t := 4) Tryz.underlying4 rfl rfl) rfl ?_) | (refine WL.k_bin .eql ?_; refine WL.step (Yl.eqlPN (by kernel_rfl) rfl) rfl ?_) | refine WC.seq ?_ | refine WC.region ?_ | refine WL.nil ?_ | refine WN.then_normal ?_))
  refine WC.cond_false rfl rfl ?_
  (repeat (first | refine WL.step (Yl.move rfl) rfl ?_ | refine WL.step (Yl.assign rfl) rfl ?_ | refine WL.step (Yl.len (t := 22) Tryz.underlying22 rfl) rfl ?_ | refine WC.seq ?_ | refine WC.region ?_ | refine WL.nil ?_ | refine WN.then_normal ?_ | refine WC.block ?_ | refine WC.skip ?_))
  have h0 : (⟨⟨p, s, q, t⟩, none, Z⟩ : P4).Ok 0 := ⟨⟨hs, ht, htv.trans hsv.symm, hz⟩, fun y hy => (by cases hy), by simp only; rw [show s.ops = 0 from congrArg DV.ops hsv]; exact Nat.le_refl _, by simp only; rw [show s.rd = 0 from congrArg DV.rd hsv]; exact Nat.le_refl _⟩
  refine WC.loop (α := P4 × Nat) (fun g => [(1, .slice a m cap), (5, bptr g.1.c.p.bd), (7, bptr g.1.c.q.bd), (9, oD g.1.old), (10, oR g.1.old), (51, .slice a m cap), (52, .int .i64 (m : Int)), (53, .int .i64 (g.2 : Int))])
    (fun g => drI g.1.c.p g.1.c.s ++ (rdI g.1.c.q g.1.c.t ++ (oI g.1.old ++ g.1.Z))) (fun g => g.2 ≤ m ∧ g.1.Ok g.2) (fun g => m - g.2) (⟨⟨p, s, q, t⟩, none, Z⟩, 0) (by repeat (first | exact Sub.nil | refine Sub.cons rfl rfl ?_)) (Part.perm (permN _ _ _)) ⟨Nat.zero_le _, h0⟩ ?_
  clear h0 hz htv hsv ht hs
  rintro ⟨j, i⟩ ⟨hi, hj⟩
  simp only at hi hj ⊢
  (repeat (first | refine WL.step (Yl.lss rfl rfl) rfl ?_ | refine WC.seq ?_ | refine WC.region ?_ | refine WL.nil ?_ | refine WN.then_normal ?_))
  refine WC.ite rfl (fun g1 => ?_) (fun g1 => ?_)
  · have hid : i < m := by omega
    obtain ⟨x, hx⟩ : ∃ t, S[i]? = some t := ⟨_, List.getElem?_eq_getElem (by omega)⟩
    have hxo := hok x (List.mem_of_getElem? hx)
    have hxr := hxo.hr.out
    have hxl := hxo.hl
    (repeat (first | (refine WL.k_load ?_; refine WL.step (Yl.loadEl x.cs Tryz.isAgg35 Tryz.sizeOf35 rfl (Rd.old hr) x.len (by simp [DStep.cs]) (dstep_at hx)) rfl ?_) | refine WL.step (Yl.indexAddr (t := 22) (j := i) Tryz.underlying22 Tryz.sizeOf35 rfl rfl (Rd.old hr) (dstep_ne hx) hid) rfl ?_ | refine WC.seq ?_ | refine WC.region ?_ | refine WN.then_normal ?_ | refine WC.block ?_ | refine WC.skip ?_))
    refine WL.allocA Tryz.zeroValue35 rfl fun b1 => ?_
    refine WL.storeWhole (T := 35) (k := 6) Tryz.sizeOf35 rfl rfl rfl .here rfl rfl ?_
    by_cases hbig : 70 < x.m
    · (repeat (first | (refine WL.k_load ?_; refine WL.step (Yl.loadBlk (T := 31) Tryz.isAgg31 rfl (by repeat (first | exact .head _ | refine .tail _ ?_)) (by rfl)) rfl ?_) | (refine WL.k_fld ?_; first | refine WL.step (Yl.fldN0 (i := 4) (o := 4) (by kernel_rfl) rfl) rfl ?_ | refine WL.step (Yl.fldN (i := 1) (o := 1) (off := 4) (by kernel_rfl) rfl) rfl ?_) | refine WL.step (Yl.len (t := 31) Tryz.underlying31 rfl) rfl ?_ | (refine WL.k_bin .gtr ?_; refine WL.step (Yl.gtrT rfl rfl (by omega)) rfl ?_) | refine WC.seq ?_ | refine WC.region ?_ | refine WL.nil ?_ | refine WN.then_normal ?_))
      refine WC.cond_true rfl rfl ?_
      (repeat (first | refine WL.step (Yl.assign rfl) rfl ?_ | (refine WL.k_call 4 ?_; refine WL.callV (g := 4) Tryz.call4 rfl (fun w s => works33_c w) rfl ?_) | refine WC.seq ?_ | refine WC.region ?_ | refine WL.nil ?_ | refine WN.then_normal ?_ | refine WC.ret ?_ | refine WN.then_ret ?_ | refine WN.block_ret ?_))
      exact WN.ret1 rfl rfl ⟨rfl, rfl⟩ .nil
    (repeat (first | (refine WL.k_load ?_; refine WL.step (Yl.loadBlk (T := 31) Tryz.isAgg31 rfl (by repeat (first | exact .head _ | refine .tail _ ?_)) (by rfl)) rfl ?_) | (refine WL.k_fld ?_; first | refine WL.step (Yl.fldN0 (i := 4) (o := 4) (by kernel_rfl) rfl) rfl ?_ | refine WL.step (Yl.fldN (i := 1) (o := 1) (off := 4) (by kernel_rfl) rfl) rfl ?_) | refine WL.step (Yl.len (t := 31) Tryz.underlying31 rfl) rfl ?_ | (refine WL.k_bin .gtr ?_; refine WL.step (Yl.gtrF rfl rfl (by omega)) rfl ?_) | refine WC.seq ?_ | refine WC.region ?_ | refine WL.nil ?_ | refine WN.then_normal ?_))
    refine WC.cond_false rfl rfl ?_
    (repeat (first | refine WC.seq ?_ | refine WN.then_normal ?_ | refine WC.skip ?_))
    refine WC.join (α := Nat × (Option Addr × Nat)) (fun g => [(1, .slice a m cap), (5, bptr j.c.p.bd), (7, bptr j.c.q.bd), (9, oD j.old), (10, oR j.old), (12, .pointer (some ⟨b1, 0, none⟩)), (13, .pointer (some ⟨g.1, 0, none⟩)), (51, .slice a m cap), (52, .int .i64 (m : Int)), (53, .int .i64 (i : Int))])
      (fun g => .blk g.1 (.cells #[.int .i64 x.at_, .slice g.2.1 x.m g.2.2] 33 (0, 0)) :: .row g.2.1 g.2.2 3 1 (zcells x.K) :: .blk b1 (.cells x.cs.toArray 35 (0, 0)) :: (drI j.c.p j.c.s ++ (rdI j.c.q j.c.t ++ (oI j.old ++ j.Z)))) (fun g => x.m ≤ g.2.2) ?_ ?_
    · refine WC.regionH [.blk b1 (.cells x.cs.toArray 35 (0, 0))] (by kernel_rfl) ?_
      (refine WH.order [0, 1, 2, 3, 4, 5] (by repeat (first | exact Part.nil | refine Part.cons (by repeat (first | exact Pick.here | apply Pick.there)) ?_ | refine Part.free ?_)) (by kernel_rfl) ?_; (repeat (first | (refine WT.k_load rfl ?_; (refine WT.kn rfl ?_; first | refine WT.take rfl rfl (fun _ _ _ h => h) (Yl.loadBlk (T := 3) Tryz.isAgg3 rfl (by repeat (first | exact .head _ | refine .tail _ ?_)) (by rfl)) rfl (by kernel_rfl) (by kernel_rfl) ?_ | refine WT.take rfl rfl (fun _ _ _ h => h) (Yl.loadBlk (T := 31) Tryz.isAgg31 rfl (by repeat (first | exact .head _ | refine .tail _ ?_)) (by rfl)) rfl (by kernel_rfl) (by kernel_rfl) ?_)) | (refine WT.k_fld rfl ?_; (refine WT.kn rfl ?_; first | refine WT.take rfl rfl (fun _ _ _ h => h) (Yl.fldN0 (i := 4) (o := 4) (by kernel_rfl) rfl) rfl (by kernel_rfl) (by kernel_rfl) ?_ | refine WT.take rfl rfl (fun _ _ _ h => h) (Yl.fldN (i := 0) (o := 0) (off := 4) (by kernel_rfl) rfl) rfl (by kernel_rfl) (by kernel_rfl) ?_ | refine WT.take rfl rfl (fun _ _ _ h => h) (Yl.fldN (i := 1) (o := 1) (off := 4) (by kernel_rfl) rfl) rfl (by kernel_rfl) (by kernel_rfl) ?_)))); refine WT.nil ?_)
      refine WH.two (i := 6) (j := 8) (by kernel_rfl) rfl rfl ?_ ?_
      · refine WL.callR (g := 7) Tryz.call7 rfl (fun w0 st => icl_c x.a x.m x.c x.K w0 hxl (by omega) (hxo.hr.keep st.kept)) rfl fun qr hqr => ?_
        simp only [id]
        refine WL.nil (WN.nextH (.cons (.there .here) .nil) ?_)
        (refine WH.order [7] (by repeat (first | exact Part.nil | refine Part.cons (by repeat (first | exact Pick.here | apply Pick.there)) ?_ | refine Part.free ?_)) (by kernel_rfl) ?_; (repeat (first | (refine WT.k_build rfl ?_; (refine WT.kn rfl ?_; refine WT.take rfl rfl (fun _ _ _ h => h) (Yl.build (ps := [(0, .tmp 65), (1, .tmp 69)]) (vs := [(0, .int .i64 x.at_), (1, .slice qr.1 x.m qr.2)]) rfl (buildPl _ _ _ _)) rfl (by kernel_rfl) (by kernel_rfl) ?_)))); refine WT.nil ?_)
        refine WH.only (i := 8) (by kernel_rfl) rfl ?_
        refine WL.allocA Tryz.zeroValue33 rfl fun b13 => ?_
        refine WL.nil (WN.nextH (.cons (.there (.there .here)) .nil) ?_)
        refine WH.only (i := 9) (by kernel_rfl) rfl ?_
        refine WL.storeWhole (T := 33) (k := 2) Tryz.sizeOf33 rfl rfl rfl .here rfl rfl ?_
        refine WL.nil (WN.nextH (.cons (.there (.there .here)) .nil) (WH.done (by kernel_rfl) ?_))
        exact WN.join (b13, qr) hqr (by repeat (first | exact Sub.nil | refine Sub.cons rfl rfl ?_)) (Part.refl _)
      · refine WL.allocA Tryz.zeroValue33 rfl fun b13 => ?_
        refine WL.nil (WN.nextH (.cons (.there .here) .nil) ?_)
        refine WH.only (i := 6) (by kernel_rfl) rfl ?_
        refine WL.callR (g := 7) Tryz.call7 rfl (fun w0 st => icl_c x.a x.m x.c x.K w0 hxl (by omega) (hxo.hr.keep st.kept)) rfl fun qr hqr => ?_
        simp only [id]
        refine WL.nil (WN.nextH (.cons (.there (.there .here)) .nil) ?_)
        (refine WH.order [7] (by repeat (first | exact Part.nil | refine Part.cons (by repeat (first | exact Pick.here | apply Pick.there)) ?_ | refine Part.free ?_)) (by kernel_rfl) ?_; (repeat (first | (refine WT.k_build rfl ?_; (refine WT.kn rfl ?_; refine WT.take rfl rfl (fun _ _ _ h => h) (Yl.build (ps := [(0, .tmp 65), (1, .tmp 69)]) (vs := [(0, .int .i64 x.at_), (1, .slice qr.1 x.m qr.2)]) rfl (buildPl _ _ _ _)) rfl (by kernel_rfl) (by kernel_rfl) ?_)))); refine WT.nil ?_)
        refine WH.only (i := 9) (by kernel_rfl) rfl ?_
        refine WL.storeWhole (T := 33) (k := 2) Tryz.sizeOf33 rfl rfl rfl (.there .here) rfl rfl ?_
        refine WL.nil (WN.nextH (.cons (.there (.there .here)) .nil) (WH.done (by kernel_rfl) ?_))
        exact WN.join (b13, qr) hqr (by repeat (first | exact Sub.nil | refine Sub.cons rfl rfl ?_)) (.cons .here (.cons .here (Part.refl _)))
    rintro ⟨b13, qr⟩ hqr
    simp only at hqr ⊢
    (repeat (first | refine WL.step (Yl.assign rfl) rfl ?_ | (refine WL.k_load ?_; refine WL.step (Yl.loadBlk (T := 3) Tryz.isAgg3 rfl (by repeat (first | exact .head _ | refine .tail _ ?_)) (by rfl)) rfl ?_) | (refine WL.k_fld ?_; refine WL.step (Yl.fldN0 (i := 0) (o := 0) (by kernel_rfl) rfl) rfl ?_) | refine WL.step (Yl.eql rfl rfl) rfl ?_ | refine WC.seq ?_ | refine WC.region ?_ | refine WL.nil ?_ | refine WN.then_normal ?_ | refine WC.block ?_))
    refine WC.joinB (α := P4) (fun y => [(1, .slice a m cap), (5, bptr y.c.p.bd), (7, bptr y.c.q.bd), (9, oD y.old), (10, oR y.old), (14, .bool true), (51, .slice a m cap), (52, .int .i64 (m : Int)), (53, .int .i64 (i : Int))])
      (fun y => drI y.c.p y.c.s ++ (rdI y.c.q y.c.t ++ (oI y.old ++ y.Z))) (fun y => y.Ok (i + 1)) ?_ ?_
    · obtain ⟨c, old, Z⟩ := j
      have hT : ∀ y ∈ Z, y ∈ oI old ++ Z := fun y hy => List.mem_append_right _ hy
      simp only at hj ⊢
      have hops : c.s.v.ops < 4611686018427387904 := by have := hj.ops; show c.s.ops < _; simp only at this; omega
      have hrd : c.s.v.rd < 4611686018427387904 := by have := hj.rd; show c.s.rd < _; simp only at this; omega
      have hopt : c.t.ops < 4611686018427387904 := by have : c.t.ops = c.s.ops := congrArg DV.ops hj.c.v; rw [this]; exact hops
      have hrdt : c.t.rd < 4611686018427387904 := by have : c.t.rd = c.s.rd := congrArg DV.rd hj.c.v; rw [this]; exact hrd
      skip
      by_cases h0 : x.act = 0
      · refine WC.cond_true rfl (decide_eq_true h0) ?_
        skip
        refine WC.regionH [.blk b1 (.cells x.cs.toArray 35 (0, 0))] (by kernel_rfl) ?_
        (refine WH.order [0, 1, 2, 3, 6, 7, 8, 9] (by repeat (first | exact Part.nil | refine Part.cons (by repeat (first | exact Pick.here | apply Pick.there)) ?_ | refine Part.free ?_)) (by kernel_rfl) ?_; (repeat (first | (refine WT.k_move rfl ?_; (refine WT.kn rfl ?_; refine WT.take rfl rfl (fun _ _ _ h => h) (Yl.move rfl) rfl (by kernel_rfl) (by kernel_rfl) ?_)) | (refine WT.k_load rfl ?_; (refine WT.kn rfl ?_; first | refine WT.take rfl rfl (fun _ _ _ h => h) (Yl.loadAll (T := 35) (T' := 35) Tryz.isAgg35 Tryz.sizeOf35 rfl (.head _) rfl) rfl (by kernel_rfl) (by kernel_rfl) ?_ | refine WT.take rfl rfl (fun _ _ _ h => h) (Yl.loadBlk (T := 3) Tryz.isAgg3 rfl (by repeat (first | exact .head _ | refine .tail _ ?_)) (by rfl)) rfl (by kernel_rfl) (by kernel_rfl) ?_)) | (refine WT.k_fld rfl ?_; (refine WT.kn rfl ?_; refine WT.take rfl rfl (fun _ _ _ h => h) (Yl.fldN0 (i := 1) (o := 1) (by kernel_rfl) rfl) rfl (by kernel_rfl) (by kernel_rfl) ?_)))); refine WT.nil ?_)
        refine WH.only (i := 4) (by kernel_rfl) rfl ?_
        refine WL.callR (g := 9) Tryz.call9 rfl (fun w0 st => sdata_c x w0) rfl fun q1 hq1 => ?_
        simp only [id]
        refine WL.nil (WN.nextH (.cons (.there (.there (.there .here))) .nil) ?_)
        refine WH.only (i := 5) (by kernel_rfl) rfl ?_
        refine WL.callS (g := 8) (A0 := (drI c.p c.s)) (B := [_, _, _, _] ++ ((rdI c.q c.t) ++ (oI old ++ Z))) Tryz.call8 rfl (perm3 [_, _, _, _] (drI c.p c.s) ((rdI c.q c.t) ++ (oI old ++ Z))) (fun w0 st sr => dwrite_r x.sec q1.1 x.dat.length q1.2 x.dat c.s w0 hj.c.s hops rfl (row_out st (perm3 [_, _, _, _] (drI c.p c.s) ((rdI c.q c.t) ++ (oI old ++ Z))) (.head _)) sr) rfl fun v C hv => ?_
        obtain ⟨rfl, s1, hs1, hs1v, rfl⟩ := hv
        refine WL.nil (WN.nextH (.cons (Pick.app _ (.there (.there (.there .here)))) .nil) ?_)
        refine WH.only (i := 10) (by kernel_rfl) rfl ?_
        refine WL.callR (g := 9) Tryz.call9 rfl (fun w0 st => sdata_c x w0) rfl fun q2 hq2 => ?_
        simp only [id]
        refine WL.nil (WN.nextH (.cons (.there (Pick.app _ (.there (.there (.there .here))))) .nil) ?_)
        refine WH.only (i := 11) (by kernel_rfl) rfl ?_
        refine WL.callS (g := 10) (A0 := (rdI c.q c.t)) (B := (_ :: drI c.p s1) ++ ([_, _, _, _] ++ (oI old ++ Z))) Tryz.call10 rfl (permP (_ :: drI c.p s1) [_, _, _, _] (rdI c.q c.t) (oI old ++ Z)) (fun w0 st sr => ewrite_r x.sec q2.1 x.dat.length q2.2 x.dat c.t w0 hj.c.t (hj.c.outs st (permP (_ :: drI c.p s1) [_, _, _, _] (rdI c.q c.t) (oI old ++ Z)) (fun y hy => List.mem_append_right _ (List.mem_append_right _ (hT y hy)))) hopt rfl (row_out st (permP (_ :: drI c.p s1) [_, _, _, _] (rdI c.q c.t) (oI old ++ Z)) (.head _)) sr) rfl fun v C hv => ?_
        obtain ⟨rfl, t1, Z1, ht1, ht1v, rfl, hz1⟩ := hv
        rw [hj.c.v] at ht1v ⊢
        refine WL.part (B := .row q2.1 q2.2 5 1 (bs x.dat) :: .row q1.1 q1.2 5 1 (bs x.dat) :: .blk b13 (.cells #[.int .i64 x.at_, .slice qr.1 x.m qr.2] 33 (0, 0)) :: .row qr.1 qr.2 3 1 (zcells x.K) :: .blk b1 (.cells x.cs.toArray 35 (0, 0)) :: (drI c.p s1 ++ (rdI c.q t1 ++ (oI old ++ (Z1 ++ Z))))) (Part.perm (permF2b _ [_, _, _, _] _ _ _ _ _)) ?_
        refine WL.nil (WN.nextH (.cons (.there (.there (.there (.there .here)))) .nil) ?_)
        (refine WH.order [12, 13] (by repeat (first | exact Part.nil | refine Part.cons (by repeat (first | exact Pick.here | apply Pick.there)) ?_ | refine Part.free ?_)) (by kernel_rfl) ?_; (repeat (first | (refine WT.k_assign rfl ?_; (refine WT.kn rfl ?_; refine WT.take rfl rfl (fun _ _ _ h => h) (Yl.assign rfl) rfl (by kernel_rfl) (by kernel_rfl) ?_)) | (refine WT.k_bin .eql rfl ?_; (refine WT.kn rfl ?_; refine WT.take rfl rfl (fun _ _ _ h => h) (Yl.eqlT rfl rfl rfl) rfl (by kernel_rfl) (by kernel_rfl) ?_)))); refine WT.nil ?_)
        refine WH.done (by kernel_rfl) ?_
        have hb := write_b c.s.v x.sec x.dat
        rw [← hs1v] at hb
        have hn := hj.next hs1 ht1 (ht1v.trans hs1v.symm) hz1 (Nat.le_trans hb.1 (Nat.succ_le_succ hj.ops)) (by rw [show s1.rd = c.s.rd from hb.2]; exact Nat.le_succ_of_le hj.rd)
        (repeat (first | refine WN.block_normal ?_))
        exact WN.join _ hn (by repeat (first | exact Sub.nil | refine Sub.cons rfl rfl ?_)) (.more (.more (.more (.more (.more (Part.refl _))))))
      by_cases h1 : x.act = 1
      · refine WC.cond_false rfl (decide_eq_false h0) ?_
        (repeat (first | refine WL.step (Yl.assign rfl) rfl ?_ | refine WL.step (Yl.eql rfl rfl) rfl ?_ | refine WC.seq ?_ | refine WC.region ?_ | refine WL.nil ?_ | refine WN.then_normal ?_))
        refine WC.cond_true rfl (decide_eq_true h1) ?_
        (repeat (first | refine WL.step (Yl.move rfl) rfl ?_ | refine WC.region ?_))
        refine WL.callS (g := 11) (A0 := (drI c.p c.s)) (B := [_, _, _] ++ ((rdI c.q c.t) ++ (oI old ++ Z))) Tryz.call11 rfl (perm3 [_, _, _] (drI c.p c.s) ((rdI c.q c.t) ++ (oI old ++ Z))) (fun w0 st sr => dsync_r c.s w0 hj.c.s hops sr) rfl fun v C hv => ?_
        obtain ⟨rfl, s1, hs1, hs1v, rfl⟩ := hv
        (repeat (first | refine WL.step (Yl.move rfl) rfl ?_))
        refine WL.callS (g := 12) (A0 := (rdI c.q c.t)) (B := (drI c.p s1) ++ ([_, _, _] ++ (oI old ++ Z))) Tryz.call12 rfl (permP (drI c.p s1) [_, _, _] (rdI c.q c.t) (oI old ++ Z)) (fun w0 st sr => esync_r c.t w0 hj.c.t (hj.c.outs st (permP (drI c.p s1) [_, _, _] (rdI c.q c.t) (oI old ++ Z)) (fun y hy => List.mem_append_right _ (List.mem_append_right _ (hT y hy)))) hopt sr) rfl fun v C hv => ?_
        obtain ⟨rfl, t1, Z1, ht1, ht1v, rfl, hz1⟩ := hv
        rw [hj.c.v] at ht1v ⊢
        (repeat (first | refine WL.step (Yl.assign rfl) rfl ?_ | refine WL.step (Yl.eqlT rfl rfl rfl) rfl ?_ | refine WL.nil ?_ | refine WN.block_normal ?_))
        have hb := sync_b c.s.v
        rw [← hs1v] at hb
        have hn := hj.next hs1 ht1 (ht1v.trans hs1v.symm) hz1 (Nat.le_trans hb.1 (Nat.succ_le_succ hj.ops)) (by rw [show s1.rd = c.s.rd from hb.2]; exact Nat.le_succ_of_le hj.rd)
        exact WN.part (Part.perm (permF1 [_, _, _] _ _ _ _ _)) (WN.join _ hn (by repeat (first | exact Sub.nil | refine Sub.cons rfl rfl ?_)) (Part.pre _))
      by_cases h2 : x.act = 2
      · refine WC.cond_false rfl (decide_eq_false h0) ?_
        (repeat (first | refine WL.step (Yl.assign rfl) rfl ?_ | refine WL.step (Yl.eql rfl rfl) rfl ?_ | refine WC.seq ?_ | refine WC.region ?_ | refine WL.nil ?_ | refine WN.then_normal ?_))
        refine WC.cond_false rfl (decide_eq_false h1) ?_
        (repeat (first | refine WL.step (Yl.assign rfl) rfl ?_ | refine WL.step (Yl.eql rfl rfl) rfl ?_ | refine WC.seq ?_ | refine WC.region ?_ | refine WL.nil ?_ | refine WN.then_normal ?_))
        refine WC.cond_true rfl (decide_eq_true h2) ?_
        (repeat (first | refine WL.step (Yl.move rfl) rfl ?_ | (refine WL.k_load ?_; refine WL.step (Yl.loadBlk (T := 3) Tryz.isAgg3 rfl (by repeat (first | exact .head _ | refine .tail _ ?_)) (by rfl)) rfl ?_) | (refine WL.k_fld ?_; refine WL.step (Yl.fldN0 (i := 1) (o := 1) (by kernel_rfl) rfl) rfl ?_) | refine WC.seq ?_ | refine WC.region ?_))
        refine WL.callS (g := 13) (A0 := (drI c.p c.s)) (B := [_, _, _] ++ ((rdI c.q c.t) ++ (oI old ++ Z))) Tryz.call13 rfl (perm3 [_, _, _] (drI c.p c.s) ((rdI c.q c.t) ++ (oI old ++ Z))) (fun w0 st sr => dread_r x.sec c.s w0 hj.c.s hrd sr) rfl fun v C hv => ?_
        obtain ⟨ra, rc, hrc, rfl, s1, hs1, hs1v, rfl⟩ := hv
        refine WL.part (B := .blk b1 (.cells x.cs.toArray 35 (0, 0)) :: (.row ra rc 83 1 (bs (c.s.v.read x.sec).2.1) :: (drI c.p s1 ++ ([_, _] ++ (rdI c.q c.t ++ (oI old ++ Z)))))) (Part.perm (permRd _ _ _ _ _ _)) ?_
        (repeat (first | refine WL.step (Yl.move rfl) rfl ?_ | refine WL.step (Yl.assign rfl) rfl ?_ | refine WL.step (Yl.extract rfl rfl) rfl ?_ | (refine WL.k_load ?_; refine WL.step (Yl.loadBlk (T := 3) Tryz.isAgg3 rfl (by repeat (first | exact .head _ | refine .tail _ ?_)) (by rfl)) rfl ?_) | (refine WL.k_fld ?_; refine WL.step (Yl.fldN0 (i := 1) (o := 1) (by kernel_rfl) rfl) rfl ?_) | refine WC.seq ?_ | refine WC.region ?_ | refine WL.nil ?_ | refine WN.then_normal ?_))
        refine WL.part (B := (.row ra rc 83 1 (bs (c.s.v.read x.sec).2.1) :: drI c.p s1) ++ ([_, _, _] ++ (rdI c.q c.t ++ (oI old ++ Z)))) (Part.perm (permRd2 _ _ _ _ _ _)) ?_
        refine WL.callS (g := 14) (A0 := (rdI c.q c.t)) (B := (_ :: drI c.p s1) ++ ([_, _, _] ++ (oI old ++ Z))) Tryz.call14 rfl (permP (_ :: drI c.p s1) [_, _, _] (rdI c.q c.t) (oI old ++ Z)) (fun w0 st sr => eread_r x.sec c.t w0 hj.c.t (hj.c.outs st (permP (_ :: drI c.p s1) [_, _, _] (rdI c.q c.t) (oI old ++ Z)) (fun y hy => List.mem_append_right _ (List.mem_append_right _ (hT y hy)))) hrdt sr) rfl fun v C hv => ?_
        obtain ⟨ra2, rc2, hrc2, rfl, t1, ht1, ht1v, hto, htf, rfl⟩ := hv
        rw [hj.c.v] at ht1v hrc2 ⊢
        (repeat (first | refine WL.step (Yl.move rfl) rfl ?_ | refine WL.step (Yl.assign rfl) rfl ?_ | refine WL.step (Yl.extract rfl rfl) rfl ?_ | refine WC.seq ?_ | refine WC.region ?_ | refine WL.nil ?_ | refine WN.then_normal ?_))
        refine WL.callV (g := 15) (v := .bool true) Tryz.call15 rfl (fun w0 st => bequal_tt ra ra2 _ rc rc2 (c.s.v.read x.sec).2.1 w0 rfl (Rd.row (.tail _ (List.mem_append_right _ (.head _))) w0 st) (Rd.row (.head _) w0 st)) rfl ?_
        (repeat (first | refine WL.want rfl rfl rfl ?_ | refine WL.step (Yl.move rfl) rfl ?_ | refine WL.step (Yl.assign rfl) rfl ?_ | refine WL.step (Yl.pick_t rfl rfl rfl) rfl ?_ | refine WL.step (Yl.eqlT rfl rfl rfl) rfl ?_ | refine WC.region ?_ | refine WL.nil ?_ | refine WN.then_normal ?_))
        refine WL.clearFit (z := .int .u8 0) Tryz.underlying38 Tryz.zeroValue5 rfl rfl (.there (Pick.app _ .here)) (by rw [bs_length]; exact Nat.le_refl _) fun y1 => ?_
        have hb := read_b c.s.v x.sec
        rw [← hs1v] at hb
        have hn := hj.next (Z' := []) hs1 ht1 (ht1v.trans hs1v.symm) (fun y hy => .inl (by rw [← hto, ← htf]; exact hy)) (by rw [show s1.ops = c.s.ops from hb.1]; exact Nat.le_succ_of_le hj.ops) (Nat.le_trans hb.2 (Nat.succ_le_succ hj.rd))
        (repeat (first | refine WL.nil ?_ | refine WN.block_normal ?_))
        exact WN.part (Part.perm (permF3 _ _ [_, _, _] _ _ _ _)) (WN.join _ hn (by repeat (first | exact Sub.nil | refine Sub.cons rfl rfl ?_)) (Part.pre _))
      by_cases h3 : x.act = 3
      · refine WC.cond_false rfl (decide_eq_false h0) ?_
        (repeat (first | refine WL.step (Yl.assign rfl) rfl ?_ | refine WL.step (Yl.eql rfl rfl) rfl ?_ | refine WC.seq ?_ | refine WC.region ?_ | refine WL.nil ?_ | refine WN.then_normal ?_))
        refine WC.cond_false rfl (decide_eq_false h1) ?_
        (repeat (first | refine WL.step (Yl.assign rfl) rfl ?_ | refine WL.step (Yl.eql rfl rfl) rfl ?_ | refine WC.seq ?_ | refine WC.region ?_ | refine WL.nil ?_ | refine WN.then_normal ?_))
        refine WC.cond_false rfl (decide_eq_false h2) ?_
        (repeat (first | refine WL.step (Yl.assign rfl) rfl ?_ | refine WL.step (Yl.eql rfl rfl) rfl ?_ | refine WC.seq ?_ | refine WC.region ?_ | refine WL.nil ?_ | refine WN.then_normal ?_))
        refine WC.cond_true rfl (decide_eq_true h3) ?_
        (repeat (first | refine WC.seq ?_))
        refine WC.regionH [.blk b13 (.cells #[.int .i64 x.at_, .slice qr.1 x.m qr.2] 33 (0, 0)), .blk b1 (.cells x.cs.toArray 35 (0, 0))] (by kernel_rfl) ?_
        (refine WH.order [0, 1, 3, 4, 5] (by repeat (first | exact Part.nil | refine Part.cons (by repeat (first | exact Pick.here | apply Pick.there)) ?_ | refine Part.free ?_)) (by kernel_rfl) ?_; (repeat (first | (refine WT.k_move rfl ?_; (refine WT.kn rfl ?_; refine WT.take rfl rfl (fun _ _ _ h => h) (Yl.move rfl) rfl (by kernel_rfl) (by kernel_rfl) ?_)) | (refine WT.k_load rfl ?_; (refine WT.kn rfl ?_; first | refine WT.take rfl rfl (fun _ _ _ h => h) (Yl.loadAll (T := 33) (T' := 33) Tryz.isAgg33 Tryz.sizeOf33 rfl (.head _) rfl) rfl (by kernel_rfl) (by kernel_rfl) ?_ | refine WT.take rfl rfl (fun _ _ _ h => h) (Yl.loadAgg (T := 33) (us := [.int .i64 x.at_, .slice x.a x.m x.c]) Tryz.isAgg33 Tryz.sizeOf33 rfl (.tail _ (.head _)) rfl (fun i u hu => by match i, hu with | 0, hu => exact hu | 1, hu => exact hu)) rfl (by kernel_rfl) (by kernel_rfl) ?_)) | (refine WT.k_fld rfl ?_; (refine WT.kn rfl ?_; refine WT.take rfl rfl (fun _ _ _ h => h) (Yl.fldN0 (i := 4) (o := 4) (by kernel_rfl) rfl) rfl (by kernel_rfl) (by kernel_rfl) ?_)))); refine WT.nil ?_)
        refine WH.only (i := 2) (by kernel_rfl) rfl ?_
        refine WL.callS (g := 16) (A0 := (drI c.p c.s)) (B := [_, _, _] ++ ((rdI c.q c.t) ++ (oI old ++ Z))) Tryz.call16 rfl (perm3 [_, _, _] (drI c.p c.s) ((rdI c.q c.t) ++ (oI old ++ Z))) (fun w0 st sr => darm_r x.at_ qr.1 x.m qr.2 x.K c.s w0 hj.c.s hxl (by omega) (row_out st (perm3 [_, _, _] (drI c.p c.s) ((rdI c.q c.t) ++ (oI old ++ Z))) (.tail _ (.head _))) sr) rfl fun v C hv => ?_
        obtain ⟨rfl, s1, hs1, hs1v, rfl⟩ := hv
        refine WL.nil (WN.nextH (.cons (Pick.app _ .here) (.cons (Pick.app _ (.there .here)) .nil)) ?_)
        refine WH.only (i := 6) (by kernel_rfl) rfl ?_
        refine WL.callS (g := 17) (A0 := (rdI c.q c.t)) (B := (drI c.p s1) ++ ([_, _, _] ++ (oI old ++ Z))) Tryz.call17 rfl (permP (drI c.p s1) [_, _, _] (rdI c.q c.t) (oI old ++ Z)) (fun w0 st sr => earm_r x.at_ x.a x.m x.c x.K c.t w0 hj.c.t (hj.c.outs st (permP (drI c.p s1) [_, _, _] (rdI c.q c.t) (oI old ++ Z)) (fun y hy => List.mem_append_right _ (List.mem_append_right _ (hT y hy)))) hxl (by omega) (old_out st (permP (drI c.p s1) [_, _, _] (rdI c.q c.t) (oI old ++ Z)) hxr) sr) rfl fun v C hv => ?_
        obtain ⟨rfl, t1, Z1, ht1, ht1v, rfl, hz1⟩ := hv
        rw [hj.c.v] at ht1v ⊢
        refine WL.part (B := .blk b13 (.cells #[.int .i64 x.at_, .slice qr.1 x.m qr.2] 33 (0, 0)) :: .row qr.1 qr.2 3 1 (zcells x.K) :: .blk b1 (.cells x.cs.toArray 35 (0, 0)) :: (drI c.p s1 ++ (rdI c.q t1 ++ (oI old ++ (Z1 ++ Z))))) (Part.perm (permF4 [_, _, _] _ _ _ _ _)) ?_
        refine WL.nil (WN.nextH (.cons .here (.cons (.there .here) .nil)) ?_)
        (refine WH.order [7, 8, 9, 10, 11, 12, 13] (by repeat (first | exact Part.nil | refine Part.cons (by repeat (first | exact Pick.here | apply Pick.there)) ?_ | refine Part.free ?_)) (by kernel_rfl) ?_; (repeat (first | (refine WT.k_move rfl ?_; (refine WT.kn rfl ?_; refine WT.take rfl rfl (fun _ _ _ h => h) (Yl.move rfl) rfl (by kernel_rfl) (by kernel_rfl) ?_)) | (refine WT.k_load rfl ?_; (refine WT.kg rfl ?_; refine WT.takeG rfl rfl rfl rfl (fun _ _ _ h => h) (Yl.loadBlk (T := 31) Tryz.isAgg31 rfl (by repeat (first | exact .head _ | refine .tail _ ?_)) (by rfl)) rfl (by kernel_rfl) (by kernel_rfl) ?_)) | (refine WT.k_fld rfl ?_; (refine WT.kg rfl ?_; first | refine WT.takeG rfl rfl rfl rfl (fun _ _ _ h => h) (Yl.fldN0 (i := 1) (o := 1) (by kernel_rfl) rfl) rfl (by kernel_rfl) (by kernel_rfl) ?_ | refine WT.takeG rfl rfl rfl rfl (fun _ _ _ h => h) (Yl.fldN0 (i := 4) (o := 4) (by kernel_rfl) rfl) rfl (by kernel_rfl) (by kernel_rfl) ?_ | refine WT.takeG rfl rfl rfl rfl (fun _ _ _ h => h) (Yl.fldN (i := 1) (o := 1) (off := 4) (by kernel_rfl) rfl) rfl (by kernel_rfl) (by kernel_rfl) ?_)) | (refine WT.k_bin .eql rfl ?_; (refine WT.kn rfl ?_; refine WT.take rfl rfl (fun _ _ _ h => h) (Yl.eqlT rfl rfl rfl) rfl (by kernel_rfl) (by kernel_rfl) ?_)))); refine WT.nil ?_)
        refine WH.only (i := 14) (by kernel_rfl) rfl ?_
        refine WL.want rfl rfl rfl ?_
        refine WL.callV (g := 18) (v := .bool true) Tryz.call18 rfl (fun w0 st => iequal_t qr.1 x.a x.m qr.2 x.c x.K w0 hxl (by omega) (Rd.row (.tail _ (.head _)) w0 st) (hxo.hr.keep st.kept)) rfl ?_
        refine WL.nil (WN.nextH (.cons .here (.cons (.there .here) .nil)) ?_)
        (refine WH.order [15, 16] (by repeat (first | exact Part.nil | refine Part.cons (by repeat (first | exact Pick.here | apply Pick.there)) ?_ | refine Part.free ?_)) (by kernel_rfl) ?_; (repeat (first | (refine WT.k_assign rfl ?_; (refine WT.kn rfl ?_; refine WT.take rfl rfl (fun _ _ _ h => h) (Yl.assign rfl) rfl (by kernel_rfl) (by kernel_rfl) ?_)) | (refine WT.k_pick rfl ?_; (refine WT.kn rfl ?_; refine WT.take rfl rfl (fun _ _ _ h => h) (Yl.pick_t rfl rfl rfl) rfl (by kernel_rfl) (by kernel_rfl) ?_)))); refine WT.nil ?_)
        refine WH.done (by kernel_rfl) ?_
        have hb := arm_b c.s.v x.at_ x.K
        rw [← hs1v] at hb
        have hn := hj.next hs1 ht1 (ht1v.trans hs1v.symm) hz1 (by rw [show s1.ops = c.s.ops from hb.1]; exact Nat.le_succ_of_le hj.ops) (by rw [show s1.rd = c.s.rd from hb.2]; exact Nat.le_succ_of_le hj.rd)
        simp only [List.cons_append, List.nil_append]
        (repeat (first | (refine WL.k_load ?_; refine WL.step (Yl.loadBlk (T := 31) Tryz.isAgg31 rfl (by repeat (first | exact .head _ | refine .tail _ ?_)) (by rfl)) rfl ?_) | (refine WL.k_fld ?_; refine WL.step (Yl.fldN0 (i := 1) (o := 1) (by kernel_rfl) rfl) rfl ?_) | refine WC.region ?_ | refine WN.then_normal ?_))
        refine WL.clearFit (z := .int .i64 0) Tryz.underlying31 Tryz.zeroValue3 rfl rfl (.there .here) (by rw [zcells_len, hxl]; exact Nat.le_refl _) fun y1 => ?_
        (repeat (first | refine WL.nil ?_ | refine WN.block_normal ?_))
        exact WN.join _ hn (by repeat (first | exact Sub.nil | refine Sub.cons rfl rfl ?_)) (.more (.more (.more (Part.refl _))))
      by_cases h4 : x.act = 4
      · refine WC.cond_false rfl (decide_eq_false h0) ?_
        (repeat (first | refine WL.step (Yl.assign rfl) rfl ?_ | refine WL.step (Yl.eql rfl rfl) rfl ?_ | refine WC.seq ?_ | refine WC.region ?_ | refine WL.nil ?_ | refine WN.then_normal ?_))
        refine WC.cond_false rfl (decide_eq_false h1) ?_
        (repeat (first | refine WL.step (Yl.assign rfl) rfl ?_ | refine WL.step (Yl.eql rfl rfl) rfl ?_ | refine WC.seq ?_ | refine WC.region ?_ | refine WL.nil ?_ | refine WN.then_normal ?_))
        refine WC.cond_false rfl (decide_eq_false h2) ?_
        (repeat (first | refine WL.step (Yl.assign rfl) rfl ?_ | refine WL.step (Yl.eql rfl rfl) rfl ?_ | refine WC.seq ?_ | refine WC.region ?_ | refine WL.nil ?_ | refine WN.then_normal ?_))
        refine WC.cond_false rfl (decide_eq_false h3) ?_
        (repeat (first | refine WL.step (Yl.assign rfl) rfl ?_ | refine WL.step (Yl.eql rfl rfl) rfl ?_ | refine WC.seq ?_ | refine WC.region ?_ | refine WL.nil ?_ | refine WN.then_normal ?_))
        refine WC.cond_true rfl (decide_eq_true h4) ?_
        (repeat (first | refine WL.step (Yl.move rfl) rfl ?_ | refine WC.region ?_))
        refine WL.callS (g := 19) (A0 := (drI c.p c.s)) (B := [_, _, _] ++ ((rdI c.q c.t) ++ (oI old ++ Z))) Tryz.call19 rfl (perm3 [_, _, _] (drI c.p c.s) ((rdI c.q c.t) ++ (oI old ++ Z))) (fun w0 st sr => drestart_r c.s w0 hj.c.s sr) rfl fun v C hv => ?_
        obtain ⟨rfl, s1, hs1, hs1v, rfl⟩ := hv
        (repeat (first | refine WL.step (Yl.move rfl) rfl ?_))
        refine WL.callS (g := 20) (A0 := (rdI c.q c.t)) (B := (drI c.p s1) ++ ([_, _, _] ++ (oI old ++ Z))) Tryz.call20 rfl (permP (drI c.p s1) [_, _, _] (rdI c.q c.t) (oI old ++ Z)) (fun w0 st sr => erestart_r c.t w0 hj.c.t (hj.c.outs st (permP (drI c.p s1) [_, _, _] (rdI c.q c.t) (oI old ++ Z)) (fun y hy => List.mem_append_right _ (List.mem_append_right _ (hT y hy)))) sr) rfl fun v C hv => ?_
        obtain ⟨rfl, t1, Z1, ht1, ht1v, rfl, hz1⟩ := hv
        rw [hj.c.v] at ht1v
        (repeat (first | refine WL.step (Yl.assign rfl) rfl ?_ | refine WL.step (Yl.eqlT rfl rfl rfl) rfl ?_ | refine WL.nil ?_ | refine WN.block_normal ?_))
        have hn := hj.next hs1 ht1 (ht1v.trans hs1v.symm) hz1 (by rw [show s1.ops = c.s.ops from congrArg DV.ops hs1v]; exact Nat.le_succ_of_le hj.ops) (by rw [show s1.rd = c.s.rd from congrArg DV.rd hs1v]; exact Nat.le_succ_of_le hj.rd)
        exact WN.part (Part.perm (permF1 [_, _, _] _ _ _ _ _)) (WN.join _ hn (by repeat (first | exact Sub.nil | refine Sub.cons rfl rfl ?_)) (Part.pre _))
      by_cases h5 : x.act = 5
      · refine WC.cond_false rfl (decide_eq_false h0) ?_
        (repeat (first | refine WL.step (Yl.assign rfl) rfl ?_ | refine WL.step (Yl.eql rfl rfl) rfl ?_ | refine WC.seq ?_ | refine WC.region ?_ | refine WL.nil ?_ | refine WN.then_normal ?_))
        refine WC.cond_false rfl (decide_eq_false h1) ?_
        (repeat (first | refine WL.step (Yl.assign rfl) rfl ?_ | refine WL.step (Yl.eql rfl rfl) rfl ?_ | refine WC.seq ?_ | refine WC.region ?_ | refine WL.nil ?_ | refine WN.then_normal ?_))
        refine WC.cond_false rfl (decide_eq_false h2) ?_
        (repeat (first | refine WL.step (Yl.assign rfl) rfl ?_ | refine WL.step (Yl.eql rfl rfl) rfl ?_ | refine WC.seq ?_ | refine WC.region ?_ | refine WL.nil ?_ | refine WN.then_normal ?_))
        refine WC.cond_false rfl (decide_eq_false h3) ?_
        (repeat (first | refine WL.step (Yl.assign rfl) rfl ?_ | refine WL.step (Yl.eql rfl rfl) rfl ?_ | refine WC.seq ?_ | refine WC.region ?_ | refine WL.nil ?_ | refine WN.then_normal ?_))
        refine WC.cond_false rfl (decide_eq_false h4) ?_
        (repeat (first | refine WL.step (Yl.assign rfl) rfl ?_ | refine WL.step (Yl.eql rfl rfl) rfl ?_ | refine WC.seq ?_ | refine WC.region ?_ | refine WL.nil ?_ | refine WN.then_normal ?_))
        refine WC.cond_true rfl (decide_eq_true h5) ?_
        (repeat (first | refine WL.step (Yl.move rfl) rfl ?_ | refine WL.step (Yl.assign rfl) rfl ?_ | refine WC.seq ?_ | refine WC.region ?_ | refine WL.nil ?_ | refine WN.then_normal ?_))
        refine WL.call (g := 21) Tryz.call21 rfl (fun w0 st => dcopy_c c.s w0 (hj.c.dr st fun y hy => .tail _ (.tail _ (.tail _ (List.mem_append_left _ hy))))) rfl fun v1 B1 hv1 => ?_
        obtain ⟨p1, s1, hs1, hs1v, rfl, rfl⟩ := hv1
        (repeat (first | refine WL.step (Yl.move rfl) rfl ?_))
        refine WL.call (g := 22) Tryz.call22 rfl (fun w0 st => ecopy_c c.t w0 (hj.c.rr st (fun y hy => List.mem_append_right _ (.tail _ (.tail _ (.tail _ (List.mem_append_right _ (List.mem_append_left _ hy)))))) (fun y hy => List.mem_append_right _ (.tail _ (.tail _ (.tail _ (List.mem_append_right _ (List.mem_append_right _ (hT y hy))))))))) rfl fun v1 B1 hv1 => ?_
        obtain ⟨q1, t1, ht1, ht1v, hto, htf, rfl, rfl⟩ := hv1
        (repeat (first | refine WL.step (Yl.assign rfl) rfl ?_ | refine WL.nil ?_ | refine WN.block_normal ?_))
        have hn : (⟨⟨p1, s1, q1, t1⟩, some c, Z⟩ : P4).Ok (i + 1) := ⟨⟨hs1, ht1, ht1v.trans (hj.c.v.trans hs1v.symm), fun y hy => hj.c.z y (by rw [← hto, ← htf]; exact hy)⟩, fun y hy => by injection hy with hy; subst hy; exact hj.c, by simp only; rw [show s1.ops = c.s.ops from congrArg DV.ops hs1v]; exact Nat.le_succ_of_le hj.ops, by simp only; rw [show s1.rd = c.s.rd from congrArg DV.rd hs1v]; exact Nat.le_succ_of_le hj.rd⟩
        exact WN.part (Part.perm (permFC [_, _, _] (drI c.p c.s) (rdI c.q c.t) (oI old) Z (drI p1 s1) (rdI q1 t1))) (WN.join _ hn (by repeat (first | exact Sub.nil | refine Sub.cons rfl rfl ?_)) (Part.pre _))
      refine WC.cond_false rfl (decide_eq_false h0) ?_
      (repeat (first | refine WL.step (Yl.assign rfl) rfl ?_ | refine WL.step (Yl.eql rfl rfl) rfl ?_ | refine WC.seq ?_ | refine WC.region ?_ | refine WL.nil ?_ | refine WN.then_normal ?_))
      refine WC.cond_false rfl (decide_eq_false h1) ?_
      (repeat (first | refine WL.step (Yl.assign rfl) rfl ?_ | refine WL.step (Yl.eql rfl rfl) rfl ?_ | refine WC.seq ?_ | refine WC.region ?_ | refine WL.nil ?_ | refine WN.then_normal ?_))
      refine WC.cond_false rfl (decide_eq_false h2) ?_
      (repeat (first | refine WL.step (Yl.assign rfl) rfl ?_ | refine WL.step (Yl.eql rfl rfl) rfl ?_ | refine WC.seq ?_ | refine WC.region ?_ | refine WL.nil ?_ | refine WN.then_normal ?_))
      refine WC.cond_false rfl (decide_eq_false h3) ?_
      (repeat (first | refine WL.step (Yl.assign rfl) rfl ?_ | refine WL.step (Yl.eql rfl rfl) rfl ?_ | refine WC.seq ?_ | refine WC.region ?_ | refine WL.nil ?_ | refine WN.then_normal ?_))
      refine WC.cond_false rfl (decide_eq_false h4) ?_
      (repeat (first | refine WL.step (Yl.assign rfl) rfl ?_ | refine WL.step (Yl.eql rfl rfl) rfl ?_ | refine WC.seq ?_ | refine WC.region ?_ | refine WL.nil ?_ | refine WN.then_normal ?_))
      refine WC.cond_false rfl (decide_eq_false h5) ?_
      (repeat (first | refine WC.skip ?_ | refine WN.block_normal ?_))
      exact WN.join ⟨c, old, Z⟩ hj.step (by repeat (first | exact Sub.nil | refine Sub.cons rfl rfl ?_)) (.more (.more (.more (Part.refl _))))
    · rintro ⟨c, old, Z⟩ hj
      cases old with
      | none =>
        (repeat (first | refine WL.want rfl rfl rfl ?_ | refine WL.step (Yl.move rfl) rfl ?_ | refine WL.step (Yl.not rfl) rfl ?_ | refine WC.seq ?_ | refine WC.region ?_))
        refine WL.callV (g := 23) (v := .bool true) Tryz.call23 rfl (fun w0 st => shows_c w0 (hj.c.dr st fun y hy => List.mem_append_left _ hy) (hj.c.rr st (fun y hy => List.mem_append_right _ (List.mem_append_left _ hy)) (fun y hy => List.mem_append_right _ (List.mem_append_right _ (List.mem_append_right _ hy)))) hj.c.v) rfl ?_
        (repeat (first | (refine WL.kG ?_; first | refine WL.want rfl rfl rfl ?_ | refine WL.pass rfl rfl rfl rfl ?_) | refine WL.step (Yl.move rfl) rfl ?_ | refine WL.step (Yl.pick_f rfl rfl rfl) rfl ?_ | (refine WL.k_bin .neq ?_; refine WL.step (Yl.neqPN (p := none) (by kernel_rfl) rfl) rfl ?_) | refine WL.step (Yl.not rfl) rfl ?_ | refine WL.nil ?_ | refine WN.then_normal ?_))
        refine WC.cond_false rfl rfl ?_
        (repeat (first | refine WL.step (Yl.move rfl) rfl ?_ | (refine WL.k_bin .add ?_; refine WL.step (Yl.add64C rfl (by omega)) rfl ?_) | refine WC.region ?_ | refine WL.nil ?_ | refine WN.then_normal ?_ | refine WC.skip ?_ | refine WN.block_normal ?_))
        exact WN.next (⟨c, none, Z⟩, i + 1) ⟨by simp only; omega, hj⟩ (by simp only; omega) (by repeat (first | exact Sub.nil | refine Sub.cons rfl rfl ?_)) (Part.refl _)
      | some o =>
        have ho := hj.o o rfl
        (repeat (first | refine WL.want rfl rfl rfl ?_ | refine WL.step (Yl.move rfl) rfl ?_ | refine WL.step (Yl.not rfl) rfl ?_ | refine WC.seq ?_ | refine WC.region ?_))
        refine WL.callV (g := 23) (v := .bool true) Tryz.call23 rfl (fun w0 st => shows_c w0 (hj.c.dr st fun y hy => List.mem_append_left _ hy) (hj.c.rr st (fun y hy => List.mem_append_right _ (List.mem_append_left _ hy)) (fun y hy => List.mem_append_right _ (List.mem_append_right _ (List.mem_append_right _ hy)))) hj.c.v) rfl ?_
        (repeat (first | refine WL.want rfl rfl rfl ?_ | refine WL.step (Yl.move rfl) rfl ?_ | refine WL.step (Yl.pick_f rfl rfl rfl) rfl ?_ | (refine WL.k_bin .neq ?_; refine WL.step (Yl.neqPN (p := some ⟨o.p.bd, 0, none⟩) (by kernel_rfl) rfl) rfl ?_) | refine WL.step (Yl.not rfl) rfl ?_))
        refine WL.callV (g := 23) (v := .bool true) Tryz.call23 rfl (fun w0 st => shows_c w0 (ho.dr st fun y hy => List.mem_append_right _ (List.mem_append_right _ (List.mem_append_left _ (List.mem_append_left _ hy)))) (ho.rr st (fun y hy => List.mem_append_right _ (List.mem_append_right _ (List.mem_append_left _ (List.mem_append_right _ hy)))) (fun y hy => List.mem_append_right _ (List.mem_append_right _ (List.mem_append_right _ hy)))) ho.v) rfl ?_
        (repeat (first | refine WL.want rfl rfl rfl ?_ | (refine WL.k_pick ?_; first | refine WL.step (Yl.pick_t rfl rfl rfl) rfl ?_ | refine WL.step (Yl.pick_f rfl rfl rfl) rfl ?_) | refine WL.step (Yl.not rfl) rfl ?_ | refine WL.nil ?_ | refine WN.then_normal ?_))
        refine WC.cond_false rfl rfl ?_
        (repeat (first | refine WL.step (Yl.move rfl) rfl ?_ | (refine WL.k_bin .add ?_; refine WL.step (Yl.add64C rfl (by omega)) rfl ?_) | refine WC.region ?_ | refine WL.nil ?_ | refine WN.then_normal ?_ | refine WC.skip ?_ | refine WN.block_normal ?_))
        exact WN.next (⟨c, some o, Z⟩, i + 1) ⟨by simp only; omega, hj⟩ (by simp only; omega) (by repeat (first | exact Sub.nil | refine Sub.cons rfl rfl ?_)) (Part.refl _)
  · (repeat (first | refine WL.step (Yl.move rfl) rfl ?_ | refine WC.seq ?_ | refine WC.region ?_ | refine WN.then_normal ?_ | refine WC.exit ?_ | refine WN.then_exit ?_ | refine WN.block_here ?_))
    refine WL.callV (g := 23) (v := .bool true) Tryz.call23 rfl (fun w0 st => shows_c w0 (hj.c.dr st fun y hy => List.mem_append_left _ hy) (hj.c.rr st (fun y hy => List.mem_append_right _ (List.mem_append_left _ hy)) (fun y hy => List.mem_append_right _ (List.mem_append_right _ (List.mem_append_right _ hy)))) hj.c.v) rfl ?_
    (repeat (first | refine WL.want rfl rfl rfl ?_ | refine WL.step (Yl.move rfl) rfl ?_ | refine WL.step (Yl.assign rfl) rfl ?_ | refine WL.step (Yl.pick_t rfl rfl rfl) rfl ?_ | (refine WL.k_call 4 ?_; refine WL.callV (g := 4) Tryz.call4 rfl (fun w s => works33_c w) rfl ?_) | refine WL.nil ?_ | refine WN.then_normal ?_ | refine WC.ret ?_))
    exact WN.ret1 rfl rfl ⟨rfl, rfl⟩ .nil
end Go.Proofs.YtmmpngigaodcgaaGreat
/- DrivePlays. -/
namespace Go.Proofs.YtmmpngigaodcgaaGreat
set_option linter.unusedVariables false
set_option linter.unusedSimpArgs false
open Go Go.RowKit
set_option maxRecDepth 100000
set_option maxHeartbeats 8000000
theorem lplays33_c (z : Int) (a : Option Addr) (m cap : Nat) (S : List DStep) (w : World) (hl : S.length = m) (hm : m ≤ 9223372036854775807) (hr : CellsAt w a (S.flatMap DStep.cs)) (hok : ∀ s ∈ S, s.Ok w) : Calls Tryz.prog 3 #[.int .i64 z, .slice a m cap] w (Gives (Val (.bool true)) w) := by
  by_cases hf : m ≤ 60
  · by_cases h1 : z < 1
    · exact lpl33_no0 z a m cap S w hl hm hr hok hf (.inl h1) h1
    · by_cases h3 : 4096 < z
      · exact lpl33_no1 z a m cap S w hl hm hr hok hf (.inr h3) h3
      · by_cases h2 : 12 < z
        · exact lpl33_many z a m cap S w hl hm hr hok hf h2 (by omega)
        · obtain ⟨n, rfl⟩ := Int.eq_ofNat_of_zero_le (show 0 ≤ z by omega)
          exact lpl33_yes n a m cap S w hl hm hr hok hf (by omega) (by omega)
  · exact lpl33_few z a m cap S w hl hm hr hok (by omega)
end Go.Proofs.YtmmpngigaodcgaaGreat
/- What the rows of DrivePlays know: its steps. -/
namespace Go.Proofs.YtmmpngigaodcgaaGreat
set_option linter.unusedVariables false
set_option linter.unusedSimpArgs false
open Go Go.RowKit Go.ChangeShapes Go.WideShapes Go.ChangeAt
set_option maxRecDepth 100000
theorem cDStep : Tryz.prog.cellsOf 35 = 6 := by kernel_rfl
instance : Inhabited DStep := ⟨⟨0, 0, 0, 0, 0, none, 0, 0, []⟩⟩
section
variable {H : Type} {enc : TypeId × Value → H} {W : World} {base : Nat} {held : Bool}
theorem dstep_el {n : Nat} {cs : List Value} {y : DataW H × List MemPlace} (h : DataW.trod enc Tryz.prog W base (fun _ => true) held n 35 cs = some y) : ∃ s : DStep, s.Ok W ∧ cs = s.cs := by
  obtain ⟨xs, k, _, _, hsz, hxs, hf⟩ := DataW.trod_struct Tryz.underlying35 h
  have hl4 : cs.length = 6 := by rw [hsz]; kernel_rfl
  match cs, hl4, xs, hxs, hf with
  | [v0, v1, v2, v3, v4, v5], _, [x0, x1, x2, x3, x4], _, hf =>
    have f0 := hf 0 _ rfl
    have f1 := hf 1 _ rfl
    have f2 := hf 2 _ rfl
    have f3 := hf 3 _ rfl
    have f4 := hf 4 _ rfl
    obtain ⟨z0, _, e0⟩ := int_el (show DataW.trod enc Tryz.prog W base _ held k 3 [v0] = some x0 from f0)
    obtain ⟨z1, _, e1⟩ := int_el (show DataW.trod enc Tryz.prog W base _ held k 3 [v1] = some x1 from f1)
    obtain ⟨z2, _, e2⟩ := int_el (show DataW.trod enc Tryz.prog W base _ held k 3 [v2] = some x2 from f2)
    obtain ⟨z3, _, e3⟩ := u8_el (show DataW.trod enc Tryz.prog W base _ held k 5 [v3] = some x3 from f3)
    obtain ⟨z4, a, m, c, K, e4, m1, m2, m3, m5⟩ := plan_el (show DataW.trod enc Tryz.prog W base _ held k 33 [v4, v5] = some x4 from f4)
    obtain rfl : v0 = .int .i64 z0 := by injection e0
    obtain rfl : v1 = .int .i64 z1 := by injection e1
    obtain rfl : v2 = .int .i64 z2 := by injection e2
    obtain rfl : v3 = bv z3 := by injection e3
    obtain ⟨rfl, rfl⟩ : v4 = .int .i64 z4 ∧ v5 = .slice a m c := by injection e4 with e5 e6; injection e6 with e7 e8; exact ⟨e5, e7⟩
    exact ⟨⟨z0, z1, z2, z3, z4, a, m, c, K⟩, ⟨m1, m2, m3, m5⟩, rfl⟩
theorem dsteps_in {x : DataW H × List MemPlace} {a : Option Addr} {n cap : Nat} (h : ∃ m, DataW.trod enc Tryz.prog W base (fun _ => true) held m 22 [.slice a n cap] = some x) :
    ∃ S : List DStep, S.length = n ∧ n ≤ cap ∧ cap ≤ 9223372036854775807 ∧ (∀ s ∈ S, s.Ok W) ∧ CellsAt W a (S.flatMap DStep.cs) := by
  obtain ⟨m, h⟩ := h
  obtain ⟨a', n', c', l, e, h⟩ := slice_in (G := fun s : DStep => s.Ok W) (f := DStep.cs) Tryz.underlying22 cDStep (by decide) (fun y hy => rfl) (fun n cs y => dstep_el) h
  cases e
  exact ⟨l, h⟩
end
end Go.Proofs.YtmmpngigaodcgaaGreat
