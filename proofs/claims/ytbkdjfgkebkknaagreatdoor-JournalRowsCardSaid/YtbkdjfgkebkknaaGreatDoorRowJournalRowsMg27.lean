import Derived.Test.YtbkdjfgkebkknaaGreatDoorRowJournalRowsMg26
import Derived.Test.YtbkdjfgkebkknaaGreatDoorRowJournalRowsMg25
import Derived.Test.YtbkdjfgkebkknaaGreatDoorRowJournalRowsMg19
import Derived.Test.YtbkdjfgkebkknaaGreatDoorRowJournalRowsMg2
import Derived.OpenShut
import Derived.Deep.Matrix
namespace Go.Proofs.YtbkdjfgkebkknaaGreatDoor
set_option linter.unusedVariables false
set_option linter.unusedSimpArgs false
open Go Go.RowKit
set_option maxRecDepth 100000
set_option maxHeartbeats 8000000
def KOnV (rb first n : Nat) (ep : Int) (X : List Kpg) : Value → List HA → Prop := fun u B => ∃ kb s, u = .tuple #[bptr kb, .int .i64 0] ∧ s.X = X ∧ s.X.length ≤ s.tc ∧ B = kI rb kb first n ep s
theorem buildK5 (d : Option Addr) (a b e : Int) (t : Option Addr) (m c : Nat) (w : World) : (Instr.build 141 [(0, .pointer d), (1, .int .i64 a), (2, .int .i64 b), (3, .int .i64 e), (4, .slice t m c)].toArray).run Tryz.prog w = .ok (.agg #[.pointer d, .int .i64 a, .int .i64 b, .int .i64 e, .slice t m c]) w := by
  simp [Instr.build, Tryz.zeroValue141, run_underlying Tryz.underlying141, Tryz.sizeOf3, Tryz.sizeOf2, Tryz.sizeOf52, Tryz.sizeOf139, Value.cells, Instr.fill]
theorem kx_one (X : List Kpg) : ∀ u ∈ X.map Kpg.v, u.oneCell' = true := fun u h => by obtain ⟨s, _, rfl⟩ := List.mem_map.1 h; rfl
attribute [local irreducible] WL WC WN Yl WH WQ WT WE WU WG WV
section
variable {r2 : RDP} {rs : RDS} {rb kb first n : Nat} {ep : Int} {s : KJS}
theorem kon_nil (u : Value) (hu : ∃ q, u = .pointer q) (w : World) : Calls Tryz.prog 52 #[.pointer none, u] w (Gives (Val (.tuple #[.pointer none, .int .i64 1])) w) := by
  obtain ⟨pu, rfl⟩ := hu
  refine enter (args := [.pointer none, .pointer pu]) Tryz.func52 Tryz.ntmps52 rfl rfl ?_
  (repeat (first | refine WL.pass rfl rfl rfl rfl ?_ | refine WL.step (Yl.move rfl) rfl ?_ | refine WL.step (Yl.assign rfl) rfl ?_ | refine WL.step (Yl.pick_t rfl rfl rfl) rfl ?_ | (refine WL.k_bin .eql ?_; refine WL.step (Yl.eqlPN (by kernel_rfl) rfl) rfl ?_) | refine WC.seq ?_ | refine WC.region ?_ | refine WL.nil ?_ | refine WN.then_normal ?_))
  refine WC.cond_true rfl rfl ?_
  (repeat (first | refine WL.step (Yl.assign rfl) rfl ?_ | refine WC.seq ?_ | refine WC.region ?_ | refine WL.nil ?_ | refine WN.then_normal ?_ | refine WC.ret ?_ | refine WN.then_ret ?_))
  exact WN.ret2 rfl rfl rfl ⟨rfl, rfl⟩ .nil
theorem kon_e (w : World) (h : KAt w rb kb first n ep s) (hd : RDAt w r2 rs) (hfn : first + n ≤ 8192) (he : rs.d.length < first + n) : Calls Tryz.prog 52 #[bptr kb, bptr r2.bd] w (Gives (Val (.tuple #[.pointer none, .int .i64 3])) w) := by
  have hpos := hd.ok.wf.pos
  have hle := hd.ok.wf.le
  refine enter (args := [.pointer (some ⟨kb, 0, none⟩), .pointer (some ⟨r2.bd, 0, none⟩)]) Tryz.func52 Tryz.ntmps52 rfl rfl ?_
  (repeat (first | refine WL.want rfl rfl rfl ?_ | refine WL.step (Yl.move rfl) rfl ?_ | refine WL.step (Yl.assign rfl) rfl ?_ | refine WL.step (Yl.loadH Tryz.isAgg52 rfl (Has.old h.blk) rfl) rfl ?_ | (refine WL.k_fld ?_; refine WL.step (Yl.fldN0 (i := 0) (o := 0) (by kernel_rfl) rfl) rfl ?_) | refine WL.step (Yl.pick_f rfl rfl rfl) rfl ?_ | (refine WL.k_bin .eql ?_; first | refine WL.step (Yl.eqlPN (by kernel_rfl) rfl) rfl ?_ | refine WL.step (Yl.eqlF rfl rfl (by omega)) rfl ?_) | refine WL.step (Yl.nilCheck rfl) rfl ?_ | refine WL.callV (g := 78) Tryz.call78 rfl (fun w0 st => elen_c w0 (hd.keep st.kept)) rfl ?_ | refine WC.seq ?_ | refine WC.region ?_ | refine WL.nil ?_ | refine WN.then_normal ?_))
  refine WC.cond_false rfl rfl ?_
  (repeat (first | refine WC.seq ?_ | refine WN.then_normal ?_ | refine WC.skip ?_))
  refine WC.regionH [] (by kernel_rfl) ?_
  (refine WH.order [0, 1, 2, 3, 4, 5, 6, 7, 8, 9] (by repeat (first | exact Part.nil | refine Part.cons zK ?_ | refine Part.free ?_)) (by kernel_rfl) ?_; (repeat (first | (refine WT.k_move rfl ?_; (refine WT.kn rfl ?_; refine WT.take rfl rfl (fun _ _ _ h => h) (Yl.move rfl) rfl (by kernel_rfl) (by kernel_rfl) ?_)) | (refine WT.k_load rfl ?_; (refine WT.kn rfl ?_; refine WT.take rfl rfl (fun _ _ _ h => h) (Yl.loadH Tryz.isAgg3 rfl (Has.old h.blk) rfl) rfl (by kernel_rfl) (by kernel_rfl) ?_)) | (refine WT.k_fld rfl ?_; (refine WT.kn rfl ?_; first | refine WT.take rfl rfl (fun _ _ _ h => h) (Yl.fldN0 (i := 1) (o := 1) (by kernel_rfl) rfl) rfl (by kernel_rfl) (by kernel_rfl) ?_ | refine WT.take rfl rfl (fun _ _ _ h => h) (Yl.fldN0 (i := 2) (o := 2) (by kernel_rfl) rfl) rfl (by kernel_rfl) (by kernel_rfl) ?_)) | (refine WT.k_nilc rfl ?_; (refine WT.kn rfl ?_; refine WT.take rfl rfl (fun _ _ _ h => h) (Yl.nilCheck rfl) rfl (by kernel_rfl) (by kernel_rfl) ?_)) | (refine WT.k_bin .add rfl ?_; (refine WT.kn rfl ?_; refine WT.take rfl rfl (fun _ _ _ h => h) (Yl.add64N (m := first) (n := n) rfl rfl (by omega)) rfl (by kernel_rfl) (by kernel_rfl) ?_)))); refine WT.nil ?_)
  refine WH.only (i := 10) (by kernel_rfl) rfl ?_
  refine WL.callV (g := 78) (v := .int .i64 ((rs.d.length : Nat) : Int)) Tryz.call78 rfl (fun w0 st => elen_c w0 (hd.keep st.kept)) rfl ?_
  refine WL.nil (WN.nextH .nil ?_)
  (refine WH.order [11] (by repeat (first | exact Part.nil | refine Part.cons zK ?_ | refine Part.free ?_)) (by kernel_rfl) ?_; (repeat (first | (refine WT.k_bin .gtr rfl ?_; (refine WT.kn rfl ?_; refine WT.take rfl rfl (fun _ _ _ h => h) (Yl.gtrT (m := ((first + n : Nat) : Int)) (n := ((rs.d.length : Nat) : Int)) rfl rfl (by omega)) rfl (by kernel_rfl) (by kernel_rfl) ?_)))); refine WT.nil ?_)
  refine WH.done (by kernel_rfl) ?_
  (repeat (first | refine WN.then_normal ?_))
  refine WC.cond_true rfl rfl ?_
  (repeat (first | refine WL.step (Yl.assign rfl) rfl ?_ | refine WC.seq ?_ | refine WC.region ?_ | refine WL.nil ?_ | refine WN.then_normal ?_ | refine WC.ret ?_ | refine WN.then_ret ?_))
  exact WN.ret2 rfl rfl rfl ⟨rfl, rfl⟩ .nil
theorem kon_c (w : World) (h : KAt w rb kb first n ep s) (hd : RDAt w r2 rs) (hx : s.X.length ≤ 100000) (he : first + n ≤ rs.d.length) : Calls Tryz.prog 52 #[bptr kb, bptr r2.bd] w (Gives (KOnV r2.bd first n ep s.X) w) := by
  have hpos := hd.ok.wf.pos
  have hle := hd.ok.wf.le
  refine enter (args := [.pointer (some ⟨kb, 0, none⟩), .pointer (some ⟨r2.bd, 0, none⟩)]) Tryz.func52 Tryz.ntmps52 rfl rfl ?_
  (repeat (first | refine WL.want rfl rfl rfl ?_ | refine WL.step (Yl.move rfl) rfl ?_ | refine WL.step (Yl.assign rfl) rfl ?_ | refine WL.step (Yl.loadH Tryz.isAgg52 rfl (Has.old h.blk) rfl) rfl ?_ | (refine WL.k_fld ?_; refine WL.step (Yl.fldN0 (i := 0) (o := 0) (by kernel_rfl) rfl) rfl ?_) | refine WL.step (Yl.pick_f rfl rfl rfl) rfl ?_ | (refine WL.k_bin .eql ?_; first | refine WL.step (Yl.eqlPN (by kernel_rfl) rfl) rfl ?_ | refine WL.step (Yl.eqlF rfl rfl (by omega)) rfl ?_) | refine WL.step (Yl.nilCheck rfl) rfl ?_ | refine WL.callV (g := 78) Tryz.call78 rfl (fun w0 st => elen_c w0 (hd.keep st.kept)) rfl ?_ | refine WC.seq ?_ | refine WC.region ?_ | refine WL.nil ?_ | refine WN.then_normal ?_))
  refine WC.cond_false rfl rfl ?_
  (repeat (first | refine WC.seq ?_ | refine WN.then_normal ?_ | refine WC.skip ?_))
  refine WC.regionH [] (by kernel_rfl) ?_
  (refine WH.order [0, 1, 2, 3, 4, 5, 6, 7, 8, 9] (by repeat (first | exact Part.nil | refine Part.cons zK ?_ | refine Part.free ?_)) (by kernel_rfl) ?_; (repeat (first | (refine WT.k_move rfl ?_; (refine WT.kn rfl ?_; refine WT.take rfl rfl (fun _ _ _ h => h) (Yl.move rfl) rfl (by kernel_rfl) (by kernel_rfl) ?_)) | (refine WT.k_load rfl ?_; (refine WT.kn rfl ?_; refine WT.take rfl rfl (fun _ _ _ h => h) (Yl.loadH Tryz.isAgg3 rfl (Has.old h.blk) rfl) rfl (by kernel_rfl) (by kernel_rfl) ?_)) | (refine WT.k_fld rfl ?_; (refine WT.kn rfl ?_; first | refine WT.take rfl rfl (fun _ _ _ h => h) (Yl.fldN0 (i := 1) (o := 1) (by kernel_rfl) rfl) rfl (by kernel_rfl) (by kernel_rfl) ?_ | refine WT.take rfl rfl (fun _ _ _ h => h) (Yl.fldN0 (i := 2) (o := 2) (by kernel_rfl) rfl) rfl (by kernel_rfl) (by kernel_rfl) ?_)) | (refine WT.k_nilc rfl ?_; (refine WT.kn rfl ?_; refine WT.take rfl rfl (fun _ _ _ h => h) (Yl.nilCheck rfl) rfl (by kernel_rfl) (by kernel_rfl) ?_)) | (refine WT.k_bin .add rfl ?_; (refine WT.kn rfl ?_; refine WT.take rfl rfl (fun _ _ _ h => h) (Yl.add64N (m := first) (n := n) rfl rfl (by omega)) rfl (by kernel_rfl) (by kernel_rfl) ?_)))); refine WT.nil ?_)
  refine WH.only (i := 10) (by kernel_rfl) rfl ?_
  refine WL.callV (g := 78) (v := .int .i64 ((rs.d.length : Nat) : Int)) Tryz.call78 rfl (fun w0 st => elen_c w0 (hd.keep st.kept)) rfl ?_
  refine WL.nil (WN.nextH .nil ?_)
  (refine WH.order [11] (by repeat (first | exact Part.nil | refine Part.cons zK ?_ | refine Part.free ?_)) (by kernel_rfl) ?_; (repeat (first | (refine WT.k_bin .gtr rfl ?_; (refine WT.kn rfl ?_; refine WT.take rfl rfl (fun _ _ _ h => h) (Yl.gtrF (m := ((first + n : Nat) : Int)) (n := ((rs.d.length : Nat) : Int)) rfl rfl (by omega)) rfl (by kernel_rfl) (by kernel_rfl) ?_)))); refine WT.nil ?_)
  refine WH.done (by kernel_rfl) ?_
  (repeat (first | refine WN.then_normal ?_))
  refine WC.cond_false rfl rfl ?_
  (repeat (first | refine WC.seq ?_ | refine WN.then_normal ?_ | refine WC.skip ?_))
  refine WC.regionH [] (by kernel_rfl) ?_
  (refine WH.order [0, 1, 2, 3, 4, 5, 6, 7, 8, 9, 10, 11, 12, 14, 15, 16, 17] (by repeat (first | exact Part.nil | refine Part.cons zK ?_ | refine Part.free ?_)) (by kernel_rfl) ?_; (repeat (first | (refine WT.k_move rfl ?_; (refine WT.kn rfl ?_; refine WT.take rfl rfl (fun _ _ _ h => h) (Yl.move rfl) rfl (by kernel_rfl) (by kernel_rfl) ?_)) | (refine WT.k_load rfl ?_; (refine WT.kn rfl ?_; refine WT.take rfl rfl (fun _ _ _ h => h) (Yl.loadH Tryz.isAgg3 rfl (Has.old h.blk) rfl) rfl (by kernel_rfl) (by kernel_rfl) ?_)) | (refine WT.k_fld rfl ?_; (refine WT.kn rfl ?_; first | refine WT.take rfl rfl (fun _ _ _ h => h) (Yl.fldN0 (i := 1) (o := 1) (by kernel_rfl) rfl) rfl (by kernel_rfl) (by kernel_rfl) ?_ | refine WT.take rfl rfl (fun _ _ _ h => h) (Yl.fldN0 (i := 2) (o := 2) (by kernel_rfl) rfl) rfl (by kernel_rfl) (by kernel_rfl) ?_ | refine WT.take rfl rfl (fun _ _ _ h => h) (Yl.fldN0 (i := 3) (o := 3) (by kernel_rfl) rfl) rfl (by kernel_rfl) (by kernel_rfl) ?_ | refine WT.take rfl rfl (fun _ _ _ h => h) (Yl.fldN0 (i := 4) (o := 4) (by kernel_rfl) rfl) rfl (by kernel_rfl) (by kernel_rfl) ?_)) | (refine WT.k_nilc rfl ?_; (refine WT.kn rfl ?_; refine WT.take rfl rfl (fun _ _ _ h => h) (Yl.nilCheck rfl) rfl (by kernel_rfl) (by kernel_rfl) ?_)))); refine WT.nil ?_)
  refine WH.only (i := 13) (by kernel_rfl) rfl ?_
  refine WL.lit (t := 139) (vs := []) Tryz.underlying139 elemKs rfl rfl rfl (fun u hu => by simp at hu) rfl fun bl => ?_
  refine WL.nil (WN.nextH .nil ?_)
  refine WH.only (i := 18) (by kernel_rfl) rfl ?_
  refine WL.appendRow (t := 139) (n := 0) (m := s.X.length) (olds := []) (news := s.X.map Kpg.v) Tryz.underlying139 elemKs rfl rfl .here rfl (Nat.le_refl 0) (Rd.old h.row.at_) (by rw [List.length_map, Nat.mul_one]) (kx_one _) (by omega) (by simp only [maxLen]; omega) rfl fun q hq => ?_
  simp only [Nat.zero_add, List.nil_append] at hq ⊢
  refine WL.nil (WN.nextH .nil ?_)
  (refine WH.order [19] (by repeat (first | exact Part.nil | refine Part.cons zK ?_ | refine Part.free ?_)) (by kernel_rfl) ?_; (repeat (first | (refine WT.k_build rfl ?_; (refine WT.kn rfl ?_; refine WT.take rfl rfl (fun _ _ _ h => h) (Yl.build (ps := [(0, .tmp 36), (1, .tmp 40), (2, .tmp 44), (3, .tmp 48), (4, .tmp 54)]) (vs := [(0, bptr r2.bd), (1, .int .i64 (first : Int)), (2, .int .i64 (n : Int)), (3, .int .i64 ep), (4, .slice q.1 s.X.length q.2)]) rfl (buildK5 _ _ _ _ _ _ _)) rfl (by kernel_rfl) (by kernel_rfl) ?_)))); refine WT.nil ?_)
  refine WH.only (i := 20) (by kernel_rfl) rfl ?_
  refine WL.boxA rfl rfl fun bk => ?_
  refine WL.nil (WN.nextH .nil ?_)
  (refine WH.order [21, 22] (by repeat (first | exact Part.nil | refine Part.cons zK ?_ | refine Part.free ?_)) (by kernel_rfl) ?_; (repeat (first | (refine WT.k_assign rfl ?_; (refine WT.kn rfl ?_; refine WT.take rfl rfl (fun _ _ _ h => h) (Yl.assign rfl) rfl (by kernel_rfl) (by kernel_rfl) ?_)))); refine WT.nil ?_)
  refine WH.done (by kernel_rfl) ?_
  (repeat (first | refine WN.then_normal ?_ | refine WC.ret ?_))
  exact WN.ret2 rfl rfl rfl ⟨bk, ⟨q.1, q.2, s.X⟩, rfl, rfl, hq, rfl⟩ (.cons .here (.cons .here .nil))
end
end Go.Proofs.YtbkdjfgkebkknaaGreatDoor
namespace Go.Proofs.YtbkdjfgkebkknaaGreatDoor
set_option linter.unusedVariables false
set_option linter.unusedSimpArgs false
open Go Go.RowKit
set_option maxRecDepth 100000
set_option maxHeartbeats 16000000
theorem arm_zero {v : DV} {K : List Int} (hd : v.down = false) (h : planOk 0 K) : v.arm 0 K = (v.crash K, 0) := by
  rw [DV.arm, if_pos h, if_pos rfl, if_neg (by rw [hd]; decide)]
theorem newE_zero {len : Nat} {fi m e : Int} (h0 : len ≠ 0) (h : newE len fi m e = 0) : Frm.Ep e ∧ ∃ first n : Nat, fi = (first : Int) ∧ m = (n : Int) ∧ 1 ≤ n ∧ first + n ≤ len := by
  unfold newE at h
  rw [if_neg h0] at h
  by_cases h1 : e < 1 ∨ 1099511627776 < e
  · rw [if_pos h1] at h; cases h
  · rw [if_neg h1] at h
    by_cases h2 : fi < 0 ∨ m < 1 ∨ (len : Int) < fi ∨ len - fi < m
    · rw [if_pos h2] at h; cases h
    · exact ⟨⟨by omega, by omega⟩, fi.toNat, m.toNat, by omega, by omega, by omega, by omega⟩
theorem fresh_scan {v : DV} {first n : Nat} {ep : Int} (hw : BkWf v.d v.F) (hr : first + n ≤ v.d.length) (hc : Clean v first n ep 0) : Scan (frA v first n ep) SS.start SS.start :=
  scan_end hw (j := JV.new first n ep) hr hc
attribute [local irreducible] WL WC WN Yl WH WQ WT WE WU WG WV
theorem lrows_c (s0 : UInt8) (dn : Bool) (fi mm ee : Int) (w : World) (hT : Tab w) : Calls Tryz.prog 8 #[.int .u8 (s0.toNat : Int), .bool dn, .int .i64 fi, .int .i64 mm, .int .i64 ee] w (Gives (Val (.bool true)) w) := by
  have hs0 := s0.toNat_lt
  refine enter (args := [_, _, _, _, _]) Tryz.func8 Tryz.ntmps8 rfl rfl ?_
  obtain ⟨N, hN⟩ : ∃ N, N = 1 + s0.toNat % 40 := ⟨_, rfl⟩
  have hN1 : 1 ≤ N := by omega
  have hN2 : N ≤ 40 := by omega
  (repeat (first | refine WL.step (Yl.move rfl) rfl ?_ | refine WL.step (Yl.assign rfl) rfl ?_ | (refine WL.k_bin .rem ?_; refine WL.step (Yl.remN (m := s0.toNat) (n := 40) rfl rfl (by decide)) rfl ?_) | (refine WL.k_conv ?_; refine WL.step (Yl.conv64 (m := s0.toNat % 40) Tryz.underlying5 Tryz.underlying3 rfl (by omega)) rfl ?_) | (refine WL.k_bin .add ?_; refine WL.step (Yl.addC64 (m := s0.toNat % 40) rfl (by omega)) rfl ?_) | refine WC.seq ?_ | refine WC.region ?_ | refine WL.nil ?_ | refine WN.then_normal ?_))
  rw [← hN]
  refine WL.call (g := 11) Tryz.call11 rfl (fun w0 st2 => dnew_c N w0 (by omega) (by omega)) rfl fun v1 B1 hv1 => ?_
  obtain ⟨dp, d0, d0ok, hd0, rfl, rfl⟩ := hv1
  have hd0 : d0.v = zeroV (N) := hd0
  (repeat (first | refine WL.step (Yl.move rfl) rfl ?_ | refine WL.step (Yl.assign rfl) rfl ?_ | refine WL.step (Yl.extract rfl rfl) rfl ?_ | refine WC.seq ?_ | refine WC.region ?_ | refine WL.nil ?_ | refine WN.then_normal ?_))
  refine WL.call (g := 24) Tryz.call24 rfl (fun w0 st2 => enew_c N w0 (by omega) (by omega)) rfl fun v1 B1 hv1 => ?_
  obtain ⟨rp, r0, ZR, r0ok, hr0, rfl, rfl, hir⟩ := hv1
  refine WL.part (Part.perm (show List.Perm _ (drI dp d0 ++ (rdI rp r0 ++ ZR)) from zP)) ?_
  have hr0 : r0.v = zeroV N := hr0
  (repeat (first | refine WL.want rfl rfl rfl ?_ | refine WL.step (Yl.move rfl) rfl ?_ | refine WL.step (Yl.assign rfl) rfl ?_ | refine WL.step (Yl.extract rfl rfl) rfl ?_ | refine WL.step (Yl.pick_f rfl rfl rfl) rfl ?_ | refine WL.step (Yl.neqF rfl rfl rfl) rfl ?_ | refine WC.seq ?_ | refine WC.region ?_ | refine WL.nil ?_ | refine WN.then_normal ?_))
  refine WC.cond_false rfl rfl ?_
  have hz0 : (zeroV N).d.length = N := List.length_replicate
  (repeat (first | refine WC.seq ?_ | refine WC.region ?_ | refine WN.then_normal ?_ | refine WC.skip ?_))
  refine WL.lit (t := 61) (vs := [.int .i64 0]) Tryz.underlying61 elemZ rfl rfl rfl (fun u hu => by simp at hu; subst hu; rfl) rfl fun b15 => ?_
  rw [show flat [Value.int .i64 0] = zcells [0] from rfl]
  (repeat (first | refine WL.step (Yl.build (ps := [(1, .tmp 47)]) (vs := [(1, .slice (some ⟨b15, 0, none⟩) 1 1)]) rfl (buildPl1 _ _ _)) rfl ?_))
  refine WL.allocA Tryz.zeroValue63 rfl fun b16 => ?_
  refine WL.storeWhole (T := 63) (k := 2) Tryz.sizeOf63 rfl rfl rfl .here rfl rfl ?_
  cases dn with
  | true =>
    (repeat (first | refine WL.want rfl rfl rfl ?_ | refine WL.step (Yl.move rfl) rfl ?_ | (refine WL.k_load ?_; refine WL.step (Yl.loadAll (T := 63) (T' := 63) Tryz.isAgg63 Tryz.sizeOf63 rfl zH rfl) rfl ?_) | refine WC.seq ?_ | refine WC.region ?_ | refine WL.nil ?_ | refine WN.then_normal ?_))
    have hp : List.Perm (HA.blk b16 (.cells #[.int .i64 0, .slice (some ⟨b15, 0, none⟩) 1 1] 63 (0, 0)) :: HA.row (some ⟨b15, 0, none⟩) 1 3 1 (zcells [0]) :: (drI dp d0 ++ (rdI rp r0 ++ ZR))) ((drI dp d0) ++ (HA.blk b16 (.cells #[.int .i64 0, .slice (some ⟨b15, 0, none⟩) 1 1] 63 (0, 0)) :: HA.row (some ⟨b15, 0, none⟩) 1 3 1 (zcells [0]) :: (rdI rp r0 ++ ZR))) := zP
    refine WL.callS (g := 48) (vs := [bptr dp.bd, .agg #[.int .i64 0, .slice (some ⟨b15, 0, none⟩) 1 1]]) (R := DrV dp ((zeroV N).crash [0]) 0) Tryz.call48 rfl hp (fun w0 st2 st1 => by have := darm_v (p := dp) 0 (some ⟨b15, 0, none⟩) 1 1 [0] w0 d0ok hd0 rfl (by decide) (row_out st2 hp (show HA.row (some ⟨b15, 0, none⟩) 1 3 1 (zcells [0]) ∈ _ by simp only [List.mem_cons, List.mem_append, true_or, or_true])) st1; rw [arm_zero rfl (by decide)] at this; exact this) rfl fun v C hv => ?_
    clear hp
    obtain ⟨rfl, d1, d1ok, hd1, rfl⟩ := hv
    refine WL.part (Part.perm (show List.Perm _ (HA.blk b16 (.cells #[.int .i64 0, .slice (some ⟨b15, 0, none⟩) 1 1] 63 (0, 0)) :: HA.row (some ⟨b15, 0, none⟩) 1 3 1 (zcells [0]) :: (drI dp d1 ++ (rdI rp r0 ++ ZR))) from zP)) ?_
    (repeat (first | refine WL.want rfl rfl rfl ?_ | refine WL.step (Yl.move rfl) rfl ?_ | (refine WL.k_load ?_; refine WL.step (Yl.loadAll (T := 63) (T' := 63) Tryz.isAgg63 Tryz.sizeOf63 rfl zH rfl) rfl ?_) | refine WL.step (Yl.neqF rfl rfl rfl) rfl ?_))
    have hp : List.Perm (HA.blk b16 (.cells #[.int .i64 0, .slice (some ⟨b15, 0, none⟩) 1 1] 63 (0, 0)) :: HA.row (some ⟨b15, 0, none⟩) 1 3 1 (zcells [0]) :: (drI dp d1 ++ (rdI rp r0 ++ ZR))) ((rdI rp r0) ++ (HA.blk b16 (.cells #[.int .i64 0, .slice (some ⟨b15, 0, none⟩) 1 1] 63 (0, 0)) :: HA.row (some ⟨b15, 0, none⟩) 1 3 1 (zcells [0]) :: (drI dp d1 ++ ZR))) := zP
    refine WL.callS (g := 49) (vs := [bptr rp.bd, .agg #[.int .i64 0, .slice (some ⟨b15, 0, none⟩) 1 1]]) (R := EdV rp r0 ((zeroV N).crash [0]) 0) Tryz.call49 rfl hp (fun w0 st2 st1 => by have := earm_r (p := rp) 0 (some ⟨b15, 0, none⟩) 1 1 [0] r0 w0 r0ok (fun y hy => ⟨(hir y hy).le, inf_out (hir y hy) zM st2 hp⟩) rfl (by decide) (row_out st2 hp (show HA.row (some ⟨b15, 0, none⟩) 1 3 1 (zcells [0]) ∈ _ by simp only [List.mem_cons, List.mem_append, true_or, or_true])) st1; rw [hr0, arm_zero rfl (by decide)] at this; exact this) rfl fun v C hv => ?_
    clear hp
    obtain ⟨rfl, r1, ZR2, r1ok, hr1, rfl, hio⟩ := hv
    refine WL.part (Part.perm (show List.Perm _ (HA.blk b16 (.cells #[.int .i64 0, .slice (some ⟨b15, 0, none⟩) 1 1] 63 (0, 0)) :: HA.row (some ⟨b15, 0, none⟩) 1 3 1 (zcells [0]) :: (drI dp d1 ++ (rdI rp r1 ++ (ZR ++ ZR2)))) from zP)) ?_
    (repeat (first | refine WL.want rfl rfl rfl ?_ | (refine WL.k_pick ?_; first | refine WL.step (Yl.pick_t rfl rfl rfl) rfl ?_ | refine WL.step (Yl.pick_f rfl rfl rfl) rfl ?_) | refine WL.step (Yl.neqF rfl rfl rfl) rfl ?_ | refine WL.nil ?_ | refine WN.then_normal ?_))
    refine WC.cond_false rfl rfl ?_
    obtain ⟨ZX, hZX⟩ : ∃ l, l = ZR2 ++ ZR := ⟨_, rfl⟩
    have hir1 : ∀ y ∈ r1.os ++ r1.fs, InF ZX y := fun y hy => by
      rw [hZX]
      rcases hio y hy with h9 | h9
      · exact (hir y h9).mono fun x h => List.mem_append_right _ h
      · exact h9.mono fun x h => List.mem_append_left _ h
    have hvl : ((zeroV N).crash [0]).d.length = N := by
      have hwz : BkWf (zeroV N).d (zeroV N).F := by rw [← hd0]; exact wf_v d0ok
      exact (crash_wf [0] hwz).2.trans hz0
    refine WC.part (B := HA.blk b16 (.cells #[.int .i64 0, .slice (some ⟨b15, 0, none⟩) 1 1] 63 (0, 0)) :: HA.row (some ⟨b15, 0, none⟩) 1 3 1 (zcells [0]) :: (drI dp d1 ++ (rdI rp r1 ++ (ZR2 ++ ZR)))) (part_to (D := []) zP) ?_
    rw [← hZX]
    (repeat (first | refine WL.step (Yl.move rfl) rfl ?_ | refine WC.seq ?_ | refine WC.region ?_ | refine WN.then_normal ?_ | refine WC.skip ?_))
    have hdl : d1.d.length = N := by have := congrArg (fun v : DV => v.d.length) hd1; exact this.trans hvl
    have hrl : r1.d.length = N := by have := congrArg (fun v : DV => v.d.length) hr1; exact this.trans hvl
    by_cases hE : newE N fi mm ee = 0
    · obtain ⟨hep, first, n, rfl, rfl, hn1, hrow⟩ := newE_zero (by omega) hE
      skip
      refine WL.call (g := 12) Tryz.call12 rfl (fun w0 st2 => jnew_v first n ee w0 (d1ok.at_ st2 zM) rfl hep hn1 (by show _ ≤ d1.d.length; omega)) rfl fun v1 B1 hv1 => ?_
      obtain ⟨p, s, sok, hs, rfl, rfl⟩ := hv1
      (repeat (first | refine WL.step (Yl.move rfl) rfl ?_ | refine WL.step (Yl.assign rfl) rfl ?_ | refine WL.step (Yl.extract rfl rfl) rfl ?_ | refine WC.seq ?_ | refine WC.region ?_ | refine WL.nil ?_ | refine WN.then_normal ?_))
      refine WL.call (g := 25) Tryz.call25 rfl (fun w0 st2 => knew_c w0 (r1ok.at_ (p := rp) (Z := ZX) st2 zM zM hir1) hep hn1 (by omega)) rfl fun v1 B1 hv1 => ?_
      obtain ⟨kb, rfl, rfl⟩ := hv1
      (repeat (first | refine WL.step (Yl.move rfl) rfl ?_ | refine WL.step (Yl.assign rfl) rfl ?_ | refine WL.step (Yl.extract rfl rfl) rfl ?_ | refine WC.seq ?_ | refine WC.region ?_ | refine WL.nil ?_ | refine WN.then_normal ?_))
      refine WL.callV (g := 18) (v := .tuple #[.pointer none, .int .i64 11]) Tryz.call18 rfl (fun w0 st2 => jscan_dn first n ee w0 (d1ok.at_ st2 zM) (by omega) hep hn1 (by omega) (by have := congrArg DV.down hd1; exact this)) rfl ?_
      (repeat (first | refine WL.step (Yl.move rfl) rfl ?_ | refine WL.step (Yl.assign rfl) rfl ?_ | refine WL.step (Yl.extract rfl rfl) rfl ?_ | refine WC.seq ?_ | refine WC.region ?_ | refine WL.nil ?_ | refine WN.then_normal ?_))
      refine WL.callV (g := 50) (v := .tuple #[.pointer none, .int .i64 11]) Tryz.call50 rfl (fun w0 st2 => kscan_dn first n ee w0 (r1ok.at_ (p := rp) (Z := ZX) st2 zM zM hir1) (by have := congrArg DV.down hr1; exact this) hep hn1 (by omega)) rfl ?_
      (repeat (first | refine WL.want rfl rfl rfl ?_ | refine WL.step (Yl.move rfl) rfl ?_ | refine WL.step (Yl.assign rfl) rfl ?_ | refine WL.step (Yl.extract rfl rfl) rfl ?_ | refine WL.step (Yl.pick_f rfl rfl rfl) rfl ?_ | (refine WL.k_bin .eql ?_; refine WL.step (Yl.eqlPN (by kernel_rfl) rfl) rfl ?_) | (refine WL.k_bin .neq ?_; first | refine WL.step (Yl.neqF rfl rfl rfl) rfl ?_ | refine WL.step (Yl.neqT rfl rfl (by decide)) rfl ?_ | refine WL.step (Yl.neqB (t := 4) (p := true) (q := true) Tryz.underlying4 rfl rfl) rfl ?_ | refine WL.step (Yl.neqB (t := 4) (p := false) (q := false) Tryz.underlying4 rfl rfl) rfl ?_) | refine WC.seq ?_ | refine WC.region ?_ | refine WL.nil ?_ | refine WN.then_normal ?_))
      refine WL.callV (g := 36) (v := .int .i64 0) Tryz.call36 rfl (fun w0 st2 => jused_bad _ w0 .none) rfl ?_
      (repeat (first | refine WL.want rfl rfl rfl ?_ | refine WL.step (Yl.move rfl) rfl ?_))
      refine WL.callV (g := 51) (v := .int .i64 0) Tryz.call51 rfl (fun w0 st2 => kused_nil w0) rfl ?_
      (repeat (first | refine WL.want rfl rfl rfl ?_ | refine WL.step (Yl.pick_f rfl rfl rfl) rfl ?_ | refine WL.step (Yl.neqF rfl rfl rfl) rfl ?_ | refine WL.nil ?_ | refine WN.then_normal ?_))
      refine WC.cond_false rfl rfl ?_
      (repeat (first | refine WL.step (Yl.move rfl) rfl ?_ | (refine WL.k_bin .quo ?_; refine WL.step (Yl.quo64C (m := N) rfl (by omega) (by decide)) rfl ?_) | refine WL.step (Yl.max2N (m := N / 2) (n := 1) rfl rfl) rfl ?_ | refine WC.seq ?_ | refine WC.region ?_ | refine WN.then_normal ?_ | refine WC.skip ?_))
      refine WL.call (g := 11) Tryz.call11 rfl (fun w0 st2 => dnew_c (max (N / 2) 1) w0 (by omega) (by omega)) rfl fun v1 B1 hv1 => ?_
      obtain ⟨dp2, e2, e2ok, he2, rfl, rfl⟩ := hv1
      have he2 : e2.v = zeroV (max (N / 2) 1) := he2
      have he2l : e2.d.length = max (N / 2) 1 := by have := congrArg (fun v : DV => v.d.length) he2; exact this.trans List.length_replicate
      (repeat (first | refine WL.step (Yl.move rfl) rfl ?_ | refine WL.step (Yl.assign rfl) rfl ?_ | refine WL.step (Yl.extract rfl rfl) rfl ?_ | (refine WL.k_bin .quo ?_; refine WL.step (Yl.quo64C (m := N) rfl (by omega) (by decide)) rfl ?_) | refine WL.step (Yl.max2N (m := N / 2) (n := 1) rfl rfl) rfl ?_ | refine WC.seq ?_ | refine WC.region ?_ | refine WL.nil ?_ | refine WN.then_normal ?_))
      refine WL.call (g := 24) Tryz.call24 rfl (fun w0 st2 => enew_c (max (N / 2) 1) w0 (by omega) (by omega)) rfl fun v1 B1 hv1 => ?_
      obtain ⟨rp2, f2, ZR2, f2ok, hf2, rfl, rfl, hf2i⟩ := hv1
      refine WL.part (Part.perm (show List.Perm _ (drI dp2 e2 ++ (kI rp.bd kb first n ee ⟨none, 0, []⟩ ++ (jI dp.bd p s ++ (HA.blk b16 (.cells #[.int .i64 0, .slice (some ⟨b15, 0, none⟩) 1 1] 63 (0, 0)) :: HA.row (some ⟨b15, 0, none⟩) 1 3 1 (zcells [0]) :: (drI dp d1 ++ (rdI rp r1 ++ (ZX ++ (rdI rp2 f2 ++ ZR2)))))))) from zP)) ?_
      have hf2 : f2.v = zeroV (max (N / 2) 1) := hf2
      have hf2l : f2.d.length = max (N / 2) 1 := by have := congrArg (fun v : DV => v.d.length) hf2; exact this.trans List.length_replicate
      (repeat (first | refine WL.want rfl rfl rfl ?_ | refine WL.step (Yl.move rfl) rfl ?_ | refine WL.step (Yl.assign rfl) rfl ?_ | refine WL.step (Yl.extract rfl rfl) rfl ?_ | refine WL.step (Yl.pick_f rfl rfl rfl) rfl ?_ | refine WL.step (Yl.neqF rfl rfl rfl) rfl ?_ | refine WC.seq ?_ | refine WC.region ?_ | refine WL.nil ?_ | refine WN.then_normal ?_))
      refine WC.cond_false rfl rfl ?_
      (repeat (first | refine WL.step (Yl.move rfl) rfl ?_ | refine WC.seq ?_ | refine WC.region ?_ | refine WN.then_normal ?_ | refine WC.skip ?_))
      by_cases hO : max (N / 2) 1 < first + n
      · refine WL.callV (g := 20) (v := .tuple #[.pointer none, .int .i64 3]) Tryz.call20 rfl (fun w0 st2 => jon_e (dp := dp) (dp2 := dp2) w0 (sok.at_ (p := p) (bd := dp.bd) st2 zM) (e2ok.at_ st2 zM) (by rw [hs, onE, if_pos (by rw [he2l]; show max (N / 2) 1 < first ∨ max (N / 2) 1 - first < n; omega)]; decide)) rfl ?_
        (repeat (first | refine WL.step (Yl.move rfl) rfl ?_ | refine WL.step (Yl.assign rfl) rfl ?_ | refine WL.step (Yl.extract rfl rfl) rfl ?_ | refine WC.seq ?_ | refine WC.region ?_ | refine WL.nil ?_ | refine WN.then_normal ?_))
        refine WL.callV (g := 52) (v := .tuple #[.pointer none, .int .i64 3]) Tryz.call52 rfl (fun w0 st2 => kon_e (first := first) (n := n) (ep := ee) (s := ⟨none, 0, []⟩) (rb := rp.bd) w0 (KIn.at_ (s := ⟨none, 0, []⟩) ⟨fun _ h => (by cases h), fun _ h => (by cases h)⟩ st2 zM) (f2ok.at_ (p := rp2) (Z := ZR2) st2 zM zM hf2i) (by omega) (by omega)) rfl ?_
        (repeat (first | refine WL.want rfl rfl rfl ?_ | refine WL.step (Yl.move rfl) rfl ?_ | refine WL.step (Yl.assign rfl) rfl ?_ | refine WL.step (Yl.extract rfl rfl) rfl ?_ | refine WL.step (Yl.pick_t rfl rfl rfl) rfl ?_ | (refine WL.k_bin .eql ?_; first | refine WL.step (Yl.eqlPN (by kernel_rfl) rfl) rfl ?_ | refine WL.step (Yl.eqlT rfl rfl rfl) rfl ?_ | refine WL.step (Yl.eqlBT (t := 4) (p := true) (q := true) Tryz.underlying4 rfl rfl rfl) rfl ?_) | refine WC.seq ?_ | refine WC.region ?_ | refine WL.nil ?_ | refine WN.then_normal ?_))
        refine WL.callV (g := 23) (v := .bool true) Tryz.call23 rfl (fun w0 st2 => works35_c w0 (hT.keep st2.kept)) rfl ?_
        (repeat (first | refine WL.step (Yl.assign rfl) rfl ?_ | refine WL.step (Yl.pick_t rfl rfl rfl) rfl ?_ | refine WL.nil ?_ | refine WN.then_normal ?_ | refine WC.ret ?_))
        exact WN.ret1 rfl rfl ⟨rfl, rfl⟩ .nil
      · refine WL.call (g := 20) Tryz.call20 rfl (fun w0 st2 => jon_c (dp := dp) (dp2 := dp2) w0 (sok.at_ (p := p) (bd := dp.bd) st2 zM) (e2ok.at_ st2 zM) (by rw [hs, onE, if_neg (by rw [he2l]; show ¬ (max (N / 2) 1 < first ∨ max (N / 2) 1 - first < n); omega)])) rfl fun v1 B1 hv1 => ?_
        obtain ⟨p5, s5, s5ok, hs5, rfl, rfl⟩ := hv1
        (repeat (first | refine WL.step (Yl.move rfl) rfl ?_ | refine WL.step (Yl.assign rfl) rfl ?_ | refine WL.step (Yl.extract rfl rfl) rfl ?_ | refine WC.seq ?_ | refine WC.region ?_ | refine WL.nil ?_ | refine WN.then_normal ?_))
        refine WL.call (g := 52) Tryz.call52 rfl (fun w0 st2 => kon_c (first := first) (n := n) (ep := ee) (s := ⟨none, 0, []⟩) (rb := rp.bd) w0 (KIn.at_ (s := ⟨none, 0, []⟩) ⟨fun _ h => (by cases h), fun _ h => (by cases h)⟩ st2 zM) (f2ok.at_ (p := rp2) (Z := ZR2) st2 zM zM hf2i) (Nat.zero_le _) (by omega)) rfl fun v1 B1 hv1 => ?_
        obtain ⟨kb5, s6, rfl, hs6, hs6l, rfl⟩ := hv1
        (repeat (first | refine WL.want rfl rfl rfl ?_ | refine WL.step (Yl.move rfl) rfl ?_ | refine WL.step (Yl.assign rfl) rfl ?_ | refine WL.step (Yl.extract rfl rfl) rfl ?_ | refine WL.step (Yl.pick_t rfl rfl rfl) rfl ?_ | (refine WL.k_bin .eql ?_; first | refine WL.step (Yl.eqlPN (by kernel_rfl) rfl) rfl ?_ | refine WL.step (Yl.eqlT rfl rfl rfl) rfl ?_ | refine WL.step (Yl.eqlBT (t := 4) (p := false) (q := false) Tryz.underlying4 rfl rfl rfl) rfl ?_) | refine WC.seq ?_ | refine WC.region ?_ | refine WL.nil ?_ | refine WN.then_normal ?_))
        refine WL.callV (g := 23) (v := .bool true) Tryz.call23 rfl (fun w0 st2 => works35_c w0 (hT.keep st2.kept)) rfl ?_
        (repeat (first | refine WL.step (Yl.assign rfl) rfl ?_ | refine WL.step (Yl.pick_t rfl rfl rfl) rfl ?_ | refine WL.nil ?_ | refine WN.then_normal ?_ | refine WC.ret ?_))
        exact WN.ret1 rfl rfl ⟨rfl, rfl⟩ .nil
    · obtain ⟨kk, hkk⟩ : ∃ k : Nat, newE N fi mm ee = k := ⟨_, rfl⟩
      have hk0 : kk ≠ 0 := by rw [← hkk]; exact hE
      skip
      refine WL.callV (g := 12) (v := .tuple #[.pointer none, .int .i64 (kk : Int)]) Tryz.call12 rfl (fun w0 st2 => jnew_ve fi mm ee kk w0 (d1ok.at_ st2 zM) rfl (by show newE d1.d.length fi mm ee = kk; rw [hdl]; exact hkk) hk0) rfl ?_
      (repeat (first | refine WL.step (Yl.move rfl) rfl ?_ | refine WL.step (Yl.assign rfl) rfl ?_ | refine WL.step (Yl.extract rfl rfl) rfl ?_ | refine WC.seq ?_ | refine WC.region ?_ | refine WL.nil ?_ | refine WN.then_normal ?_))
      refine WL.callV (g := 25) (v := .tuple #[.pointer none, .int .i64 (kk : Int)]) Tryz.call25 rfl (fun w0 st2 => by have := knew_e fi mm ee w0 (r1ok.at_ (p := rp) (Z := ZX) st2 zM zM hir1) (by rw [hrl]; omega); rwa [hrl, hkk] at this) rfl ?_
      (repeat (first | refine WL.step (Yl.move rfl) rfl ?_ | refine WL.step (Yl.assign rfl) rfl ?_ | refine WL.step (Yl.extract rfl rfl) rfl ?_ | refine WC.seq ?_ | refine WC.region ?_ | refine WL.nil ?_ | refine WN.then_normal ?_))
      refine WL.callV (g := 18) (v := .tuple #[.pointer none, .int .i64 (kk : Int)]) Tryz.call18 rfl (fun w0 st2 => by have := jscan_e (dp := dp) (ds := d1) fi mm ee w0 (d1ok.at_ st2 zM) (by rw [hdl]; omega) (by rw [hdl]; omega); rwa [hdl, hkk] at this) rfl ?_
      (repeat (first | refine WL.step (Yl.move rfl) rfl ?_ | refine WL.step (Yl.assign rfl) rfl ?_ | refine WL.step (Yl.extract rfl rfl) rfl ?_ | refine WC.seq ?_ | refine WC.region ?_ | refine WL.nil ?_ | refine WN.then_normal ?_))
      refine WL.callV (g := 50) (v := .tuple #[.pointer none, .int .i64 (kk : Int)]) Tryz.call50 rfl (fun w0 st2 => by have := kscan_e (bptr rp.bd) fi mm ee w0 rfl (r1ok.at_ (p := rp) (Z := ZX) st2 zM zM hir1) (by rw [hrl]; omega); rwa [hrl, hkk] at this) rfl ?_
      (repeat (first | refine WL.want rfl rfl rfl ?_ | refine WL.step (Yl.move rfl) rfl ?_ | refine WL.step (Yl.assign rfl) rfl ?_ | refine WL.step (Yl.extract rfl rfl) rfl ?_ | refine WL.step (Yl.pick_f rfl rfl rfl) rfl ?_ | (refine WL.k_bin .eql ?_; refine WL.step (Yl.eqlPN (by kernel_rfl) rfl) rfl ?_) | (refine WL.k_bin .neq ?_; first | refine WL.step (Yl.neqF (m := (kk : Int)) (n := (kk : Int)) rfl rfl rfl) rfl ?_ | refine WL.step (Yl.neqT (m := (kk : Int)) (n := 0) rfl rfl (by omega)) rfl ?_ | refine WL.step (Yl.neqB (t := 4) (p := true) (q := true) Tryz.underlying4 rfl rfl) rfl ?_) | refine WC.seq ?_ | refine WC.region ?_ | refine WL.nil ?_ | refine WN.then_normal ?_))
      refine WL.callV (g := 36) (v := .int .i64 0) Tryz.call36 rfl (fun w0 st2 => jused_bad _ w0 .none) rfl ?_
      (repeat (first | refine WL.want rfl rfl rfl ?_ | refine WL.step (Yl.move rfl) rfl ?_))
      refine WL.callV (g := 51) (v := .int .i64 0) Tryz.call51 rfl (fun w0 st2 => kused_nil w0) rfl ?_
      (repeat (first | refine WL.want rfl rfl rfl ?_ | refine WL.step (Yl.pick_f rfl rfl rfl) rfl ?_ | refine WL.step (Yl.neqF rfl rfl rfl) rfl ?_ | refine WL.nil ?_ | refine WN.then_normal ?_))
      refine WC.cond_false rfl rfl ?_
      (repeat (first | refine WL.step (Yl.move rfl) rfl ?_ | (refine WL.k_bin .quo ?_; refine WL.step (Yl.quo64C (m := N) rfl (by omega) (by decide)) rfl ?_) | refine WL.step (Yl.max2N (m := N / 2) (n := 1) rfl rfl) rfl ?_ | refine WC.seq ?_ | refine WC.region ?_ | refine WN.then_normal ?_ | refine WC.skip ?_))
      refine WL.call (g := 11) Tryz.call11 rfl (fun w0 st2 => dnew_c (max (N / 2) 1) w0 (by omega) (by omega)) rfl fun v1 B1 hv1 => ?_
      obtain ⟨dp2, e2, e2ok, he2, rfl, rfl⟩ := hv1
      have he2 : e2.v = zeroV (max (N / 2) 1) := he2
      have he2l : e2.d.length = max (N / 2) 1 := by have := congrArg (fun v : DV => v.d.length) he2; exact this.trans List.length_replicate
      (repeat (first | refine WL.step (Yl.move rfl) rfl ?_ | refine WL.step (Yl.assign rfl) rfl ?_ | refine WL.step (Yl.extract rfl rfl) rfl ?_ | (refine WL.k_bin .quo ?_; refine WL.step (Yl.quo64C (m := N) rfl (by omega) (by decide)) rfl ?_) | refine WL.step (Yl.max2N (m := N / 2) (n := 1) rfl rfl) rfl ?_ | refine WC.seq ?_ | refine WC.region ?_ | refine WL.nil ?_ | refine WN.then_normal ?_))
      refine WL.call (g := 24) Tryz.call24 rfl (fun w0 st2 => enew_c (max (N / 2) 1) w0 (by omega) (by omega)) rfl fun v1 B1 hv1 => ?_
      obtain ⟨rp2, f2, ZR2, f2ok, hf2, rfl, rfl, hf2i⟩ := hv1
      refine WL.part (Part.perm (show List.Perm _ (drI dp2 e2 ++ (HA.blk b16 (.cells #[.int .i64 0, .slice (some ⟨b15, 0, none⟩) 1 1] 63 (0, 0)) :: HA.row (some ⟨b15, 0, none⟩) 1 3 1 (zcells [0]) :: (drI dp d1 ++ (rdI rp r1 ++ (ZX ++ (rdI rp2 f2 ++ ZR2)))))) from zP)) ?_
      have hf2 : f2.v = zeroV (max (N / 2) 1) := hf2
      have hf2l : f2.d.length = max (N / 2) 1 := by have := congrArg (fun v : DV => v.d.length) hf2; exact this.trans List.length_replicate
      (repeat (first | refine WL.want rfl rfl rfl ?_ | refine WL.step (Yl.move rfl) rfl ?_ | refine WL.step (Yl.assign rfl) rfl ?_ | refine WL.step (Yl.extract rfl rfl) rfl ?_ | refine WL.step (Yl.pick_f rfl rfl rfl) rfl ?_ | refine WL.step (Yl.neqF rfl rfl rfl) rfl ?_ | refine WC.seq ?_ | refine WC.region ?_ | refine WL.nil ?_ | refine WN.then_normal ?_))
      refine WC.cond_false rfl rfl ?_
      (repeat (first | refine WL.step (Yl.move rfl) rfl ?_ | refine WC.seq ?_ | refine WC.region ?_ | refine WN.then_normal ?_ | refine WC.skip ?_))
      refine WL.callV (g := 20) (v := .tuple #[.pointer none, .int .i64 1]) Tryz.call20 rfl (fun w0 st2 => jon_bad _ (bptr dp2.bd) ⟨_, rfl⟩ w0 .none) rfl ?_
      (repeat (first | refine WL.step (Yl.move rfl) rfl ?_ | refine WL.step (Yl.assign rfl) rfl ?_ | refine WL.step (Yl.extract rfl rfl) rfl ?_ | refine WC.seq ?_ | refine WC.region ?_ | refine WL.nil ?_ | refine WN.then_normal ?_))
      refine WL.callV (g := 52) (v := .tuple #[.pointer none, .int .i64 1]) Tryz.call52 rfl (fun w0 st2 => kon_nil (bptr rp2.bd) ⟨_, rfl⟩ w0) rfl ?_
      (repeat (first | refine WL.want rfl rfl rfl ?_ | refine WL.step (Yl.move rfl) rfl ?_ | refine WL.step (Yl.assign rfl) rfl ?_ | refine WL.step (Yl.extract rfl rfl) rfl ?_ | refine WL.step (Yl.pick_t rfl rfl rfl) rfl ?_ | (refine WL.k_bin .eql ?_; first | refine WL.step (Yl.eqlPN (by kernel_rfl) rfl) rfl ?_ | refine WL.step (Yl.eqlT rfl rfl rfl) rfl ?_ | refine WL.step (Yl.eqlBT (t := 4) (p := true) (q := true) Tryz.underlying4 rfl rfl rfl) rfl ?_) | refine WC.seq ?_ | refine WC.region ?_ | refine WL.nil ?_ | refine WN.then_normal ?_))
      refine WL.callV (g := 23) (v := .bool true) Tryz.call23 rfl (fun w0 st2 => works35_c w0 (hT.keep st2.kept)) rfl ?_
      (repeat (first | refine WL.step (Yl.assign rfl) rfl ?_ | refine WL.step (Yl.pick_t rfl rfl rfl) rfl ?_ | refine WL.nil ?_ | refine WN.then_normal ?_ | refine WC.ret ?_))
      exact WN.ret1 rfl rfl ⟨rfl, rfl⟩ .nil
  | false =>
    (repeat (first | (refine WL.kG ?_; first | refine WL.passU rfl rfl rfl ?_ | refine WL.pass rfl rfl rfl rfl ?_) | refine WL.step (Yl.move rfl) rfl ?_ | refine WL.step (Yl.pick_f rfl rfl rfl) rfl ?_ | refine WC.seq ?_ | refine WC.region ?_ | refine WL.nil ?_ | refine WN.then_normal ?_))
    refine WC.cond_false rfl rfl ?_
    have hir0 := hir
    have hvl := hz0
    (repeat (first | refine WL.step (Yl.move rfl) rfl ?_ | refine WC.seq ?_ | refine WC.region ?_ | refine WN.then_normal ?_ | refine WC.skip ?_))
    have hdl : d0.d.length = N := by have := congrArg (fun v : DV => v.d.length) hd0; exact this.trans hvl
    have hrl : r0.d.length = N := by have := congrArg (fun v : DV => v.d.length) hr0; exact this.trans hvl
    by_cases hE : newE N fi mm ee = 0
    · obtain ⟨hep, first, n, rfl, rfl, hn1, hrow⟩ := newE_zero (by omega) hE
      skip
      refine WL.call (g := 12) Tryz.call12 rfl (fun w0 st2 => jnew_v first n ee w0 (d0ok.at_ st2 zM) rfl hep hn1 (by show _ ≤ d0.d.length; omega)) rfl fun v1 B1 hv1 => ?_
      obtain ⟨p, s, sok, hs, rfl, rfl⟩ := hv1
      (repeat (first | refine WL.step (Yl.move rfl) rfl ?_ | refine WL.step (Yl.assign rfl) rfl ?_ | refine WL.step (Yl.extract rfl rfl) rfl ?_ | refine WC.seq ?_ | refine WC.region ?_ | refine WL.nil ?_ | refine WN.then_normal ?_))
      refine WL.call (g := 25) Tryz.call25 rfl (fun w0 st2 => knew_c w0 (r0ok.at_ (p := rp) (Z := ZR) st2 zM zM hir0) hep hn1 (by omega)) rfl fun v1 B1 hv1 => ?_
      obtain ⟨kb, rfl, rfl⟩ := hv1
      (repeat (first | refine WL.step (Yl.move rfl) rfl ?_ | refine WL.step (Yl.assign rfl) rfl ?_ | refine WL.step (Yl.extract rfl rfl) rfl ?_ | refine WC.seq ?_ | refine WC.region ?_ | refine WL.nil ?_ | refine WN.then_normal ?_))
      have hcl : Clean (zeroV N) first n ee 0 := zeroV_clean hep hrow
      have hwz : BkWf (zeroV N).d (zeroV N).F := by rw [← hd0]; exact wf_v d0ok
      have hsc := fresh_scan hwz (by rw [hz0]; exact hrow) hcl
      have hp : List.Perm (kI rp.bd kb first n ee ⟨none, 0, []⟩ ++ (jI dp.bd p s ++ (HA.blk b16 (.cells #[.int .i64 0, .slice (some ⟨b15, 0, none⟩) 1 1] 63 (0, 0)) :: HA.row (some ⟨b15, 0, none⟩) 1 3 1 (zcells [0]) :: (drI dp d0 ++ (rdI rp r0 ++ ZR))))) ((drI dp d0) ++ (kI rp.bd kb first n ee ⟨none, 0, []⟩ ++ (jI dp.bd p s ++ (HA.blk b16 (.cells #[.int .i64 0, .slice (some ⟨b15, 0, none⟩) 1 1] 63 (0, 0)) :: HA.row (some ⟨b15, 0, none⟩) 1 3 1 (zcells [0]) :: (rdI rp r0 ++ ZR))))) := zP
      refine WL.callS (g := 18) (vs := [bptr dp.bd, .int .i64 (first : Int), .int .i64 (n : Int), .int .i64 ee]) (R := JScanK dp (zeroV N) ⟨first, n, ee, 0, 0, noG⟩) Tryz.call18 rfl hp (fun w0 st2 st1 => jscan_v first n ee SS.start w0 d0ok hd0 hep hn1 (by rw [hz0]; exact hrow) rfl (by show (0 : Nat) < _; omega) hsc (old_out st2 hp hT.o) st1) rfl fun v C hv => ?_
      clear hp
      obtain ⟨p2, s2, d2, m2, rfl, s2ok, hs2, d2ok, hd2, hm2, rfl⟩ := hv
      refine WL.part (Part.perm (show List.Perm _ (kI rp.bd kb first n ee ⟨none, 0, []⟩ ++ (jI dp.bd p s ++ (HA.blk b16 (.cells #[.int .i64 0, .slice (some ⟨b15, 0, none⟩) 1 1] 63 (0, 0)) :: HA.row (some ⟨b15, 0, none⟩) 1 3 1 (zcells [0]) :: (drI dp d2 ++ (rdI rp r0 ++ (ZR ++ jI dp.bd p2 s2)))))) from zP)) ?_
      (repeat (first | refine WL.step (Yl.move rfl) rfl ?_ | refine WL.step (Yl.assign rfl) rfl ?_ | refine WL.step (Yl.extract rfl rfl) rfl ?_ | refine WC.seq ?_ | refine WC.region ?_ | refine WL.nil ?_ | refine WN.then_normal ?_))
      have hp : List.Perm (kI rp.bd kb first n ee ⟨none, 0, []⟩ ++ (jI dp.bd p s ++ (HA.blk b16 (.cells #[.int .i64 0, .slice (some ⟨b15, 0, none⟩) 1 1] 63 (0, 0)) :: HA.row (some ⟨b15, 0, none⟩) 1 3 1 (zcells [0]) :: (drI dp d2 ++ (rdI rp r0 ++ (ZR ++ jI dp.bd p2 s2)))))) ((rdI rp r0) ++ (kI rp.bd kb first n ee ⟨none, 0, []⟩ ++ (jI dp.bd p s ++ (HA.blk b16 (.cells #[.int .i64 0, .slice (some ⟨b15, 0, none⟩) 1 1] 63 (0, 0)) :: HA.row (some ⟨b15, 0, none⟩) 1 3 1 (zcells [0]) :: (drI dp d2 ++ (ZR ++ jI dp.bd p2 s2)))))) := zP
      refine WL.callS (g := 50) (vs := [bptr rp.bd, .int .i64 (first : Int), .int .i64 (n : Int), .int .i64 ee]) (R := KScanV rp r0 first n ee SS.start) Tryz.call50 rfl hp (fun w0 st2 st1 => kscan_r (rp := rp) (rs := r0) first n ee SS.start w0 r0ok (fun y hy => ⟨(hir0 y hy).le, inf_out (hir0 y hy) zM st2 hp⟩) (by rw [hr0]; rfl) hep hn1 (by omega) (by rw [hr0]; show (0 : Nat) < _; omega) (by rw [hr0]; exact hsc) st1) rfl fun v C hv => ?_
      clear hp
      obtain ⟨kb2, s3, r3, m3, Z3, rfl, hr3, hm3, hki, hsl, hla, had, hus, rfl⟩ := hv
      refine WL.part (Part.perm (show List.Perm _ (kI rp.bd kb first n ee ⟨none, 0, []⟩ ++ (jI dp.bd p s ++ (HA.blk b16 (.cells #[.int .i64 0, .slice (some ⟨b15, 0, none⟩) 1 1] 63 (0, 0)) :: HA.row (some ⟨b15, 0, none⟩) 1 3 1 (zcells [0]) :: (drI dp d2 ++ (rdI rp r3 ++ (ZR ++ (jI dp.bd p2 s2 ++ (kI rp.bd kb2 first n ee s3 ++ Z3)))))))) from zP)) ?_
      have hu0 : usedT s3.Ts = 0 := by rw [← usedT_adds first n ee, had]; rfl
      (repeat (first | refine WL.want rfl rfl rfl ?_ | refine WL.step (Yl.move rfl) rfl ?_ | refine WL.step (Yl.assign rfl) rfl ?_ | refine WL.step (Yl.extract rfl rfl) rfl ?_ | refine WL.step (Yl.pick_f rfl rfl rfl) rfl ?_ | (refine WL.k_bin .eql ?_; refine WL.step (Yl.eqlPN (by kernel_rfl) rfl) rfl ?_) | (refine WL.k_bin .neq ?_; first | refine WL.step (Yl.neqF rfl rfl rfl) rfl ?_ | refine WL.step (Yl.neqB (t := 4) (p := false) (q := false) Tryz.underlying4 rfl rfl) rfl ?_) | refine WC.seq ?_ | refine WC.region ?_ | refine WL.nil ?_ | refine WN.then_normal ?_))
      refine WL.callV (g := 36) (v := .int .i64 ((0 : Nat) : Int)) Tryz.call36 rfl (fun w0 st2 => jused_v (dp := dp) 0 w0 (s2ok.at_ st2 zM) hs2 rfl) rfl ?_
      (repeat (first | refine WL.want rfl rfl rfl ?_ | refine WL.step (Yl.move rfl) rfl ?_))
      refine WL.callV (g := 51) (v := .int .i64 ((0 : Nat) : Int)) Tryz.call51 rfl (fun w0 st2 => by have := kused_c (rb := rp.bd) (kb := kb2) (first := first) (n := n) (ep := ee) (s := s3) w0 ((hki.mono zM).at_ st2 zM) (by omega); rwa [hu0] at this) rfl ?_
      (repeat (first | refine WL.want rfl rfl rfl ?_ | refine WL.step (Yl.pick_f rfl rfl rfl) rfl ?_ | refine WL.step (Yl.neqF rfl rfl rfl) rfl ?_ | refine WL.nil ?_ | refine WN.then_normal ?_))
      refine WC.cond_false rfl rfl ?_
      (repeat (first | refine WL.step (Yl.move rfl) rfl ?_ | (refine WL.k_bin .quo ?_; refine WL.step (Yl.quo64C (m := N) rfl (by omega) (by decide)) rfl ?_) | refine WL.step (Yl.max2N (m := N / 2) (n := 1) rfl rfl) rfl ?_ | refine WC.seq ?_ | refine WC.region ?_ | refine WN.then_normal ?_ | refine WC.skip ?_))
      refine WL.call (g := 11) Tryz.call11 rfl (fun w0 st2 => dnew_c (max (N / 2) 1) w0 (by omega) (by omega)) rfl fun v1 B1 hv1 => ?_
      obtain ⟨dp2, e2, e2ok, he2, rfl, rfl⟩ := hv1
      have he2 : e2.v = zeroV (max (N / 2) 1) := he2
      have he2l : e2.d.length = max (N / 2) 1 := by have := congrArg (fun v : DV => v.d.length) he2; exact this.trans List.length_replicate
      (repeat (first | refine WL.step (Yl.move rfl) rfl ?_ | refine WL.step (Yl.assign rfl) rfl ?_ | refine WL.step (Yl.extract rfl rfl) rfl ?_ | (refine WL.k_bin .quo ?_; refine WL.step (Yl.quo64C (m := N) rfl (by omega) (by decide)) rfl ?_) | refine WL.step (Yl.max2N (m := N / 2) (n := 1) rfl rfl) rfl ?_ | refine WC.seq ?_ | refine WC.region ?_ | refine WL.nil ?_ | refine WN.then_normal ?_))
      refine WL.call (g := 24) Tryz.call24 rfl (fun w0 st2 => enew_c (max (N / 2) 1) w0 (by omega) (by omega)) rfl fun v1 B1 hv1 => ?_
      obtain ⟨rp2, f2, ZR2, f2ok, hf2, rfl, rfl, hf2i⟩ := hv1
      refine WL.part (Part.perm (show List.Perm _ (drI dp2 e2 ++ (kI rp.bd kb first n ee ⟨none, 0, []⟩ ++ (jI dp.bd p s ++ (HA.blk b16 (.cells #[.int .i64 0, .slice (some ⟨b15, 0, none⟩) 1 1] 63 (0, 0)) :: HA.row (some ⟨b15, 0, none⟩) 1 3 1 (zcells [0]) :: (drI dp d2 ++ (rdI rp r3 ++ (ZR ++ (jI dp.bd p2 s2 ++ (kI rp.bd kb2 first n ee s3 ++ (Z3 ++ (rdI rp2 f2 ++ ZR2))))))))))) from zP)) ?_
      have hf2 : f2.v = zeroV (max (N / 2) 1) := hf2
      have hf2l : f2.d.length = max (N / 2) 1 := by have := congrArg (fun v : DV => v.d.length) hf2; exact this.trans List.length_replicate
      (repeat (first | refine WL.want rfl rfl rfl ?_ | refine WL.step (Yl.move rfl) rfl ?_ | refine WL.step (Yl.assign rfl) rfl ?_ | refine WL.step (Yl.extract rfl rfl) rfl ?_ | refine WL.step (Yl.pick_f rfl rfl rfl) rfl ?_ | refine WL.step (Yl.neqF rfl rfl rfl) rfl ?_ | refine WC.seq ?_ | refine WC.region ?_ | refine WL.nil ?_ | refine WN.then_normal ?_))
      refine WC.cond_false rfl rfl ?_
      (repeat (first | refine WL.step (Yl.move rfl) rfl ?_ | refine WC.seq ?_ | refine WC.region ?_ | refine WN.then_normal ?_ | refine WC.skip ?_))
      by_cases hO : max (N / 2) 1 < first + n
      · refine WL.callV (g := 20) (v := .tuple #[.pointer none, .int .i64 3]) Tryz.call20 rfl (fun w0 st2 => jon_e (dp := dp) (dp2 := dp2) w0 (sok.at_ (p := p) (bd := dp.bd) st2 zM) (e2ok.at_ st2 zM) (by rw [hs, onE, if_pos (by rw [he2l]; show max (N / 2) 1 < first ∨ max (N / 2) 1 - first < n; omega)]; decide)) rfl ?_
        (repeat (first | refine WL.step (Yl.move rfl) rfl ?_ | refine WL.step (Yl.assign rfl) rfl ?_ | refine WL.step (Yl.extract rfl rfl) rfl ?_ | refine WC.seq ?_ | refine WC.region ?_ | refine WL.nil ?_ | refine WN.then_normal ?_))
        refine WL.callV (g := 52) (v := .tuple #[.pointer none, .int .i64 3]) Tryz.call52 rfl (fun w0 st2 => kon_e (first := first) (n := n) (ep := ee) (s := ⟨none, 0, []⟩) (rb := rp.bd) w0 (KIn.at_ (s := ⟨none, 0, []⟩) ⟨fun _ h => (by cases h), fun _ h => (by cases h)⟩ st2 zM) (f2ok.at_ (p := rp2) (Z := ZR2) st2 zM zM hf2i) (by omega) (by omega)) rfl ?_
        (repeat (first | refine WL.want rfl rfl rfl ?_ | refine WL.step (Yl.move rfl) rfl ?_ | refine WL.step (Yl.assign rfl) rfl ?_ | refine WL.step (Yl.extract rfl rfl) rfl ?_ | refine WL.step (Yl.pick_t rfl rfl rfl) rfl ?_ | (refine WL.k_bin .eql ?_; first | refine WL.step (Yl.eqlPN (by kernel_rfl) rfl) rfl ?_ | refine WL.step (Yl.eqlT rfl rfl rfl) rfl ?_ | refine WL.step (Yl.eqlBT (t := 4) (p := true) (q := true) Tryz.underlying4 rfl rfl rfl) rfl ?_) | refine WC.seq ?_ | refine WC.region ?_ | refine WL.nil ?_ | refine WN.then_normal ?_))
        refine WL.callV (g := 23) (v := .bool true) Tryz.call23 rfl (fun w0 st2 => works35_c w0 (hT.keep st2.kept)) rfl ?_
        (repeat (first | refine WL.step (Yl.assign rfl) rfl ?_ | refine WL.step (Yl.pick_t rfl rfl rfl) rfl ?_ | refine WL.nil ?_ | refine WN.then_normal ?_ | refine WC.ret ?_))
        exact WN.ret1 rfl rfl ⟨rfl, rfl⟩ .nil
      · refine WL.call (g := 20) Tryz.call20 rfl (fun w0 st2 => jon_c (dp := dp) (dp2 := dp2) w0 (sok.at_ (p := p) (bd := dp.bd) st2 zM) (e2ok.at_ st2 zM) (by rw [hs, onE, if_neg (by rw [he2l]; show ¬ (max (N / 2) 1 < first ∨ max (N / 2) 1 - first < n); omega)])) rfl fun v1 B1 hv1 => ?_
        obtain ⟨p5, s5, s5ok, hs5, rfl, rfl⟩ := hv1
        (repeat (first | refine WL.step (Yl.move rfl) rfl ?_ | refine WL.step (Yl.assign rfl) rfl ?_ | refine WL.step (Yl.extract rfl rfl) rfl ?_ | refine WC.seq ?_ | refine WC.region ?_ | refine WL.nil ?_ | refine WN.then_normal ?_))
        refine WL.call (g := 52) Tryz.call52 rfl (fun w0 st2 => kon_c (first := first) (n := n) (ep := ee) (s := ⟨none, 0, []⟩) (rb := rp.bd) w0 (KIn.at_ (s := ⟨none, 0, []⟩) ⟨fun _ h => (by cases h), fun _ h => (by cases h)⟩ st2 zM) (f2ok.at_ (p := rp2) (Z := ZR2) st2 zM zM hf2i) (Nat.zero_le _) (by omega)) rfl fun v1 B1 hv1 => ?_
        obtain ⟨kb5, s6, rfl, hs6, hs6l, rfl⟩ := hv1
        (repeat (first | refine WL.want rfl rfl rfl ?_ | refine WL.step (Yl.move rfl) rfl ?_ | refine WL.step (Yl.assign rfl) rfl ?_ | refine WL.step (Yl.extract rfl rfl) rfl ?_ | refine WL.step (Yl.pick_t rfl rfl rfl) rfl ?_ | (refine WL.k_bin .eql ?_; first | refine WL.step (Yl.eqlPN (by kernel_rfl) rfl) rfl ?_ | refine WL.step (Yl.eqlT rfl rfl rfl) rfl ?_ | refine WL.step (Yl.eqlBT (t := 4) (p := false) (q := false) Tryz.underlying4 rfl rfl rfl) rfl ?_) | refine WC.seq ?_ | refine WC.region ?_ | refine WL.nil ?_ | refine WN.then_normal ?_))
        refine WL.callV (g := 23) (v := .bool true) Tryz.call23 rfl (fun w0 st2 => works35_c w0 (hT.keep st2.kept)) rfl ?_
        (repeat (first | refine WL.step (Yl.assign rfl) rfl ?_ | refine WL.step (Yl.pick_t rfl rfl rfl) rfl ?_ | refine WL.nil ?_ | refine WN.then_normal ?_ | refine WC.ret ?_))
        exact WN.ret1 rfl rfl ⟨rfl, rfl⟩ .nil
    · obtain ⟨kk, hkk⟩ : ∃ k : Nat, newE N fi mm ee = k := ⟨_, rfl⟩
      have hk0 : kk ≠ 0 := by rw [← hkk]; exact hE
      skip
      refine WL.callV (g := 12) (v := .tuple #[.pointer none, .int .i64 (kk : Int)]) Tryz.call12 rfl (fun w0 st2 => jnew_ve fi mm ee kk w0 (d0ok.at_ st2 zM) rfl (by show newE d0.d.length fi mm ee = kk; rw [hdl]; exact hkk) hk0) rfl ?_
      (repeat (first | refine WL.step (Yl.move rfl) rfl ?_ | refine WL.step (Yl.assign rfl) rfl ?_ | refine WL.step (Yl.extract rfl rfl) rfl ?_ | refine WC.seq ?_ | refine WC.region ?_ | refine WL.nil ?_ | refine WN.then_normal ?_))
      refine WL.callV (g := 25) (v := .tuple #[.pointer none, .int .i64 (kk : Int)]) Tryz.call25 rfl (fun w0 st2 => by have := knew_e fi mm ee w0 (r0ok.at_ (p := rp) (Z := ZR) st2 zM zM hir0) (by rw [hrl]; omega); rwa [hrl, hkk] at this) rfl ?_
      (repeat (first | refine WL.step (Yl.move rfl) rfl ?_ | refine WL.step (Yl.assign rfl) rfl ?_ | refine WL.step (Yl.extract rfl rfl) rfl ?_ | refine WC.seq ?_ | refine WC.region ?_ | refine WL.nil ?_ | refine WN.then_normal ?_))
      refine WL.callV (g := 18) (v := .tuple #[.pointer none, .int .i64 (kk : Int)]) Tryz.call18 rfl (fun w0 st2 => by have := jscan_e (dp := dp) (ds := d0) fi mm ee w0 (d0ok.at_ st2 zM) (by rw [hdl]; omega) (by rw [hdl]; omega); rwa [hdl, hkk] at this) rfl ?_
      (repeat (first | refine WL.step (Yl.move rfl) rfl ?_ | refine WL.step (Yl.assign rfl) rfl ?_ | refine WL.step (Yl.extract rfl rfl) rfl ?_ | refine WC.seq ?_ | refine WC.region ?_ | refine WL.nil ?_ | refine WN.then_normal ?_))
      refine WL.callV (g := 50) (v := .tuple #[.pointer none, .int .i64 (kk : Int)]) Tryz.call50 rfl (fun w0 st2 => by have := kscan_e (bptr rp.bd) fi mm ee w0 rfl (r0ok.at_ (p := rp) (Z := ZR) st2 zM zM hir0) (by rw [hrl]; omega); rwa [hrl, hkk] at this) rfl ?_
      (repeat (first | refine WL.want rfl rfl rfl ?_ | refine WL.step (Yl.move rfl) rfl ?_ | refine WL.step (Yl.assign rfl) rfl ?_ | refine WL.step (Yl.extract rfl rfl) rfl ?_ | refine WL.step (Yl.pick_f rfl rfl rfl) rfl ?_ | (refine WL.k_bin .eql ?_; refine WL.step (Yl.eqlPN (by kernel_rfl) rfl) rfl ?_) | (refine WL.k_bin .neq ?_; first | refine WL.step (Yl.neqF (m := (kk : Int)) (n := (kk : Int)) rfl rfl rfl) rfl ?_ | refine WL.step (Yl.neqT (m := (kk : Int)) (n := 0) rfl rfl (by omega)) rfl ?_ | refine WL.step (Yl.neqB (t := 4) (p := true) (q := true) Tryz.underlying4 rfl rfl) rfl ?_) | refine WC.seq ?_ | refine WC.region ?_ | refine WL.nil ?_ | refine WN.then_normal ?_))
      refine WL.callV (g := 36) (v := .int .i64 0) Tryz.call36 rfl (fun w0 st2 => jused_bad _ w0 .none) rfl ?_
      (repeat (first | refine WL.want rfl rfl rfl ?_ | refine WL.step (Yl.move rfl) rfl ?_))
      refine WL.callV (g := 51) (v := .int .i64 0) Tryz.call51 rfl (fun w0 st2 => kused_nil w0) rfl ?_
      (repeat (first | refine WL.want rfl rfl rfl ?_ | refine WL.step (Yl.pick_f rfl rfl rfl) rfl ?_ | refine WL.step (Yl.neqF rfl rfl rfl) rfl ?_ | refine WL.nil ?_ | refine WN.then_normal ?_))
      refine WC.cond_false rfl rfl ?_
      (repeat (first | refine WL.step (Yl.move rfl) rfl ?_ | (refine WL.k_bin .quo ?_; refine WL.step (Yl.quo64C (m := N) rfl (by omega) (by decide)) rfl ?_) | refine WL.step (Yl.max2N (m := N / 2) (n := 1) rfl rfl) rfl ?_ | refine WC.seq ?_ | refine WC.region ?_ | refine WN.then_normal ?_ | refine WC.skip ?_))
      refine WL.call (g := 11) Tryz.call11 rfl (fun w0 st2 => dnew_c (max (N / 2) 1) w0 (by omega) (by omega)) rfl fun v1 B1 hv1 => ?_
      obtain ⟨dp2, e2, e2ok, he2, rfl, rfl⟩ := hv1
      have he2 : e2.v = zeroV (max (N / 2) 1) := he2
      have he2l : e2.d.length = max (N / 2) 1 := by have := congrArg (fun v : DV => v.d.length) he2; exact this.trans List.length_replicate
      (repeat (first | refine WL.step (Yl.move rfl) rfl ?_ | refine WL.step (Yl.assign rfl) rfl ?_ | refine WL.step (Yl.extract rfl rfl) rfl ?_ | (refine WL.k_bin .quo ?_; refine WL.step (Yl.quo64C (m := N) rfl (by omega) (by decide)) rfl ?_) | refine WL.step (Yl.max2N (m := N / 2) (n := 1) rfl rfl) rfl ?_ | refine WC.seq ?_ | refine WC.region ?_ | refine WL.nil ?_ | refine WN.then_normal ?_))
      refine WL.call (g := 24) Tryz.call24 rfl (fun w0 st2 => enew_c (max (N / 2) 1) w0 (by omega) (by omega)) rfl fun v1 B1 hv1 => ?_
      obtain ⟨rp2, f2, ZR2, f2ok, hf2, rfl, rfl, hf2i⟩ := hv1
      refine WL.part (Part.perm (show List.Perm _ (drI dp2 e2 ++ (HA.blk b16 (.cells #[.int .i64 0, .slice (some ⟨b15, 0, none⟩) 1 1] 63 (0, 0)) :: HA.row (some ⟨b15, 0, none⟩) 1 3 1 (zcells [0]) :: (drI dp d0 ++ (rdI rp r0 ++ (ZR ++ (rdI rp2 f2 ++ ZR2)))))) from zP)) ?_
      have hf2 : f2.v = zeroV (max (N / 2) 1) := hf2
      have hf2l : f2.d.length = max (N / 2) 1 := by have := congrArg (fun v : DV => v.d.length) hf2; exact this.trans List.length_replicate
      (repeat (first | refine WL.want rfl rfl rfl ?_ | refine WL.step (Yl.move rfl) rfl ?_ | refine WL.step (Yl.assign rfl) rfl ?_ | refine WL.step (Yl.extract rfl rfl) rfl ?_ | refine WL.step (Yl.pick_f rfl rfl rfl) rfl ?_ | refine WL.step (Yl.neqF rfl rfl rfl) rfl ?_ | refine WC.seq ?_ | refine WC.region ?_ | refine WL.nil ?_ | refine WN.then_normal ?_))
      refine WC.cond_false rfl rfl ?_
      (repeat (first | refine WL.step (Yl.move rfl) rfl ?_ | refine WC.seq ?_ | refine WC.region ?_ | refine WN.then_normal ?_ | refine WC.skip ?_))
      refine WL.callV (g := 20) (v := .tuple #[.pointer none, .int .i64 1]) Tryz.call20 rfl (fun w0 st2 => jon_bad _ (bptr dp2.bd) ⟨_, rfl⟩ w0 .none) rfl ?_
      (repeat (first | refine WL.step (Yl.move rfl) rfl ?_ | refine WL.step (Yl.assign rfl) rfl ?_ | refine WL.step (Yl.extract rfl rfl) rfl ?_ | refine WC.seq ?_ | refine WC.region ?_ | refine WL.nil ?_ | refine WN.then_normal ?_))
      refine WL.callV (g := 52) (v := .tuple #[.pointer none, .int .i64 1]) Tryz.call52 rfl (fun w0 st2 => kon_nil (bptr rp2.bd) ⟨_, rfl⟩ w0) rfl ?_
      (repeat (first | refine WL.want rfl rfl rfl ?_ | refine WL.step (Yl.move rfl) rfl ?_ | refine WL.step (Yl.assign rfl) rfl ?_ | refine WL.step (Yl.extract rfl rfl) rfl ?_ | refine WL.step (Yl.pick_t rfl rfl rfl) rfl ?_ | (refine WL.k_bin .eql ?_; first | refine WL.step (Yl.eqlPN (by kernel_rfl) rfl) rfl ?_ | refine WL.step (Yl.eqlT rfl rfl rfl) rfl ?_ | refine WL.step (Yl.eqlBT (t := 4) (p := true) (q := true) Tryz.underlying4 rfl rfl rfl) rfl ?_) | refine WC.seq ?_ | refine WC.region ?_ | refine WL.nil ?_ | refine WN.then_normal ?_))
      refine WL.callV (g := 23) (v := .bool true) Tryz.call23 rfl (fun w0 st2 => works35_c w0 (hT.keep st2.kept)) rfl ?_
      (repeat (first | refine WL.step (Yl.assign rfl) rfl ?_ | refine WL.step (Yl.pick_t rfl rfl rfl) rfl ?_ | refine WL.nil ?_ | refine WN.then_normal ?_ | refine WC.ret ?_))
      exact WN.ret1 rfl rfl ⟨rfl, rfl⟩ .nil
end Go.Proofs.YtbkdjfgkebkknaaGreatDoor
namespace Go.Proofs.YtbkdjfgkebkknaaGreatDoor
set_option linter.unusedVariables false
set_option linter.unusedSimpArgs false
open Go Go.RowKit
theorem good {w w' : World} {e : Ending} (h : Gives (Val (.bool true)) w e w') : e = .returned (.bool true) ∧ Below w.heap.size w w' := by
  obtain ⟨v, B, rfl, ⟨rfl, rfl⟩, s⟩ := h
  exact ⟨rfl, s.below⟩
theorem wf_u8 {n : Int} (h : (Lit.int .u8 n).wf = true) : 0 ≤ n ∧ n < 256 := by
  simp [Lit.wf, IntKind.min, IntKind.max, IntKind.signed, IntKind.bits] at h; omega
theorem wf_i64 {n : Int} (h : (Lit.int .i64 n).wf = true) : -9223372036854775808 ≤ n ∧ n ≤ 9223372036854775807 := by
  simp [Lit.wf, IntKind.min, IntKind.max, IntKind.signed, IntKind.bits] at h; omega
theorem wf_byte {n : Int} (h : (Lit.int .u8 n).wf = true) : ∃ c : UInt8, n = (c.toNat : Int) := by
  have := wf_u8 h
  have e := UInt8.toNat_ofNat_of_lt' (show n.toNat < UInt8.size by simp only [UInt8.size]; omega)
  exact ⟨UInt8.ofNat n.toNat, by rw [e]; omega⟩
def Deep (w : World) (a : Option Addr) (n : Nat) (vs : List Value) : Prop :=
  vs.length = n ∧ n ≤ 9223372036854775807 ∧ CellsAt w a vs ∧ ∀ (i : Nat) (v : Value), vs[i]? = some v → ∃ (b : Option Addr) (m c : Nat) (l : List UInt8), v = Value.slice b m c ∧ l.length = m ∧ m ≤ c ∧ c ≤ 9223372036854775807 ∧ CellsAt w b (bs l)
end Go.Proofs.YtbkdjfgkebkknaaGreatDoor
