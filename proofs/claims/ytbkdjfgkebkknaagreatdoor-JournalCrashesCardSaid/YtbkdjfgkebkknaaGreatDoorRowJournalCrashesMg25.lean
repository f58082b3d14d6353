import Derived.Test.YtbkdjfgkebkknaaGreatDoorRowJournalCrashesMg21
import Derived.Test.YtbkdjfgkebkknaaGreatDoorRowJournalCrashesMg24
import Derived.Test.YtbkdjfgkebkknaaGreatDoorRowJournalCrashesMg20
namespace Go.Proofs.YtbkdjfgkebkknaaGreatDoor
set_option linter.unusedVariables false
set_option linter.unusedSimpArgs false
open Go Go.RowKit
set_option maxRecDepth 100000
set_option maxHeartbeats 16000000
def LP : List UInt8 := List.replicate 512 112
def LQ : List UInt8 := List.replicate 512 113
theorem LP_len : LP.length = 512 := List.length_replicate
theorem LQ_len : LQ.length = 512 := List.length_replicate
def wT1 (a b : Option Addr) : List Pg := [⟨7, ⟨a, 512, LP⟩⟩, ⟨9, ⟨b, 512, LQ⟩⟩]
def wT2 (b : Option Addr) : List Pg := [⟨7, ⟨b, 512, LQ⟩⟩]
def wT3 (a b : Option Addr) : List Pg := [⟨9, ⟨a, 512, LP⟩⟩, ⟨7, ⟨b, 512, LP⟩⟩]
theorem wT1_ok (a b : Option Addr) : pchk (wT1 a b) = 0 := by simp [wT1, pchk, pchkF, LP_len, LQ_len]
theorem wT2_ok (b : Option Addr) : pchk (wT2 b) = 0 := by simp [wT2, pchk, pchkF, LQ_len]
theorem wT3_no (a b : Option Addr) : pchk (wT3 a b) = 2 := by simp [wT3, pchk, pchkF, LP_len]
theorem wT1_cs (a b : Option Addr) : flat [Value.agg #[.int .i64 7, .slice a 512 512], .agg #[.int .i64 9, .slice b 512 512]] = pgs (wT1 a b) := by
  simp only [pgs, wT1, List.flatMap_cons, List.flatMap_nil, Pg.cs, Sl.v, LP_len, LQ_len]; rfl
theorem wT2_cs (b : Option Addr) : flat [Value.agg #[.int .i64 7, .slice b 512 512]] = pgs (wT2 b) := by
  simp only [pgs, wT2, List.flatMap_cons, List.flatMap_nil, Pg.cs, Sl.v, LQ_len]; rfl
theorem wT3_cs (a b : Option Addr) : flat [Value.agg #[.int .i64 9, .slice a 512 512], .agg #[.int .i64 7, .slice b 512 512]] = pgs (wT3 a b) := by
  simp only [pgs, wT3, List.flatMap_cons, List.flatMap_nil, Pg.cs, Sl.v, LP_len]; rfl
def wj : JV := JV.new 2 16 1
def wn : JV := JV.new 2 16 2
theorem wd1 (a b : Option Addr) : dirtyOf 4096 (wj.adds [wT1 a b]).F = [7, 9] := by kernel_rfl
theorem wd2 (b : Option Addr) : dirtyOf 4096 (wn.adds [wT2 b]).F = [7] := by kernel_rfl
theorem wfit (a b : Option Addr) : fitV (wj.adds [wT1 a b]) 2 = (false, true) := by
  have h1 : ¬ fitN (wj.adds [wT1 a b]) 2 := fun h => by
    have h2 := h.2
    have hu : (wj.adds [wT1 a b]).used = 11 := rfl
    have hn : (wj.adds [wT1 a b]).n = 16 := rfl
    rw [hu, hn] at h2
    omega
  have h2 : fitS (wj.adds [wT1 a b]) 2 := by
    have hn : (wj.adds [wT1 a b]).n = 16 := rfl
    rw [fitS, hn]
    omega
  rw [fitV, if_neg (by decide), decide_eq_false h1, decide_eq_true h2]
theorem permX (A B C D : List HA) (x y : HA) : ((A ++ B) ++ x :: y :: (C ++ D)).Perm ((C ++ B) ++ (A ++ x :: y :: D)) := by
  classical
  rw [List.perm_iff_count]; intro u; simp only [List.count_append, List.count_cons]; omega
theorem elemFt : ElemT Tryz.prog 131 (.agg #[.int .i64 0, .bool false, .bool false]) 3 16 := ElemT.of (by kernel_rfl) rfl (by decide)
theorem buildFt (n : Int) (a b : Bool) (w : World) : (Instr.build 131 [(0, .int .i64 n), (1, .bool a), (2, .bool b)].toArray).run Tryz.prog w = .ok (.agg #[.int .i64 n, .bool a, .bool b]) w := by
  simp [Instr.build, Tryz.zeroValue131, run_underlying Tryz.underlying131, Tryz.sizeOf3, Tryz.sizeOf4, Value.cells, Instr.fill]
attribute [local irreducible] WL WC WN Yl WH WQ WT WE WU WG WV
theorem works35_c (w : World) (hT : Tab w) : Calls Tryz.prog 23 #[] w (Gives (Val (.bool true)) w) := by
  refine enter (args := []) Tryz.func23 Tryz.ntmps23 rfl rfl ?_
  (repeat (first | refine WL.step (Yl.assign rfl) rfl ?_ | refine WC.seq ?_ | refine WC.region ?_ | refine WL.nil ?_ | refine WN.then_normal ?_))
  refine WL.call (g := 11) Tryz.call11 rfl (fun w0 st2 => dnew_c 32 w0 (by decide) (by decide)) rfl fun v1 B1 hv1 => ?_
  obtain ⟨dp, d0, d0ok, hd0, rfl, rfl⟩ := hv1
  have hd0 : d0.v = zeroV 32 := hd0
  have hwf0 : BkWf (zeroV 32).d (zeroV 32).F := by rw [← hd0]; exact wf_v d0ok
  have hl0 : (zeroV 32).d.length = 32 := List.length_replicate
  rw [List.append_nil]
  (repeat (first | refine WL.want rfl rfl rfl ?_ | refine WL.step (Yl.move rfl) rfl ?_ | refine WL.step (Yl.assign rfl) rfl ?_ | refine WL.step (Yl.extract rfl rfl) rfl ?_ | refine WL.step (Yl.pick_f rfl rfl rfl) rfl ?_ | refine WL.step (Yl.neqF rfl rfl rfl) rfl ?_ | (refine WL.k_bin .eql ?_; refine WL.step (Yl.eqlPN (by kernel_rfl) rfl) rfl ?_) | refine WC.seq ?_ | refine WC.region ?_ | refine WL.nil ?_ | refine WN.then_normal ?_))
  refine WC.cond_false rfl rfl ?_
  (repeat (first | refine WL.step (Yl.move rfl) rfl ?_ | refine WC.seq ?_ | refine WC.region ?_ | refine WN.then_normal ?_ | refine WC.skip ?_))
  refine WL.call (g := 12) Tryz.call12 rfl (fun w0 st2 => jnew_v 2 16 1 w0 (d0ok.at_ st2 fun x h => h) hd0 (by decide) (by decide) (by rw [hl0]; decide)) rfl fun v1 B1 hv1 => ?_
  obtain ⟨p, s0, s0ok, hs0, rfl, rfl⟩ := hv1
  have hs0 : s0.v = wj := hs0
  (repeat (first | refine WL.step (Yl.move rfl) rfl ?_ | refine WL.step (Yl.assign rfl) rfl ?_ | refine WL.step (Yl.extract rfl rfl) rfl ?_ | refine WL.step (Yl.neqF rfl rfl rfl) rfl ?_ | refine WC.seq ?_ | refine WC.region ?_ | refine WL.nil ?_ | refine WN.then_normal ?_))
  refine WC.cond_false rfl rfl ?_
  rw [← List.append_nil (jI dp.bd p s0 ++ drI dp d0)]
  (repeat (first | (refine WL.k_build ?_; first | refine WL.step (Yl.build (ps := [(0, .const (.int .i64 1)), (1, .const (.bool true)), (2, .const (.bool true))]) (vs := [(0, .int .i64 1), (1, .bool true), (2, .bool true)]) rfl (buildFt _ _ _)) rfl ?_ | refine WL.step (Yl.build (ps := [(0, .const (.int .i64 3)), (1, .const (.bool true)), (2, .const (.bool true))]) (vs := [(0, .int .i64 3), (1, .bool true), (2, .bool true)]) rfl (buildFt _ _ _)) rfl ?_ | refine WL.step (Yl.build (ps := [(0, .const (.int .i64 4)), (1, .const (.bool false)), (2, .const (.bool false))]) (vs := [(0, .int .i64 4), (1, .bool false), (2, .bool false)]) rfl (buildFt _ _ _)) rfl ?_ | refine WL.step (Yl.build (ps := [(0, .const (.int .i64 0)), (1, .const (.bool false)), (2, .const (.bool false))]) (vs := [(0, .int .i64 0), (1, .bool false), (2, .bool false)]) rfl (buildFt _ _ _)) rfl ?_) | refine WC.seq ?_ | refine WC.region ?_ | refine WN.then_normal ?_ | refine WC.skip ?_))
  refine WL.lit (t := 132) (vs := [.agg #[.int .i64 1, .bool true, .bool true], .agg #[.int .i64 3, .bool true, .bool true], .agg #[.int .i64 4, .bool false, .bool false], .agg #[.int .i64 0, .bool false, .bool false]]) Tryz.underlying132 elemFt rfl rfl rfl (fun u hu => by simp at hu; rcases hu with rfl | rfl | rfl | rfl <;> rfl) rfl fun b50 => ?_
  obtain ⟨fts, hfts⟩ : ∃ l, l = flat [Value.agg #[.int .i64 1, .bool true, .bool true], .agg #[.int .i64 3, .bool true, .bool true], .agg #[.int .i64 4, .bool false, .bool false], .agg #[.int .i64 0, .bool false, .bool false]] := ⟨_, rfl⟩
  rw [← hfts]
  refine WL.mid ?_
  (repeat (first | refine WL.step (Yl.move rfl) rfl ?_ | refine WL.step (Yl.len (t := 132) Tryz.underlying132 rfl) rfl ?_ | refine WL.nil ?_ | refine WN.then_normal ?_ | refine WC.block ?_))
  refine WC.loop (α := Nat) (fun i => [(1, bptr dp.bd), (3, bptr p.bj), (50, .slice (some ⟨b50, 0, none⟩) 4 4), (51, .int .i64 4), (52, .int .i64 (i : Int))]) (fun _ => (jI dp.bd p s0 ++ drI dp d0) ++ [.row (some ⟨b50, 0, none⟩) 4 131 3 fts]) (fun i => i ≤ 4) (fun i => 4 - i) 0 (by repeat (first | exact Sub.nil | refine Sub.cons rfl rfl ?_)) (Part.refl _) (Nat.zero_le _) ?_
  intro i hi
  (repeat (first | refine WL.step (Yl.lss rfl rfl) rfl ?_ | refine WC.seq ?_ | refine WC.region ?_ | refine WL.nil ?_ | refine WN.then_normal ?_))
  refine WC.ite rfl (fun h1 => ?_) (fun h1 => ?_)
  · have hfl : fts.length = 12 := by rw [hfts]; rfl
    have hne : fts ≠ [] := fun h => by rw [h] at hfl; cases hfl
    rcases (by omega : i = 0 ∨ i = 1 ∨ i = 2 ∨ i = 3) with rfl | rfl | rfl | rfl
    · have e : (fts.drop (0 * 3)).take [Value.int .i64 1, .bool true, .bool true].length = [Value.int .i64 1, .bool true, .bool true] := by rw [hfts]; rfl
      (repeat (first | (refine WL.k_load ?_; refine WL.step (Yl.loadEl [.int .i64 1, .bool true, .bool true] Tryz.isAgg131 Tryz.sizeOf131 rfl (Rd.row (vs := fts) (List.mem_append_right _ (.head _))) rfl (by simp) e) rfl ?_) | (refine WL.k_idxa ?_; refine WL.step (Yl.indexAddr (t := 132) (j := 0) Tryz.underlying132 Tryz.sizeOf131 rfl rfl (Rd.row (vs := fts) (List.mem_append_right _ (.head _))) hne (by decide)) rfl ?_) | refine WC.seq ?_ | refine WC.region ?_ | refine WN.then_normal ?_ | refine WC.block ?_ | refine WC.skip ?_))
      refine WL.allocA Tryz.zeroValue131 rfl fun b5 => ?_
      refine WL.storeWhole (T := 131) (k := 3) Tryz.sizeOf131 rfl rfl rfl .here rfl rfl ?_
      (repeat (first | refine WL.want rfl rfl rfl ?_ | refine WL.step (Yl.move rfl) rfl ?_ | refine WL.step (Yl.assign rfl) rfl ?_ | refine WL.step (Yl.extract rfl rfl) rfl ?_ | (refine WL.k_load ?_; first | refine WL.step (Yl.loadBlk (T := 3) Tryz.isAgg3 rfl (by repeat (first | exact .head _ | refine .tail _ ?_)) (by rfl)) rfl ?_ | refine WL.step (Yl.loadBlk (T := 4) Tryz.isAgg4 rfl (by repeat (first | exact .head _ | refine .tail _ ?_)) (by rfl)) rfl ?_) | (refine WL.k_fld ?_; first | refine WL.step (Yl.fldN0 (i := 0) (o := 0) (by kernel_rfl) rfl) rfl ?_ | refine WL.step (Yl.fldN0 (i := 1) (o := 1) (by kernel_rfl) rfl) rfl ?_ | refine WL.step (Yl.fldN0 (i := 2) (o := 2) (by kernel_rfl) rfl) rfl ?_) | refine WL.step (Yl.pick_f rfl rfl rfl) rfl ?_ | (refine WL.k_call 15 ?_; refine WL.callV (g := 15) (v := .tuple #[.bool true, .bool true]) Tryz.call15 rfl (fun w0 st2 => jfits_v 1 w0 (s0ok.at_ st2 fun x h => .tail _ (List.mem_append_left _ (List.mem_append_left _ h))) hs0 (r := (true, true)) (by decide)) rfl ?_) | refine WL.step (Yl.neqB (t := 4) (p := true) (q := true) Tryz.underlying4 rfl rfl) rfl ?_ | refine WC.seq ?_ | refine WC.region ?_ | refine WL.nil ?_ | refine WN.then_normal ?_))
      refine WC.cond_false rfl rfl ?_
      (repeat (first | refine WL.step (Yl.move rfl) rfl ?_ | (refine WL.k_bin .add ?_; refine WL.step (Yl.add64C rfl (by omega)) rfl ?_) | refine WC.region ?_ | refine WL.nil ?_ | refine WN.then_normal ?_ | refine WC.skip ?_ | refine WN.block_normal ?_))
      exact WN.next 1 (by decide) (by decide) (by repeat (first | exact Sub.nil | refine Sub.cons rfl rfl ?_)) (.more (Part.refl _))
    · have e : (fts.drop (1 * 3)).take [Value.int .i64 3, .bool true, .bool true].length = [Value.int .i64 3, .bool true, .bool true] := by rw [hfts]; rfl
      (repeat (first | (refine WL.k_load ?_; refine WL.step (Yl.loadEl [.int .i64 3, .bool true, .bool true] Tryz.isAgg131 Tryz.sizeOf131 rfl (Rd.row (vs := fts) (List.mem_append_right _ (.head _))) rfl (by simp) e) rfl ?_) | (refine WL.k_idxa ?_; refine WL.step (Yl.indexAddr (t := 132) (j := 1) Tryz.underlying132 Tryz.sizeOf131 rfl rfl (Rd.row (vs := fts) (List.mem_append_right _ (.head _))) hne (by decide)) rfl ?_) | refine WC.seq ?_ | refine WC.region ?_ | refine WN.then_normal ?_ | refine WC.block ?_ | refine WC.skip ?_))
      refine WL.allocA Tryz.zeroValue131 rfl fun b5 => ?_
      refine WL.storeWhole (T := 131) (k := 3) Tryz.sizeOf131 rfl rfl rfl .here rfl rfl ?_
      (repeat (first | refine WL.want rfl rfl rfl ?_ | refine WL.step (Yl.move rfl) rfl ?_ | refine WL.step (Yl.assign rfl) rfl ?_ | refine WL.step (Yl.extract rfl rfl) rfl ?_ | (refine WL.k_load ?_; first | refine WL.step (Yl.loadBlk (T := 3) Tryz.isAgg3 rfl (by repeat (first | exact .head _ | refine .tail _ ?_)) (by rfl)) rfl ?_ | refine WL.step (Yl.loadBlk (T := 4) Tryz.isAgg4 rfl (by repeat (first | exact .head _ | refine .tail _ ?_)) (by rfl)) rfl ?_) | (refine WL.k_fld ?_; first | refine WL.step (Yl.fldN0 (i := 0) (o := 0) (by kernel_rfl) rfl) rfl ?_ | refine WL.step (Yl.fldN0 (i := 1) (o := 1) (by kernel_rfl) rfl) rfl ?_ | refine WL.step (Yl.fldN0 (i := 2) (o := 2) (by kernel_rfl) rfl) rfl ?_) | refine WL.step (Yl.pick_f rfl rfl rfl) rfl ?_ | (refine WL.k_call 15 ?_; refine WL.callV (g := 15) (v := .tuple #[.bool true, .bool true]) Tryz.call15 rfl (fun w0 st2 => jfits_v 3 w0 (s0ok.at_ st2 fun x h => .tail _ (List.mem_append_left _ (List.mem_append_left _ h))) hs0 (r := (true, true)) (by decide)) rfl ?_) | refine WL.step (Yl.neqB (t := 4) (p := true) (q := true) Tryz.underlying4 rfl rfl) rfl ?_ | refine WC.seq ?_ | refine WC.region ?_ | refine WL.nil ?_ | refine WN.then_normal ?_))
      refine WC.cond_false rfl rfl ?_
      (repeat (first | refine WL.step (Yl.move rfl) rfl ?_ | (refine WL.k_bin .add ?_; refine WL.step (Yl.add64C rfl (by omega)) rfl ?_) | refine WC.region ?_ | refine WL.nil ?_ | refine WN.then_normal ?_ | refine WC.skip ?_ | refine WN.block_normal ?_))
      exact WN.next 2 (by decide) (by decide) (by repeat (first | exact Sub.nil | refine Sub.cons rfl rfl ?_)) (.more (Part.refl _))
    · have e : (fts.drop (2 * 3)).take [Value.int .i64 4, .bool false, .bool false].length = [Value.int .i64 4, .bool false, .bool false] := by rw [hfts]; rfl
      (repeat (first | (refine WL.k_load ?_; refine WL.step (Yl.loadEl [.int .i64 4, .bool false, .bool false] Tryz.isAgg131 Tryz.sizeOf131 rfl (Rd.row (vs := fts) (List.mem_append_right _ (.head _))) rfl (by simp) e) rfl ?_) | (refine WL.k_idxa ?_; refine WL.step (Yl.indexAddr (t := 132) (j := 2) Tryz.underlying132 Tryz.sizeOf131 rfl rfl (Rd.row (vs := fts) (List.mem_append_right _ (.head _))) hne (by decide)) rfl ?_) | refine WC.seq ?_ | refine WC.region ?_ | refine WN.then_normal ?_ | refine WC.block ?_ | refine WC.skip ?_))
      refine WL.allocA Tryz.zeroValue131 rfl fun b5 => ?_
      refine WL.storeWhole (T := 131) (k := 3) Tryz.sizeOf131 rfl rfl rfl .here rfl rfl ?_
      (repeat (first | refine WL.want rfl rfl rfl ?_ | refine WL.step (Yl.move rfl) rfl ?_ | refine WL.step (Yl.assign rfl) rfl ?_ | refine WL.step (Yl.extract rfl rfl) rfl ?_ | (refine WL.k_load ?_; first | refine WL.step (Yl.loadBlk (T := 3) Tryz.isAgg3 rfl (by repeat (first | exact .head _ | refine .tail _ ?_)) (by rfl)) rfl ?_ | refine WL.step (Yl.loadBlk (T := 4) Tryz.isAgg4 rfl (by repeat (first | exact .head _ | refine .tail _ ?_)) (by rfl)) rfl ?_) | (refine WL.k_fld ?_; first | refine WL.step (Yl.fldN0 (i := 0) (o := 0) (by kernel_rfl) rfl) rfl ?_ | refine WL.step (Yl.fldN0 (i := 1) (o := 1) (by kernel_rfl) rfl) rfl ?_ | refine WL.step (Yl.fldN0 (i := 2) (o := 2) (by kernel_rfl) rfl) rfl ?_) | refine WL.step (Yl.pick_f rfl rfl rfl) rfl ?_ | (refine WL.k_call 15 ?_; refine WL.callV (g := 15) (v := .tuple #[.bool false, .bool false]) Tryz.call15 rfl (fun w0 st2 => jfits_v 4 w0 (s0ok.at_ st2 fun x h => .tail _ (List.mem_append_left _ (List.mem_append_left _ h))) hs0 (r := (false, false)) (by decide)) rfl ?_) | refine WL.step (Yl.neqB (t := 4) (p := false) (q := false) Tryz.underlying4 rfl rfl) rfl ?_ | refine WC.seq ?_ | refine WC.region ?_ | refine WL.nil ?_ | refine WN.then_normal ?_))
      refine WC.cond_false rfl rfl ?_
      (repeat (first | refine WL.step (Yl.move rfl) rfl ?_ | (refine WL.k_bin .add ?_; refine WL.step (Yl.add64C rfl (by omega)) rfl ?_) | refine WC.region ?_ | refine WL.nil ?_ | refine WN.then_normal ?_ | refine WC.skip ?_ | refine WN.block_normal ?_))
      exact WN.next 3 (by decide) (by decide) (by repeat (first | exact Sub.nil | refine Sub.cons rfl rfl ?_)) (.more (Part.refl _))
    · have e : (fts.drop (3 * 3)).take [Value.int .i64 0, .bool false, .bool false].length = [Value.int .i64 0, .bool false, .bool false] := by rw [hfts]; rfl
      (repeat (first | (refine WL.k_load ?_; refine WL.step (Yl.loadEl [.int .i64 0, .bool false, .bool false] Tryz.isAgg131 Tryz.sizeOf131 rfl (Rd.row (vs := fts) (List.mem_append_right _ (.head _))) rfl (by simp) e) rfl ?_) | (refine WL.k_idxa ?_; refine WL.step (Yl.indexAddr (t := 132) (j := 3) Tryz.underlying132 Tryz.sizeOf131 rfl rfl (Rd.row (vs := fts) (List.mem_append_right _ (.head _))) hne (by decide)) rfl ?_) | refine WC.seq ?_ | refine WC.region ?_ | refine WN.then_normal ?_ | refine WC.block ?_ | refine WC.skip ?_))
      refine WL.allocA Tryz.zeroValue131 rfl fun b5 => ?_
      refine WL.storeWhole (T := 131) (k := 3) Tryz.sizeOf131 rfl rfl rfl .here rfl rfl ?_
      (repeat (first | refine WL.want rfl rfl rfl ?_ | refine WL.step (Yl.move rfl) rfl ?_ | refine WL.step (Yl.assign rfl) rfl ?_ | refine WL.step (Yl.extract rfl rfl) rfl ?_ | (refine WL.k_load ?_; first | refine WL.step (Yl.loadBlk (T := 3) Tryz.isAgg3 rfl (by repeat (first | exact .head _ | refine .tail _ ?_)) (by rfl)) rfl ?_ | refine WL.step (Yl.loadBlk (T := 4) Tryz.isAgg4 rfl (by repeat (first | exact .head _ | refine .tail _ ?_)) (by rfl)) rfl ?_) | (refine WL.k_fld ?_; first | refine WL.step (Yl.fldN0 (i := 0) (o := 0) (by kernel_rfl) rfl) rfl ?_ | refine WL.step (Yl.fldN0 (i := 1) (o := 1) (by kernel_rfl) rfl) rfl ?_ | refine WL.step (Yl.fldN0 (i := 2) (o := 2) (by kernel_rfl) rfl) rfl ?_) | refine WL.step (Yl.pick_f rfl rfl rfl) rfl ?_ | (refine WL.k_call 15 ?_; refine WL.callV (g := 15) (v := .tuple #[.bool false, .bool false]) Tryz.call15 rfl (fun w0 st2 => jfits_v 0 w0 (s0ok.at_ st2 fun x h => .tail _ (List.mem_append_left _ (List.mem_append_left _ h))) hs0 (r := (false, false)) (by decide)) rfl ?_) | refine WL.step (Yl.neqB (t := 4) (p := false) (q := false) Tryz.underlying4 rfl rfl) rfl ?_ | refine WC.seq ?_ | refine WC.region ?_ | refine WL.nil ?_ | refine WN.then_normal ?_))
      refine WC.cond_false rfl rfl ?_
      (repeat (first | refine WL.step (Yl.move rfl) rfl ?_ | (refine WL.k_bin .add ?_; refine WL.step (Yl.add64C rfl (by omega)) rfl ?_) | refine WC.region ?_ | refine WL.nil ?_ | refine WN.then_normal ?_ | refine WC.skip ?_ | refine WN.block_normal ?_))
      exact WN.next 4 (by decide) (by decide) (by repeat (first | exact Sub.nil | refine Sub.cons rfl rfl ?_)) (.more (Part.refl _))
  · obtain rfl : i = 4 := by omega
    (repeat (first | refine WL.step (Yl.move rfl) rfl ?_ | refine WC.seq ?_ | refine WC.region ?_ | refine WN.then_normal ?_ | refine WC.exit ?_ | refine WN.then_exit ?_ | refine WN.block_here ?_))
    refine WL.call (g := 53) Tryz.call53 rfl (fun w0 st2 => full_w 112 w0) rfl fun v1 B1 hv1 => ?_
    obtain ⟨a1, c1, hc1, rfl, rfl⟩ := hv1
    rw [show List.replicate 512 (112 : UInt8) = LP from rfl]
    simp only [List.cons_append, List.nil_append]
    refine WL.mid ?_
    (repeat (first | refine WL.step (Yl.build (ps := [(0, .const (.int .i64 7)), (1, .tmp 75)]) (vs := [(0, .int .i64 7), (1, .slice a1 512 512)]) rfl (buildPg _ _ _ _)) rfl ?_))
    refine WL.call (g := 53) Tryz.call53 rfl (fun w0 st2 => full_w 113 w0) rfl fun v1 B1 hv1 => ?_
    obtain ⟨a2, c2, hc2, rfl, rfl⟩ := hv1
    rw [show List.replicate 512 (113 : UInt8) = LQ from rfl]
    simp only [List.cons_append, List.nil_append]
    refine WL.mid ?_
    (repeat (first | refine WL.step (Yl.build (ps := [(0, .const (.int .i64 9)), (1, .tmp 77)]) (vs := [(0, .int .i64 9), (1, .slice a2 512 512)]) rfl (buildPg _ _ _ _)) rfl ?_))
    refine WL.lit (t := 37) (vs := [.agg #[.int .i64 7, .slice a1 512 512], .agg #[.int .i64 9, .slice a2 512 512]]) Tryz.underlying37 elemPg rfl rfl rfl (fun u hu => by simp at hu; rcases hu with rfl | rfl <;> rfl) rfl fun b3 => ?_
    rw [wT1_cs]
    refine WL.mid ?_
    skip
    have k0 : Jok (zeroV 32) wj [] := jok_new ⟨rfl, rfl⟩ hwf0 (by rw [hl0]; decide) (by decide) (by decide) (zeroV_clean (by decide) (by decide))
    have cl0 : Clean (zeroV 32) 2 16 2 0 := zeroV_clean (by decide) (by decide)
    obtain ⟨v1, e1, k1, l1, o1, r1, h1, g1, n1⟩ := k0.append (wT1_ok a1 a2) (by show 0 + 5 * 2 + 1 ≤ 16; decide)
    have e1 : japp (zeroV 32) wj (wT1 a1 a2) = (v1, wj.adds [wT1 a1 a2], 0) := e1
    have k1 : Jok v1 wj [wT1 a1 a2] := k1
    have r1 : v1.rd = 0 := r1
    have o1 : v1.ops = 12 := o1
    have l1 : v1.d.length = 32 := l1.trans hl0
    have cl1 : Clean v1 2 16 2 0 := Clean.over (ep := 1) (T := wT1 a1 a2) (u := 0) (tx := 1) (by decide) (by decide) (by decide) (by decide) (by decide) (pchk_ok (wT1_ok a1 a2)).1 (pchk_ok (wT1_ok a1 a2)).2 (by show 2 ≤ 4096; decide) cl0 h1 (fun k hk hk2 => g1 (2 + k) (by rw [hl0]; omega) (by have h9 : (wj.adds []).used = 0 := rfl; have h8 : (wT1 a1 a2).length = 2 := rfl; have h7 : wj.first = 2 := rfl; omega))
    refine WL.callS (g := 16) (A0 := jI dp.bd p s0 ++ drI dp d0) Tryz.call16 rfl (List.Perm.refl _) (fun w0 st2 st1 => jappend_v (some ⟨b3, 0, none⟩) 2 2 (wT1 a1 a2) w0 _ d0ok hd0 s0ok hs0 e1 (by decide) rfl (by decide) (row_out st2 (List.Perm.refl _) (.head _)) (fun q hq => by simp only [wT1, List.mem_cons, List.not_mem_nil, or_false] at hq; rcases hq with rfl | rfl; exact row_out st2 (List.Perm.refl _) (.tail _ (.tail _ (.head _))); exact row_out st2 (List.Perm.refl _) (.tail _ (.head _))) (old_out st2 (List.Perm.refl _) hT.o) st1) rfl fun v C hv => ?_
    obtain ⟨rfl, d1, s1, d1ok, hd1, s1ok, hs1, rfl⟩ := hv
    simp only at hd1 hs1
    (repeat (first | refine WL.want rfl rfl rfl ?_ | refine WL.step (Yl.move rfl) rfl ?_ | refine WL.step (Yl.pick_f rfl rfl rfl) rfl ?_ | refine WL.step (Yl.neqF rfl rfl rfl) rfl ?_ | refine WL.callV (g := 36) (v := .int .i64 11) Tryz.call36 rfl (fun w0 st2 => jused_v 11 w0 (s1ok.at_ st2 (fun x h => List.mem_append_left _ (List.mem_append_left _ h))) hs1 rfl) rfl ?_ | refine WL.callV (g := 35) (v := .int .i64 1) Tryz.call35 rfl (fun w0 st2 => jtx_v 1 w0 (s1ok.at_ st2 (fun x h => List.mem_append_left _ (List.mem_append_left _ h))) hs1 rfl) rfl ?_))
    refine WL.callR (g := 34) Tryz.call34 rfl (fun w0 st2 => jpages_v [7, 9] w0 (s1ok.at_ st2 (fun x h => List.mem_append_left _ (List.mem_append_left _ h))) hs1 (wd1 a1 a2)) rfl fun q1 hq1 => ?_
    rw [ncells_z]
    refine WL.mid ?_
    (repeat (first | refine WL.want rfl rfl rfl ?_))
    refine WL.lit (t := 61) (vs := [.int .i64 7, .int .i64 9]) Tryz.underlying61 elemZ rfl rfl rfl (fun u hu => by simp at hu; rcases hu with rfl | rfl <;> rfl) rfl fun b4 => ?_
    rw [show flat [Value.int .i64 7, Value.int .i64 9] = zcells [7, 9] from rfl]
    refine WL.mid ?_
    (repeat (first | refine WL.want rfl rfl rfl ?_ | refine WL.step (Yl.move rfl) rfl ?_ | refine WL.step (Yl.pick_f rfl rfl rfl) rfl ?_ | (refine WL.k_call 40 ?_; refine WL.callV (g := 40) (v := .bool true) Tryz.call40 rfl (fun w0 st2 => by have := iequal_c q1.1 (some ⟨b4, 0, none⟩) 2 2 q1.2 2 [7, 9] [7, 9] w0 rfl rfl (by decide) (Rd.row (List.mem_append_right _ (.tail _ (.head _))) w0 st2) (Rd.row (List.mem_append_right _ (.head _)) w0 st2); exact this) rfl ?_) | refine WL.step (Yl.not rfl) rfl ?_))
    skip
    refine WL.call (g := 53) Tryz.call53 rfl (fun w0 st2 => full_w 113 w0) rfl fun v1 B1 hv1 => ?_
    obtain ⟨a3, c3, hc3, rfl, rfl⟩ := hv1
    rw [show List.replicate 512 (113 : UInt8) = LQ from rfl]
    simp only [List.cons_append, List.nil_append]
    refine WL.mid ?_
    (repeat (first | refine WL.want rfl rfl rfl ?_ | refine WL.step (Yl.build (ps := [(0, .const (.int .i64 7)), (1, .tmp 101)]) (vs := [(0, .int .i64 7), (1, .slice a3 512 512)]) rfl (buildPg _ _ _ _)) rfl ?_))
    refine WL.lit (t := 37) (vs := [.agg #[.int .i64 7, .slice a3 512 512]]) Tryz.underlying37 elemPg rfl rfl rfl (fun u hu => by simp at hu; subst hu; rfl) rfl fun b5 => ?_
    rw [wT2_cs]
    refine WL.mid ?_
    (repeat (first | refine WL.want rfl rfl rfl ?_))
    have ef : japp v1 (wj.adds [wT1 a1 a2]) (wT2 a3) = (v1, wj.adds [wT1 a1 a2], 4) := japp_full (wT2_ok a3) (by rw [show ((wT2 a3).length : Int) = ((1 : Nat) : Int) from rfl, fitN_iff (by decide)]; show ¬ (11 + 5 * 1 + 1 ≤ 16); decide)
    refine WL.callS (g := 16) (A0 := jI dp.bd p s1 ++ drI dp d1) Tryz.call16 rfl (List.Perm.refl _) (fun w0 st2 st1 => jappend_v (some ⟨b5, 0, none⟩) 1 1 (wT2 a3) w0 _ d1ok hd1 s1ok hs1 ef (by rw [o1]; decide) rfl (by decide) (row_out st2 (List.Perm.refl _) (.head _)) (fun q hq => by simp only [wT2, List.mem_cons, List.not_mem_nil, or_false] at hq; subst hq; exact row_out st2 (List.Perm.refl _) (.tail _ (.head _))) (old_out st2 (List.Perm.refl _) hT.o) st1) rfl fun v C hv => ?_
    obtain ⟨rfl, d2, s2, d2ok, hd2, s2ok, hs2, rfl⟩ := hv
    simp only at hd2 hs2
    (repeat (first | refine WL.want rfl rfl rfl ?_ | refine WL.step (Yl.pick_f rfl rfl rfl) rfl ?_ | refine WL.step (Yl.neqF rfl rfl rfl) rfl ?_ | refine WL.nil ?_ | refine WN.then_normal ?_))
    refine WC.cond_false rfl rfl ?_
    (repeat (first | refine WL.step (Yl.move rfl) rfl ?_ | refine WL.step (Yl.assign rfl) rfl ?_ | refine WL.step (Yl.extract rfl rfl) rfl ?_ | refine WL.callV (g := 15) (v := .tuple #[.bool false, .bool true]) Tryz.call15 rfl (fun w0 st2 => jfits_v 2 w0 (s2ok.at_ st2 (fun x h => List.mem_append_left _ (List.mem_append_left _ h))) hs2 (r := (false, true)) (wfit a1 a2)) rfl ?_ | refine WC.seq ?_ | refine WC.region ?_ | refine WL.nil ?_ | refine WN.then_normal ?_ | refine WC.skip ?_))
    have hd2 : d2.v = { v1 with rd := 0 } := by rw [hd2, ← r1]
    have eg0 : jget { v1 with rd := 0 } (wj.adds [wT1 a1 a2]) 7 = (LP, true, 0) := by rw [jget_spec (k1.rd 0).calm.up (k1.rd 0).fc]; rfl
    refine WL.callS (g := 33) (A0 := jI dp.bd p s2 ++ drI dp d2) Tryz.call33 rfl (List.Perm.refl _) (fun w0 st2 st1 => jget_v 7 w0 _ d2ok hd2 s2ok hs2 eg0 (k1.rd 0).row (k1.rd 0).fc.le (by show 0 < _; omega) (old_out st2 (List.Perm.refl _) hT.o) st1) rfl fun v C hv => ?_
    obtain ⟨q7, u7, d3, m, hu71, hu72, rfl, d3ok, hd3, hm, rfl⟩ := hv
    obtain ⟨d3', hrd3, hd3⟩ : ∃ r, r ≤ 5 ∧ d3.v = { v1 with rd := r } := ⟨_, by show 0 + m ≤ 5; omega, hd3⟩
    simp only [List.cons_append]
    refine WL.mid ?_
    (repeat (first | refine WL.step (Yl.move rfl) rfl ?_ | refine WL.step (Yl.assign rfl) rfl ?_ | refine WL.step (Yl.extract rfl rfl) rfl ?_ | refine WC.seq ?_ | refine WC.region ?_ | refine WL.nil ?_ | refine WN.then_normal ?_))
    have eg1 : jget { v1 with rd := d3' } (wj.adds [wT1 a1 a2]) 8 = ([], false, 0) := by rw [jget_spec (k1.rd d3').calm.up (k1.rd d3').fc]; rfl
    refine WL.callS (g := 33) (A0 := jI dp.bd p s2 ++ drI dp d3) Tryz.call33 rfl (List.Perm.refl _) (fun w0 st2 st1 => jget_v 8 w0 _ d3ok hd3 s2ok hs2 eg1 (k1.rd d3').row (k1.rd d3').fc.le (by show d3' < _; omega) (old_out st2 (List.Perm.refl _) hT.o) st1) rfl fun v C hv => ?_
    obtain ⟨q8, u8, d4, m, hu81, hu82, rfl, d4ok, hd4, hm, rfl⟩ := hv
    obtain ⟨d4', hrd4, hd4⟩ : ∃ r, r ≤ 10 ∧ d4.v = { v1 with rd := r } := ⟨_, by show d3' + m ≤ 10; omega, hd4⟩
    simp only [List.cons_append]
    refine WL.mid ?_
    (repeat (first | refine WL.step (Yl.move rfl) rfl ?_ | refine WL.step (Yl.assign rfl) rfl ?_ | refine WL.step (Yl.extract rfl rfl) rfl ?_ | refine WC.seq ?_ | refine WC.region ?_ | refine WL.nil ?_ | refine WN.then_normal ?_))
    have eg2 : jget { v1 with rd := d4' } (wj.adds [wT1 a1 a2]) 4096 = ([], false, 3) := by rw [jget_spec (k1.rd d4').calm.up (k1.rd d4').fc]; rfl
    refine WL.callS (g := 33) (A0 := jI dp.bd p s2 ++ drI dp d4) Tryz.call33 rfl (List.Perm.refl _) (fun w0 st2 st1 => jget_v 4096 w0 _ d4ok hd4 s2ok hs2 eg2 (k1.rd d4').row (k1.rd d4').fc.le (by show d4' < _; omega) (old_out st2 (List.Perm.refl _) hT.o) st1) rfl fun v C hv => ?_
    obtain ⟨q9, u9, d5, m, hu91, hu92, rfl, d5ok, hd5, hm, rfl⟩ := hv
    obtain ⟨d5', hrd5, hd5⟩ : ∃ r, r ≤ 15 ∧ d5.v = { v1 with rd := r } := ⟨_, by show d4' + m ≤ 15; omega, hd5⟩
    simp only [List.cons_append]
    refine WL.mid ?_
    (repeat (first | refine WL.step (Yl.move rfl) rfl ?_ | refine WL.step (Yl.assign rfl) rfl ?_ | refine WL.step (Yl.extract rfl rfl) rfl ?_ | refine WC.seq ?_ | refine WC.region ?_ | refine WL.nil ?_ | refine WN.then_normal ?_))
    refine WL.callS (g := 18) (A0 := drI dp d5) (vs := [bptr dp.bd, .int .i64 ((2 : Nat) : Int), .int .i64 ((16 : Nat) : Int), .int .i64 1]) (R := JScanK dp { v1 with rd := d5' } (wj.adds [wT1 a1 a2])) Tryz.call18 rfl (permSc _ _ _) (fun w0 st2 st1 => jscan_k w0 (k1.rd d5') d5ok hd5 (by show d5' < _; omega) (old_out st2 (permSc _ _ _) hT.o) st1) rfl fun v C hv => ?_
    obtain ⟨p2, s3, d6, m, rfl, s3ok, hs3, d6ok, hd6, hm, rfl⟩ := hv
    have hm : m ≤ 85 := hm
    obtain ⟨d6', hrd6, hd6⟩ : ∃ r, r ≤ 100 ∧ d6.v = { v1 with rd := r } := ⟨_, by show d5' + m ≤ 100; omega, hd6⟩
    (repeat (first | refine WL.step (Yl.move rfl) rfl ?_ | refine WL.step (Yl.assign rfl) rfl ?_ | refine WL.step (Yl.extract rfl rfl) rfl ?_ | refine WC.seq ?_ | refine WC.region ?_ | refine WL.nil ?_ | refine WN.then_normal ?_))
    have k2 : Jok { v1 with rd := d6' } wn [] := jok_new ⟨k1.calm.up, k1.calm.pl⟩ k1.wf (by rw [l1]; decide) (by decide) (by decide) cl1
    refine WL.callS (g := 18) (A0 := drI dp d6) (vs := [bptr dp.bd, .int .i64 ((2 : Nat) : Int), .int .i64 ((16 : Nat) : Int), .int .i64 2]) (R := JScanK dp { v1 with rd := d6' } wn) Tryz.call18 rfl (permSc _ _ _) (fun w0 st2 st1 => jscan_k w0 k2 d6ok hd6 (by show d6' < _; omega) (old_out st2 (permSc _ _ _) hT.o) st1) rfl fun v C hv => ?_
    obtain ⟨p3, s4, d7, m, rfl, s4ok, hs4, d7ok, hd7, hm, rfl⟩ := hv
    have hm : m ≤ 85 := hm
    obtain ⟨d7', hrd7, hd7⟩ : ∃ r, r ≤ 200 ∧ d7.v = { v1 with rd := r } := ⟨_, by show d6' + m ≤ 200; omega, hd7⟩
    (repeat (first | refine WL.want rfl rfl rfl ?_ | refine WL.step (Yl.move rfl) rfl ?_ | refine WL.step (Yl.assign rfl) rfl ?_ | refine WL.step (Yl.extract rfl rfl) rfl ?_ | refine WL.step (Yl.pick_f rfl rfl rfl) rfl ?_ | refine WL.step (Yl.not rfl) rfl ?_ | refine WC.seq ?_ | refine WC.region ?_ | refine WL.nil ?_ | refine WN.then_normal ?_))
    refine WL.call (g := 53) Tryz.call53 rfl (fun w0 st2 => full_w 112 w0) rfl fun v1 B1 hv1 => ?_
    obtain ⟨a6, c6, hc6, rfl, rfl⟩ := hv1
    rw [show List.replicate 512 (112 : UInt8) = LP from rfl]
    simp only [List.cons_append, List.nil_append]
    refine WL.mid ?_
    (repeat (first | refine WL.want rfl rfl rfl ?_ | refine WL.step (Yl.move rfl) rfl ?_ | refine WL.step (Yl.pick_f rfl rfl rfl) rfl ?_ | (refine WL.k_call 47 ?_; refine WL.callV (g := 47) (v := .bool true) Tryz.call47 rfl (fun w0 st2 => by have := bequal_c (cutA q7.1 11 q7.2 1) a6 LP.length 512 (q7.2 - 11) 512 LP LP w0 rfl LP_len (by have h9 := (CellsOut.cutd (CellsAt.out (Rd.row (List.mem_append_right _ (.tail _ (List.mem_append_right _ (List.mem_append_right _ (.tail _ (.tail _ (.head _))))))) w0 st2)) 11 hu72).at_; rw [hu71] at h9; exact h9) (Rd.row (List.mem_append_right _ (.head _)) w0 st2); rw [decide_eq_true rfl] at this; exact this) rfl ?_) | refine WL.step (Yl.neqF rfl rfl rfl) rfl ?_ | refine WL.step (Yl.not rfl) rfl ?_))
    refine WL.callR (g := 34) Tryz.call34 rfl (fun w0 st2 => jpages_v [7, 9] w0 (s3ok.at_ st2 (fun x h => (List.mem_append_right _ (.tail _ (List.mem_append_left _ h))))) hs3 (wd1 a1 a2)) rfl fun q2 hq2 => ?_
    rw [ncells_z]
    refine WL.mid ?_
    (repeat (first | refine WL.want rfl rfl rfl ?_))
    refine WL.lit (t := 61) (vs := [.int .i64 7, .int .i64 9]) Tryz.underlying61 elemZ rfl rfl rfl (fun u hu => by simp at hu; rcases hu with rfl | rfl <;> rfl) rfl fun b6 => ?_
    rw [show flat [Value.int .i64 7, Value.int .i64 9] = zcells [7, 9] from rfl]
    refine WL.mid ?_
    (repeat (first | refine WL.want rfl rfl rfl ?_ | refine WL.step (Yl.move rfl) rfl ?_ | refine WL.step (Yl.pick_f rfl rfl rfl) rfl ?_ | (refine WL.k_call 40 ?_; refine WL.callV (g := 40) (v := .bool true) Tryz.call40 rfl (fun w0 st2 => by have := iequal_c q2.1 (some ⟨b6, 0, none⟩) 2 2 q2.2 2 [7, 9] [7, 9] w0 rfl rfl (by decide) (Rd.row (List.mem_append_right _ (.tail _ (.head _))) w0 st2) (Rd.row (List.mem_append_right _ (.head _)) w0 st2); exact this) rfl ?_) | refine WL.step (Yl.neq rfl rfl) rfl ?_ | refine WL.step (Yl.not rfl) rfl ?_))
    (repeat (first | refine WL.want rfl rfl rfl ?_ | refine WL.step (Yl.pick_f rfl rfl rfl) rfl ?_ | refine WL.step (Yl.neqF rfl rfl rfl) rfl ?_ | refine WL.callV (g := 35) (v := .int .i64 0) Tryz.call35 rfl (fun w0 st2 => jtx_v 0 w0 (s4ok.at_ st2 (fun x h => List.mem_append_left _ (List.mem_append_left _ h))) hs4 rfl) rfl ?_ | refine WL.nil ?_ | refine WN.then_normal ?_))
    refine WC.cond_false rfl rfl ?_
    (repeat (first | refine WL.step (Yl.move rfl) rfl ?_ | refine WC.seq ?_ | refine WC.region ?_ | refine WN.then_normal ?_ | refine WC.skip ?_))
    refine WL.call (g := 12) Tryz.call12 rfl (fun w0 st2 => jnew_v 2 16 2 w0 (d7ok.at_ st2 (fun x h => List.mem_append_left _ (List.mem_append_right _ h))) hd7 (by decide) (by decide) (by show 2 + 16 ≤ v1.d.length; rw [l1]; decide)) rfl fun v1 B1 hv1 => ?_
    obtain ⟨p4, s5, s5ok, hs5, rfl, rfl⟩ := hv1
    have hs5 : s5.v = wn := hs5
    refine WL.part (Part.perm (permSw _ _ _ _)) ?_
    (repeat (first | refine WL.want rfl rfl rfl ?_ | refine WL.step (Yl.move rfl) rfl ?_ | refine WL.step (Yl.assign rfl) rfl ?_ | refine WL.step (Yl.extract rfl rfl) rfl ?_ | refine WL.step (Yl.neqF rfl rfl rfl) rfl ?_ | refine WC.seq ?_ | refine WC.region ?_ | refine WL.nil ?_ | refine WN.then_normal ?_))
    refine WL.call (g := 53) Tryz.call53 rfl (fun w0 st2 => full_w 113 w0) rfl fun v1 B1 hv1 => ?_
    obtain ⟨a7, c7, hc7, rfl, rfl⟩ := hv1
    rw [show List.replicate 512 (113 : UInt8) = LQ from rfl]
    simp only [List.cons_append, List.nil_append]
    refine WL.mid ?_
    (repeat (first | refine WL.want rfl rfl rfl ?_ | refine WL.step (Yl.build (ps := [(0, .const (.int .i64 7)), (1, .tmp 199)]) (vs := [(0, .int .i64 7), (1, .slice a7 512 512)]) rfl (buildPg _ _ _ _)) rfl ?_))
    refine WL.lit (t := 37) (vs := [.agg #[.int .i64 7, .slice a7 512 512]]) Tryz.underlying37 elemPg rfl rfl rfl (fun u hu => by simp at hu; subst hu; rfl) rfl fun b7 => ?_
    rw [wT2_cs]
    refine WL.mid ?_
    (repeat (first | refine WL.want rfl rfl rfl ?_))
    have k3 : Jok { v1 with rd := d7' } wn [] := jok_new ⟨k1.calm.up, k1.calm.pl⟩ k1.wf (by rw [l1]; decide) (by decide) (by decide) cl1
    obtain ⟨v2, e2, k4, l2, o2, r2, _, _, _⟩ := k3.append (wT2_ok a7) (by show 0 + 5 * 1 + 1 ≤ 16; decide)
    have e2 : japp { v1 with rd := d7' } wn (wT2 a7) = (v2, wn.adds [wT2 a7], 0) := e2
    have k4 : Jok v2 wn [wT2 a7] := k4
    have r2 : v2.rd = d7' := r2
    have l2 : v2.d.length = 32 := l2.trans l1
    have o2 : v2.ops = 19 := by rw [o2]; show v1.ops + 7 = 19; rw [o1]
    refine WL.callS (g := 16) (A0 := jI dp.bd p4 s5 ++ drI dp d7) Tryz.call16 rfl (List.Perm.refl _) (fun w0 st2 st1 => jappend_v (some ⟨b7, 0, none⟩) 1 1 (wT2 a7) w0 _ d7ok hd7 s5ok hs5 e2 (by show v1.ops < _; rw [o1]; decide) rfl (by decide) (row_out st2 (List.Perm.refl _) (.head _)) (fun q hq => by simp only [wT2, List.mem_cons, List.not_mem_nil, or_false] at hq; subst hq; exact row_out st2 (List.Perm.refl _) (.tail _ (.head _))) (old_out st2 (List.Perm.refl _) hT.o) st1) rfl fun v C hv => ?_
    obtain ⟨rfl, d8, s6, d8ok, hd8, s6ok, hs6, rfl⟩ := hv
    simp only at hd8 hs6
    (repeat (first | refine WL.want rfl rfl rfl ?_ | refine WL.step (Yl.pick_f rfl rfl rfl) rfl ?_ | refine WL.step (Yl.neqF rfl rfl rfl) rfl ?_ | refine WL.nil ?_ | refine WN.then_normal ?_))
    refine WC.cond_false rfl rfl ?_
    (repeat (first | refine WL.step (Yl.move rfl) rfl ?_ | refine WC.seq ?_ | refine WC.region ?_ | refine WN.then_normal ?_ | refine WC.skip ?_))
    refine WL.callS (g := 18) (A0 := drI dp d8) (vs := [bptr dp.bd, .int .i64 ((2 : Nat) : Int), .int .i64 ((16 : Nat) : Int), .int .i64 2]) (R := JScanK dp v2 (wn.adds [wT2 a7])) Tryz.call18 rfl (permSc _ _ _) (fun w0 st2 st1 => jscan_k w0 k4 d8ok hd8 (by rw [r2]; omega) (old_out st2 (permSc _ _ _) hT.o) st1) rfl fun v C hv => ?_
    obtain ⟨p5, s7, d9, m, rfl, s7ok, hs7, d9ok, hd9, hm, rfl⟩ := hv
    have hl9 : d9.v.d.length = 32 := by rw [hd9]; exact l2
    (repeat (first | refine WL.step (Yl.move rfl) rfl ?_ | refine WL.step (Yl.assign rfl) rfl ?_ | refine WL.step (Yl.extract rfl rfl) rfl ?_ | refine WC.seq ?_ | refine WC.region ?_ | refine WL.nil ?_ | refine WN.then_normal ?_))
    refine WL.callV (g := 12) (v := .tuple #[.pointer none, .int .i64 ((3 : Nat) : Int)]) (vs := [bptr dp.bd, .int .i64 20, .int .i64 16, .int .i64 2]) Tryz.call12 rfl (fun w0 st2 => jnew_ve 20 16 2 3 w0 (d9ok.at_ st2 (fun x h => List.mem_append_left _ (List.mem_append_right _ h))) rfl (by rw [hl9]; decide) (by decide)) rfl ?_
    (repeat (first | refine WL.step (Yl.move rfl) rfl ?_ | refine WL.step (Yl.assign rfl) rfl ?_ | refine WL.step (Yl.extract rfl rfl) rfl ?_ | refine WC.seq ?_ | refine WC.region ?_ | refine WL.nil ?_ | refine WN.then_normal ?_))
    refine WL.callV (g := 12) (v := .tuple #[.pointer none, .int .i64 ((2 : Nat) : Int)]) (vs := [bptr dp.bd, .int .i64 2, .int .i64 16, .int .i64 0]) Tryz.call12 rfl (fun w0 st2 => jnew_ve 2 16 0 2 w0 (d9ok.at_ st2 (fun x h => List.mem_append_left _ (List.mem_append_right _ h))) rfl (by rw [hl9]; decide) (by decide)) rfl ?_
    (repeat (first | refine WL.want rfl rfl rfl ?_ | refine WL.step (Yl.move rfl) rfl ?_ | refine WL.step (Yl.assign rfl) rfl ?_ | refine WL.step (Yl.extract rfl rfl) rfl ?_ | refine WL.step (Yl.eqlT rfl rfl rfl) rfl ?_ | refine WC.seq ?_ | refine WC.region ?_ | refine WL.nil ?_ | refine WN.then_normal ?_))
    refine WL.callR (g := 34) Tryz.call34 rfl (fun w0 st2 => jpages_v [7] w0 (s7ok.at_ st2 (fun x h => List.mem_append_left _ (List.mem_append_left _ h))) hs7 (wd2 a7)) rfl fun q3 hq3 => ?_
    rw [ncells_z]
    refine WL.mid ?_
    (repeat (first | refine WL.want rfl rfl rfl ?_))
    refine WL.lit (t := 61) (vs := [.int .i64 7]) Tryz.underlying61 elemZ rfl rfl rfl (fun u hu => by simp at hu; subst hu; rfl) rfl fun b8 => ?_
    rw [show flat [Value.int .i64 7] = zcells [7] from rfl]
    refine WL.mid ?_
    (repeat (first | refine WL.want rfl rfl rfl ?_ | refine WL.step (Yl.move rfl) rfl ?_ | refine WL.step (Yl.pick_t rfl rfl rfl) rfl ?_ | (refine WL.k_call 40 ?_; refine WL.callV (g := 40) (v := .bool true) Tryz.call40 rfl (fun w0 st2 => by have := iequal_c q3.1 (some ⟨b8, 0, none⟩) 1 1 q3.2 1 [7] [7] w0 rfl rfl (by decide) (Rd.row (List.mem_append_right _ (.tail _ (.head _))) w0 st2) (Rd.row (List.mem_append_right _ (.head _)) w0 st2); exact this) rfl ?_) | refine WL.callV (g := 36) (v := .int .i64 6) Tryz.call36 rfl (fun w0 st2 => jused_v 6 w0 (s7ok.at_ st2 (fun x h => List.mem_append_left _ (List.mem_append_left _ h))) hs7 rfl) rfl ?_ | refine WL.step (Yl.eqlT rfl rfl rfl) rfl ?_))
    refine WL.part (Part.perm (permX _ _ _ _ _ _)) ?_
    refine WL.callS (g := 16) (A0 := jI dp.bd p4 s6 ++ drI dp d9) (vs := [bptr p4.bj, .slice none 0 0]) (R := JAppV dp p4 (d9.v, wn.adds [wT2 a7], 2)) Tryz.call16 rfl (List.Perm.refl _) (fun w0 st2 st1 => jappend_v none 0 0 [] w0 _ d9ok rfl s6ok hs6 (japp_arg (by decide)) (by rw [hd9]; show v2.ops < _; rw [o2]; decide) rfl (by decide) (.inl rfl) (fun q hq => by cases hq) (old_out st2 (List.Perm.refl _) hT.o) st1) rfl fun v C hv => ?_
    obtain ⟨rfl, d10, s8, d10ok, hd10, s8ok, hs8, rfl⟩ := hv
    simp only at hd10 hs8
    (repeat (first | refine WL.want rfl rfl rfl ?_ | refine WL.step (Yl.move rfl) rfl ?_ | refine WL.step (Yl.pick_t rfl rfl rfl) rfl ?_ | refine WL.step (Yl.eqlT rfl rfl rfl) rfl ?_))
    refine WL.call (g := 53) Tryz.call53 rfl (fun w0 st2 => full_w 112 w0) rfl fun v1 B1 hv1 => ?_
    obtain ⟨a8, c8, hc8, rfl, rfl⟩ := hv1
    rw [show List.replicate 512 (112 : UInt8) = LP from rfl]
    simp only [List.cons_append, List.nil_append]
    refine WL.mid ?_
    (repeat (first | refine WL.want rfl rfl rfl ?_ | refine WL.step (Yl.build (ps := [(0, .const (.int .i64 9)), (1, .tmp 248)]) (vs := [(0, .int .i64 9), (1, .slice a8 512 512)]) rfl (buildPg _ _ _ _)) rfl ?_))
    refine WL.call (g := 53) Tryz.call53 rfl (fun w0 st2 => full_w 112 w0) rfl fun v1 B1 hv1 => ?_
    obtain ⟨a9, c9, hc9, rfl, rfl⟩ := hv1
    rw [show List.replicate 512 (112 : UInt8) = LP from rfl]
    simp only [List.cons_append, List.nil_append]
    refine WL.mid ?_
    (repeat (first | refine WL.want rfl rfl rfl ?_ | refine WL.step (Yl.build (ps := [(0, .const (.int .i64 7)), (1, .tmp 250)]) (vs := [(0, .int .i64 7), (1, .slice a9 512 512)]) rfl (buildPg _ _ _ _)) rfl ?_))
    refine WL.lit (t := 37) (vs := [.agg #[.int .i64 9, .slice a8 512 512], .agg #[.int .i64 7, .slice a9 512 512]]) Tryz.underlying37 elemPg rfl rfl rfl (fun u hu => by simp at hu; rcases hu with rfl | rfl <;> rfl) rfl fun b9 => ?_
    rw [wT3_cs]
    refine WL.mid ?_
    (repeat (first | refine WL.want rfl rfl rfl ?_))
    refine WL.callS (g := 16) (A0 := jI dp.bd p4 s8 ++ drI dp d10) (vs := [bptr p4.bj, .slice (some ⟨b9, 0, none⟩) 2 2]) (R := JAppV dp p4 (d9.v, wn.adds [wT2 a7], 2)) Tryz.call16 rfl (List.Perm.refl _) (fun w0 st2 st1 => jappend_v (some ⟨b9, 0, none⟩) 2 2 (wT3 a8 a9) w0 _ d10ok hd10 s8ok hs8 (japp_arg (by rw [wT3_no]; decide)) (by rw [hd9]; show v2.ops < _; rw [o2]; decide) rfl (by decide) (row_out st2 (List.Perm.refl _) (.head _)) (fun q hq => by simp only [wT3, List.mem_cons, List.not_mem_nil, or_false] at hq; rcases hq with rfl | rfl; exact row_out st2 (List.Perm.refl _) (.tail _ (.tail _ (.head _))); exact row_out st2 (List.Perm.refl _) (.tail _ (.head _))) (old_out st2 (List.Perm.refl _) hT.o) st1) rfl fun v C hv => ?_
    obtain ⟨rfl, d11, s9, d11ok, hd11, s9ok, hs9, rfl⟩ := hv
    (repeat (first | refine WL.want rfl rfl rfl ?_ | refine WL.step (Yl.assign rfl) rfl ?_ | refine WL.step (Yl.pick_t rfl rfl rfl) rfl ?_ | refine WL.step (Yl.eqlT rfl rfl rfl) rfl ?_ | refine WL.nil ?_ | refine WN.then_normal ?_ | refine WC.ret ?_))
    exact WN.ret1 rfl rfl ⟨rfl, rfl⟩ .nil
end Go.Proofs.YtbkdjfgkebkknaaGreatDoor
namespace Go.Proofs.YtbkdjfgkebkknaaGreatDoor
set_option linter.unusedVariables false
set_option linter.unusedSimpArgs false
open Go Go.RowKit
set_option maxRecDepth 100000
set_option maxHeartbeats 8000000
theorem permU {A B : List HA} (h : ∀ [BEq HA] [LawfulBEq HA] (u : HA), A.count u = B.count u) : A.Perm B := by
  classical
  exact List.perm_iff_count.2 fun u => h u
structure Tr where
  a : Option Addr
  c : Nat
  nos : List UInt8
  fill : UInt8
def Tr.cs (t : Tr) : List Value := [.slice t.a t.nos.length t.c, bv t.fill]
def Tr.v (t : Tr) : Value := .agg #[.slice t.a t.nos.length t.c, bv t.fill]
structure Tr.Ok (t : Tr) (w : World) : Prop where
  c : t.nos.length ≤ t.c
  m : t.c ≤ 9223372036854775807
  r : CellsAt w t.a (bs t.nos)
theorem Tr.Ok.keep {t : Tr} {w w' : World} (h : t.Ok w) (k : Kept w [] w') : t.Ok w' := ⟨h.c, h.m, h.r.keep k⟩
def trs (X : List Tr) : List Value := X.flatMap Tr.cs
theorem tr_at {X : List Tr} {i : Nat} {t : Tr} (h : X[i]? = some t) : ((trs X).drop (i * 2)).take t.cs.length = t.cs := flatM_at (f := Tr.cs) (k := 2) (fun _ => rfl) h
theorem trs_ne {X : List Tr} {i : Nat} {t : Tr} (h : X[i]? = some t) : trs X ≠ [] := by
  cases X with
  | nil => simp at h
  | cons y X => simp [trs, Tr.cs]
theorem tpages_c (t : Tr) (w : World) (h : t.Ok w) : Calls Tryz.prog 14 #[t.v] w (Gives (PgsV (tpL t.nos t.fill)) w) := pages_c t.a t.nos.length t.c t.nos t.fill w rfl h.c h.m h.r
def FS (Ts : List (List Pg)) : SM := Ts.foldl (fun F T => byS T F) noS
theorem FS_snoc (Ts : List (List Pg)) (T : List Pg) : FS (Ts ++ [T]) = byS T (FS Ts) := by simp [FS]
theorem FS_c (Ts : List (List Pg)) : (FS Ts).c = noC.adds Ts := by
  have h : ∀ (Ts : List (List Pg)) (F : SM), (Ts.foldl (fun F T => byS T F) F).c = F.c.adds Ts := fun Ts => by
    induction Ts with
    | nil => intro F; rfl
    | cons T Ts ih => intro F; rw [List.foldl_cons, ih, byS_c]; rfl
  exact h Ts noS
theorem Jok.get {v : DV} {j0 : JV} {Ts : List (List Pg)} (h : Jok v j0 Ts) (r : Nat) (no : Nat) (hn : no < 4096) : jget { v with rd := r } (j0.adds Ts) (no : Int) = getR (noC.adds Ts) no := by
  rw [jget_spec (h.rd r).calm.up (h.rd r).fc, if_neg (by omega), Int.toNat_natCast]
  rfl
theorem Jok.rowa {v : DV} {j0 : JV} {Ts : List (List Pg)} (h : Jok v j0 Ts) : (j0.adds Ts).first + (j0.adds Ts).n ≤ v.d.length := by
  obtain ⟨s1, s2, _⟩ := adds_same Ts j0
  rw [s1, s2]; exact h.row
theorem inf_out {w0 w : World} {S : List Nat} {A A0 B Z : List HA} {s : Sl} (h : InF Z s) (hz : ∀ x ∈ Z, x ∈ B) (st : St w0 S A w) (hp : A.Perm (A0 ++ B)) : CellsOut w (A0.filterMap HA.foot) s.a (bs s.l) := (h.mono hz).out st hp
section
variable {dp : DP} {ds : DS} {p : JP} {s : JS} {S : List Nat}
end
end Go.Proofs.YtbkdjfgkebkknaaGreatDoor
namespace Go.Proofs.YtbkdjfgkebkknaaGreatDoor
set_option linter.unusedVariables false
set_option linter.unusedSimpArgs false
open Go Go.RowKit
set_option maxRecDepth 100000
theorem getD_set_ne {l : List UInt8} {k i : Nat} {x : UInt8} (h : k ≠ i) : (l.set k x).getD i 0 = l.getD i 0 := by
  simp [List.getD, List.getElem?_set_ne h]
theorem rowB_one {v : DV} (hw : BkWf v.d v.F) {a : Nat} (h : a < v.d.length) : rowB v a 1 = secV v a := by
  have := rowB_sec hw (a := a) (k := 0) h
  rw [show (1 : Nat) = 0 + 1 from rfl, rowB_succ, this]; rfl
theorem trF_app (ep : Int) (tx : Nat) : ∀ (M N : List Pg) (i : Nat), trF ep tx i (M ++ N) = trF ep tx i M ++ trF ep tx (i + M.length) N
  | [], N, i => by simp [trF]
  | q :: M, N, i => by rw [List.cons_append, trF, trF, trF_app ep tx M N (i + 1), List.append_assoc, List.length_cons, show i + (M.length + 1) = i + 1 + M.length by omega]
end Go.Proofs.YtbkdjfgkebkknaaGreatDoor
