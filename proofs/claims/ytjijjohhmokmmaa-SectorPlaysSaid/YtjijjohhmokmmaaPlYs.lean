/- A bank and the document's, step by step, up to twelve sectors. -/
import Derived.Test.YtjijjohhmokmmaaPlSt
namespace Go.Proofs.Ytjijjohhmokmmaa
set_option linter.unusedVariables false
set_option linter.unusedSimpArgs false
open Go Go.RowKit
set_option maxRecDepth 100000
set_option maxHeartbeats 8000000
attribute [local irreducible] WL WC WN Yl WH WQ WT WE WU WG WV
theorem lplays_yes (n : Nat) (a : Option Addr) (m cap : Nat) (L : List Step) (w : World) (hl : L.length = m) (hm : m ≤ 9223372036854775807) (hr : CellsAt w a (L.flatMap Step.cs)) (hok : ∀ s ∈ L, s.Ok w) (hf : fewOk L 40) (h1 : 1 ≤ n) (h2 : n ≤ 12) : Calls Try.prog 8 #[.int .i64 (n : Int), .slice a m cap] w (Gives (Val (.bool true)) w) := by
  refine enter (args := [_, _]) Try.func8 Try.ntmps8 rfl rfl ?_
  (repeat (first | refine WL.step (Yl.move rfl) rfl ?_ | refine WL.step (Yl.assign rfl) rfl ?_ | refine WC.seq ?_ | refine WC.region ?_ | refine WL.nil ?_ | refine WN.then_normal ?_))
  refine WL.callV (g := 29) (v := .bool true) Try.call29 rfl (fun w0 st => by have := lfew_c a m cap L 40 w0 hl hm (hr.keep st.kept) (fun t ht => (hok t ht).keep st.kept); rwa [decide_eq_true hf] at this) rfl ?_
  (repeat (first | (refine WL.kG ?_; first | refine WL.want rfl rfl rfl ?_ | refine WL.pass rfl rfl rfl rfl ?_) | refine WL.step (Yl.move rfl) rfl ?_ | refine WL.step (Yl.pick_f rfl rfl rfl) rfl ?_ | (refine WL.k_bin .gtr ?_; refine WL.step (Yl.gtrF rfl rfl (by omega)) rfl ?_) | refine WL.step (Yl.not rfl) rfl ?_ | refine WL.nil ?_ | refine WN.then_normal ?_))
  refine WC.cond_false rfl rfl ?_
  (repeat (first | refine WL.step (Yl.move rfl) rfl ?_ | refine WC.seq ?_ | refine WC.region ?_ | refine WN.then_normal ?_ | refine WC.skip ?_))
  refine WL.call (g := 17) Try.call17 rfl (fun w0 st => bnew_c n w0 h1 (by omega)) rfl fun v1 B1 hv1 => ?_
  obtain ⟨bk, da, cp, mb, hcap, rfl, rfl⟩ := hv1
  obtain ⟨BI, hBI⟩ : ∃ BI, BI = bankItems bk da cp mb (List.replicate n zblk) [] 0 := ⟨_, rfl⟩
  rw [← hBI]
  (repeat (first | refine WL.step (Yl.move rfl) rfl ?_ | refine WL.step (Yl.assign rfl) rfl ?_ | refine WL.step (Yl.extract rfl rfl) rfl ?_ | refine WC.seq ?_ | refine WC.region ?_ | refine WL.nil ?_ | refine WN.then_normal ?_))
  refine WL.call (g := 30) Try.call30 rfl (fun w0 st => rnew_c n w0 h1 (by omega)) rfl fun v1 B1 hv1 => ?_
  obtain ⟨p, os, fs, Is, Z, rfl, rfl, hrk, hin⟩ := hv1
  have hs0 : (⟨os, fs, Is, List.replicate n zblk, fun _ => none, [], 0, Z⟩ : PS).Ok ⟨bk, da, cp, mb, p⟩ := ⟨new_wf h1 (by omega), by simp only [List.length_replicate]; exact hcap, MapIs.empty (β := List UInt8) _, hrk, hin⟩
  obtain ⟨s0, hse⟩ : ∃ s : PS, s = ⟨os, fs, Is, List.replicate n zblk, fun _ => none, [], 0, Z⟩ := ⟨_, rfl⟩
  rw [← hse] at hs0
  refine WL.part (B := s0.bI ⟨bk, da, cp, mb, p⟩ ++ (s0.rI ⟨bk, da, cp, mb, p⟩ ++ s0.Z)) (by subst hse hBI; rw [List.append_nil]; exact Part.perm (permE _ _ _)) ?_
  clear hse hBI hrk hin hcap
  (repeat (first | refine WL.want rfl rfl rfl ?_ | refine WL.step (Yl.move rfl) rfl ?_ | refine WL.step (Yl.assign rfl) rfl ?_ | refine WL.step (Yl.extract rfl rfl) rfl ?_ | refine WL.step (Yl.pick_f rfl rfl rfl) rfl ?_ | (refine WL.k_bin .neq ?_; first | refine WL.step (Yl.neqF rfl rfl rfl) rfl ?_ | refine WL.step (Yl.neqB (t := 4) Try.underlying4 rfl rfl) rfl ?_) | (refine WL.k_bin .eql ?_; refine WL.step (Yl.eqlPN (by kernel_rfl) rfl) rfl ?_) | refine WC.seq ?_ | refine WC.region ?_ | refine WL.nil ?_ | refine WN.then_normal ?_))
  refine WC.cond_false rfl rfl ?_
  (repeat (first | refine WL.step (Yl.assign rfl) rfl ?_ | refine WC.seq ?_ | refine WC.region ?_ | refine WL.nil ?_ | refine WN.then_normal ?_ | refine WC.block ?_ | refine WC.skip ?_))
  refine WC.loop (α := PI) (fun x => [(1, .slice a m cap), (5, bptr x.q.bk), (7, bptr x.q.p.br), (9, .int .i64 (x.i : Int))]) (fun x => x.s.bI x.q ++ (x.s.rI x.q ++ x.s.Z)) (fun x => x.i ≤ m ∧ x.s.Ok x.q) (fun x => m - x.i) ⟨⟨bk, da, cp, mb, p⟩, s0, 0⟩ (by repeat (first | exact Sub.nil | refine Sub.cons rfl rfl ?_)) (Part.refl _) ⟨Nat.zero_le _, hs0⟩ ?_
  clear hs0
  rintro ⟨q, s, i⟩ ⟨hi, hs⟩
  simp only at hi hs ⊢
  (repeat (first | refine WL.step (Yl.move rfl) rfl ?_ | refine WL.step (Yl.len (t := 57) Try.underlying57 rfl) rfl ?_ | refine WL.step (Yl.lss rfl rfl) rfl ?_ | refine WC.seq ?_ | refine WC.region ?_ | refine WL.nil ?_ | refine WN.then_normal ?_))
  refine WC.ite rfl (fun g1 => ?_) (fun g1 => ?_)
  · have hid : i < m := by omega
    obtain ⟨x, hx⟩ : ∃ t, L[i]? = some t := ⟨_, List.getElem?_eq_getElem (by omega)⟩
    have hxo := hok x (List.mem_of_getElem? hx)
    have hxr := hxo.hr.out
    have hxr2 := hxo.hr2.out
    have hxm := hxo.hm2
    have hxc := hxo.hc2
    (repeat (first | refine WL.step (Yl.move rfl) rfl ?_ | (refine WL.k_load ?_; refine WL.step (Yl.loadEl x.cs Try.isAgg63 Try.sizeOf63 rfl (Rd.old hr) x.len (by simp [Step.cs]) (step_at hx)) rfl ?_) | refine WL.step (Yl.indexAddr (t := 57) (j := i) Try.underlying57 Try.sizeOf63 rfl rfl (Rd.old hr) (step_ne hx) hid) rfl ?_ | refine WC.seq ?_ | refine WC.region ?_ | refine WN.then_normal ?_ | refine WC.block ?_ | refine WC.skip ?_))
    refine WL.allocA Try.zeroValue63 rfl fun b1 => ?_
    refine WL.storeWhole (T := 63) (k := 4) Try.sizeOf63 rfl rfl rfl .here rfl rfl ?_
    (repeat (first | refine WL.step (Yl.assign rfl) rfl ?_ | (refine WL.k_load ?_; refine WL.step (Yl.loadBlk (T := 3) Try.isAgg3 rfl (by repeat (first | exact .head _ | refine .tail _ ?_)) (by rfl)) rfl ?_) | (refine WL.k_fld ?_; refine WL.step (Yl.fldN0 (i := 0) (o := 0) (by kernel_rfl) rfl) rfl ?_) | refine WL.step (Yl.eql rfl rfl) rfl ?_ | refine WC.seq ?_ | refine WC.region ?_ | refine WL.nil ?_ | refine WN.then_normal ?_ | refine WC.block ?_))
    by_cases h0 : x.act = 0
    · refine WC.cond_true rfl (decide_eq_true h0) ?_
      (repeat (first | refine WC.seq ?_))
      refine WC.regionH [.blk b1 (.cells x.cs.toArray 63 (0, 0))] (by kernel_rfl) ?_
      (refine WH.order [0, 1, 2, 3, 4, 6, 7, 8, 9, 10] (by repeat (first | exact Part.nil | refine Part.cons (by repeat (first | exact Pick.here | apply Pick.there)) ?_ | refine Part.free ?_)) (by kernel_rfl) ?_; (repeat (first | (refine WT.k_move rfl ?_; (refine WT.kn rfl ?_; refine WT.take rfl rfl (fun _ _ _ h => h) (Yl.move rfl) rfl (by kernel_rfl) (by kernel_rfl) ?_)) | (refine WT.k_load rfl ?_; (refine WT.kn rfl ?_; first | refine WT.take rfl rfl (fun _ _ _ h => h) (Yl.loadBlk (T := 3) Try.isAgg3 rfl (by repeat (first | exact .head _ | refine .tail _ ?_)) (by rfl)) rfl (by kernel_rfl) (by kernel_rfl) ?_ | refine WT.take rfl rfl (fun _ _ _ h => h) (Yl.loadBlk (T := 22) Try.isAgg22 rfl (by repeat (first | exact .head _ | refine .tail _ ?_)) (by rfl)) rfl (by kernel_rfl) (by kernel_rfl) ?_)) | (refine WT.k_fld rfl ?_; (refine WT.kn rfl ?_; first | refine WT.take rfl rfl (fun _ _ _ h => h) (Yl.fldN0 (i := 1) (o := 1) (by kernel_rfl) rfl) rfl (by kernel_rfl) (by kernel_rfl) ?_ | refine WT.take rfl rfl (fun _ _ _ h => h) (Yl.fldN0 (i := 2) (o := 2) (by kernel_rfl) rfl) rfl (by kernel_rfl) (by kernel_rfl) ?_)))); refine WT.nil ?_)
      refine WH.only (i := 5) (by kernel_rfl) rfl ?_
      refine WL.callS (g := 19) (A0 := s.bI q) (B := .blk b1 (.cells x.cs.toArray 63 (0, 0)) :: (s.rI q ++ s.Z)) Try.call19 rfl (permA _ _ _) (fun w0 st s1 => bwrite_r x.a x.n x.c x.l x.sec s.M s.c w0 hs.wf hs.cap hs.m hxo.hl s1 (old_out st (permA _ _ _) hxr)) rfl fun v C hv => ?_
      obtain ⟨M1, c1, hM1, rfl, rfl⟩ := hv
      obtain ⟨BI, hBI⟩ : ∃ BI, BI = bankItems q.bk q.da q.cap q.mb s.d M1 c1 := ⟨_, rfl⟩
      rw [← hBI]
      refine WL.nil (WN.nextH (.cons (Pick.app BI .here) .nil) ?_)
      refine WH.only (i := 11) (by kernel_rfl) rfl ?_
      refine WL.callS (g := 31) (A0 := s.rI q) (B := BI ++ .blk b1 (.cells x.cs.toArray 63 (0, 0)) :: s.Z) Try.call31 rfl (permB _ _ _ _) (fun w0 st s1 => rwrite_r x.a x.n x.c x.l x.sec w0 hs.wf hs.ok (hs.outs st (permB _ _ _ _) fun y hy => List.mem_append_right _ (.tail _ hy)) hxo.hl (old_out st (permB _ _ _ _) hxr) s1) rfl fun v C hv => ?_
      obtain ⟨rfl, os', fs', Is', Z', rfl, hok', hin'⟩ := hv
      obtain ⟨RI, hRI⟩ : ∃ RI, RI = rbI q.p os' fs' Is' := ⟨_, rfl⟩
      rw [← hRI]
      refine WL.nil (WN.nextH (.cons (Pick.app (RI ++ Z') (Pick.app BI .here)) .nil) ?_)
      refine WH.only (i := 12) (by kernel_rfl) rfl ?_
      refine WL.step (Yl.neqF rfl rfl rfl) rfl ?_
      refine WL.nil (WN.nextH (.cons (Pick.app (RI ++ Z') (Pick.app BI .here)) .nil) ?_)
      refine WH.done (by kernel_rfl) ?_
      (repeat (first | refine WN.then_normal ?_))
      refine WC.cond_false rfl rfl ?_
      have hs2 := hs.next (d' := s.d) (F' := (writeF s.d.length s.F x.sec x.l)) (write_wf hs.wf x.sec x.l) rfl hM1 hok' hin'
      obtain ⟨s2, hs2e⟩ : ∃ s2 : PS, s2 = ⟨os', fs', Is', s.d, (writeF s.d.length s.F x.sec x.l), M1, c1, Z' ++ s.Z⟩ := ⟨_, rfl⟩
      rw [← hs2e] at hs2
      refine WC.part (B := .blk b1 (.cells x.cs.toArray 63 (0, 0)) :: (s2.bI q ++ (s2.rI q ++ s2.Z))) (Part.perm (by subst hs2e hBI hRI; exact permC _ _ _ _ _)) ?_
      clear hs2e hBI hRI hok' hin' hM1
      (repeat (first | refine WL.step (Yl.move rfl) rfl ?_ | (refine WL.k_load ?_; refine WL.step (Yl.loadBlk (T := 3) Try.isAgg3 rfl (by repeat (first | exact .head _ | refine .tail _ ?_)) (by rfl)) rfl ?_) | (refine WL.k_fld ?_; refine WL.step (Yl.fldN0 (i := 1) (o := 1) (by kernel_rfl) rfl) rfl ?_) | refine WC.seq ?_ | refine WC.region ?_ | refine WN.then_normal ?_ | refine WC.skip ?_ | refine WN.block_normal ?_))
      refine WL.callV (g := 37) (v := .bool true) Try.call37 rfl (fun w0 st => whole_c x.sec w0 (hs2.bank st (fun x hx => .tail _ (List.mem_append_left _ hx))) (hs2.rb st (fun x hx => .tail _ (List.mem_append_right _ (List.mem_append_left _ hx))) (fun x hx => .tail _ (List.mem_append_right _ (List.mem_append_right _ hx))))) rfl ?_
      (repeat (first | refine WL.step (Yl.not rfl) rfl ?_ | refine WL.nil ?_ | refine WN.then_normal ?_))
      refine WC.cond_false rfl rfl ?_
      (repeat (first | refine WL.step (Yl.move rfl) rfl ?_ | refine WL.step (Yl.assign rfl) rfl ?_ | (refine WL.k_bin .add ?_; refine WL.step (Yl.add64C rfl (by omega)) rfl ?_) | refine WC.region ?_ | refine WL.nil ?_ | refine WN.then_normal ?_ | refine WC.skip ?_ | refine WN.block_normal ?_))
      exact WN.next ⟨q, s2, i + 1⟩ ⟨by simp only; omega, hs2⟩ (by simp only; omega) (by repeat (first | exact Sub.nil | refine Sub.cons rfl rfl ?_)) (.more (Part.refl _))
    by_cases h1 : x.act = 1
    · refine WC.cond_false rfl (decide_eq_false h0) ?_
      (repeat (first | refine WL.step (Yl.assign rfl) rfl ?_ | refine WL.step (Yl.eql rfl rfl) rfl ?_ | refine WC.seq ?_ | refine WC.region ?_ | refine WL.nil ?_ | refine WN.then_normal ?_))
      refine WC.cond_true rfl (decide_eq_true h1) ?_
      (repeat (first | refine WL.step (Yl.move rfl) rfl ?_ | refine WC.seq ?_ | refine WC.region ?_))
      refine WL.callS (g := 32) (A0 := s.bI q) (B := .blk b1 (.cells x.cs.toArray 63 (0, 0)) :: (s.rI q ++ s.Z)) Try.call32 rfl (permA _ _ _) (fun w0 st s1 => bsync_r s.M s.c w0 hs.wf hs.cap hs.m s1) rfl fun v C hv => ?_
      obtain ⟨M1, c1, hM1, rfl, rfl⟩ := hv
      obtain ⟨BI, hBI⟩ : ∃ BI, BI = bankItems q.bk q.da q.cap q.mb (crashR [128] s.d s.F).1.1 M1 c1 := ⟨_, rfl⟩
      rw [← hBI]
      (repeat (first | refine WL.step (Yl.move rfl) rfl ?_))
      refine WL.callS (g := 33) (A0 := s.rI q) (B := BI ++ .blk b1 (.cells x.cs.toArray 63 (0, 0)) :: s.Z) Try.call33 rfl (permB _ _ _ _) (fun w0 st s1 => rsync_r w0 hs.wf hs.ok (hs.outs st (permB _ _ _ _) fun y hy => List.mem_append_right _ (.tail _ hy)) rfl s1) rfl fun v C hv => ?_
      obtain ⟨rfl, os', fs', Is', Z', rfl, hok', hin'⟩ := hv
      obtain ⟨RI, hRI⟩ : ∃ RI, RI = rbI q.p os' fs' Is' := ⟨_, rfl⟩
      rw [← hRI]
      (repeat (first | refine WL.step (Yl.neqF rfl rfl rfl) rfl ?_ | refine WL.nil ?_ | refine WN.then_normal ?_))
      refine WC.cond_false rfl rfl ?_
      have hs2 := hs.next (d' := (crashR [128] s.d s.F).1.1) (F' := (crashR [128] s.d s.F).1.2) ((crash_wf [128] hs.wf).1) (crash_wf [128] hs.wf).2 hM1 hok' hin'
      obtain ⟨s2, hs2e⟩ : ∃ s2 : PS, s2 = ⟨os', fs', Is', (crashR [128] s.d s.F).1.1, (crashR [128] s.d s.F).1.2, M1, c1, Z' ++ s.Z⟩ := ⟨_, rfl⟩
      rw [← hs2e] at hs2
      refine WC.part (B := .blk b1 (.cells x.cs.toArray 63 (0, 0)) :: (s2.bI q ++ (s2.rI q ++ s2.Z))) (Part.perm (by subst hs2e hBI hRI; exact permC _ _ _ _ _)) ?_
      clear hs2e hBI hRI hok' hin' hM1
      (repeat (first | refine WL.step (Yl.move rfl) rfl ?_ | (refine WL.k_load ?_; refine WL.step (Yl.loadBlk (T := 3) Try.isAgg3 rfl (by repeat (first | exact .head _ | refine .tail _ ?_)) (by rfl)) rfl ?_) | (refine WL.k_fld ?_; refine WL.step (Yl.fldN0 (i := 1) (o := 1) (by kernel_rfl) rfl) rfl ?_) | refine WC.seq ?_ | refine WC.region ?_ | refine WN.then_normal ?_ | refine WC.skip ?_ | refine WN.block_normal ?_))
      refine WL.callV (g := 37) (v := .bool true) Try.call37 rfl (fun w0 st => whole_c x.sec w0 (hs2.bank st (fun x hx => .tail _ (List.mem_append_left _ hx))) (hs2.rb st (fun x hx => .tail _ (List.mem_append_right _ (List.mem_append_left _ hx))) (fun x hx => .tail _ (List.mem_append_right _ (List.mem_append_right _ hx))))) rfl ?_
      (repeat (first | refine WL.step (Yl.not rfl) rfl ?_ | refine WL.nil ?_ | refine WN.then_normal ?_))
      refine WC.cond_false rfl rfl ?_
      (repeat (first | refine WL.step (Yl.move rfl) rfl ?_ | refine WL.step (Yl.assign rfl) rfl ?_ | (refine WL.k_bin .add ?_; refine WL.step (Yl.add64C rfl (by omega)) rfl ?_) | refine WC.region ?_ | refine WL.nil ?_ | refine WN.then_normal ?_ | refine WC.skip ?_ | refine WN.block_normal ?_))
      exact WN.next ⟨q, s2, i + 1⟩ ⟨by simp only; omega, hs2⟩ (by simp only; omega) (by repeat (first | exact Sub.nil | refine Sub.cons rfl rfl ?_)) (.more (Part.refl _))
    by_cases h2 : x.act = 2
    · refine WC.cond_false rfl (decide_eq_false h0) ?_
      (repeat (first | refine WL.step (Yl.assign rfl) rfl ?_ | refine WL.step (Yl.eql rfl rfl) rfl ?_ | refine WC.seq ?_ | refine WC.region ?_ | refine WL.nil ?_ | refine WN.then_normal ?_))
      refine WC.cond_false rfl (decide_eq_false h1) ?_
      (repeat (first | refine WL.step (Yl.assign rfl) rfl ?_ | refine WL.step (Yl.eql rfl rfl) rfl ?_ | refine WC.seq ?_ | refine WC.region ?_ | refine WL.nil ?_ | refine WN.then_normal ?_))
      refine WC.cond_true rfl (decide_eq_true h2) ?_
      (repeat (first | refine WC.seq ?_))
      refine WC.regionH [.blk b1 (.cells x.cs.toArray 63 (0, 0))] (by kernel_rfl) ?_
      (refine WH.order [0, 1, 2, 4, 5, 6] (by repeat (first | exact Part.nil | refine Part.cons (by repeat (first | exact Pick.here | apply Pick.there)) ?_ | refine Part.free ?_)) (by kernel_rfl) ?_; (repeat (first | (refine WT.k_move rfl ?_; (refine WT.kn rfl ?_; refine WT.take rfl rfl (fun _ _ _ h => h) (Yl.move rfl) rfl (by kernel_rfl) (by kernel_rfl) ?_)) | (refine WT.k_load rfl ?_; (refine WT.kn rfl ?_; refine WT.take rfl rfl (fun _ _ _ h => h) (Yl.loadBlk (T := 41) Try.isAgg41 rfl (by repeat (first | exact .head _ | refine .tail _ ?_)) (by rfl)) rfl (by kernel_rfl) (by kernel_rfl) ?_)) | (refine WT.k_fld rfl ?_; (refine WT.kn rfl ?_; refine WT.take rfl rfl (fun _ _ _ h => h) (Yl.fldN0 (i := 3) (o := 3) (by kernel_rfl) rfl) rfl (by kernel_rfl) (by kernel_rfl) ?_)))); refine WT.nil ?_)
      refine WH.only (i := 3) (by kernel_rfl) rfl ?_
      refine WL.callS (g := 22) (A0 := s.bI q) (B := .blk b1 (.cells x.cs.toArray 63 (0, 0)) :: (s.rI q ++ s.Z)) Try.call22 rfl (permA _ _ _) (fun w0 st s1 => bcrash_r x.a2 x.n2 x.c2 x.K s.M s.c w0 hs.wf hs.cap hs.m hxo.hl2 (by omega) s1 (old_out st (permA _ _ _) hxr2)) rfl fun v C hv => ?_
      obtain ⟨M1, c1, hM1, rfl, rfl⟩ := hv
      obtain ⟨BI, hBI⟩ : ∃ BI, BI = bankItems q.bk q.da q.cap q.mb (crashR x.K s.d s.F).1.1 M1 c1 := ⟨_, rfl⟩
      rw [← hBI]
      refine WL.nil (WN.nextH (.cons (Pick.app BI .here) .nil) ?_)
      refine WH.only (i := 7) (by kernel_rfl) rfl ?_
      refine WL.callS (g := 34) (A0 := s.rI q) (B := BI ++ .blk b1 (.cells x.cs.toArray 63 (0, 0)) :: s.Z) Try.call34 rfl (permB _ _ _ _) (fun w0 st s1 => rcrash_r x.a2 x.n2 x.c2 x.K w0 hs.wf hs.ok (hs.outs st (permB _ _ _ _) fun y hy => List.mem_append_right _ (.tail _ hy)) hxo.hl2 (by omega) (old_out st (permB _ _ _ _) hxr2) s1) rfl fun v C hv => ?_
      obtain ⟨rfl, os', fs', Is', Z', rfl, hok', hin'⟩ := hv
      obtain ⟨RI, hRI⟩ : ∃ RI, RI = rbI q.p os' fs' Is' := ⟨_, rfl⟩
      rw [← hRI]
      refine WL.nil (WN.nextH (.cons (Pick.app (RI ++ Z') (Pick.app BI .here)) .nil) ?_)
      refine WH.only (i := 8) (by kernel_rfl) rfl ?_
      refine WL.step (Yl.neqF rfl rfl rfl) rfl ?_
      refine WL.nil (WN.nextH (.cons (Pick.app (RI ++ Z') (Pick.app BI .here)) .nil) ?_)
      refine WH.done (by kernel_rfl) ?_
      (repeat (first | refine WN.then_normal ?_))
      refine WC.cond_false rfl rfl ?_
      have hs2 := hs.next (d' := (crashR x.K s.d s.F).1.1) (F' := (crashR x.K s.d s.F).1.2) ((crash_wf x.K hs.wf).1) (crash_wf x.K hs.wf).2 hM1 hok' hin'
      obtain ⟨s2, hs2e⟩ : ∃ s2 : PS, s2 = ⟨os', fs', Is', (crashR x.K s.d s.F).1.1, (crashR x.K s.d s.F).1.2, M1, c1, Z' ++ s.Z⟩ := ⟨_, rfl⟩
      rw [← hs2e] at hs2
      refine WC.part (B := .blk b1 (.cells x.cs.toArray 63 (0, 0)) :: (s2.bI q ++ (s2.rI q ++ s2.Z))) (Part.perm (by subst hs2e hBI hRI; exact permC _ _ _ _ _)) ?_
      clear hs2e hBI hRI hok' hin' hM1
      (repeat (first | refine WL.step (Yl.move rfl) rfl ?_ | (refine WL.k_load ?_; refine WL.step (Yl.loadBlk (T := 3) Try.isAgg3 rfl (by repeat (first | exact .head _ | refine .tail _ ?_)) (by rfl)) rfl ?_) | (refine WL.k_fld ?_; refine WL.step (Yl.fldN0 (i := 1) (o := 1) (by kernel_rfl) rfl) rfl ?_) | refine WC.seq ?_ | refine WC.region ?_ | refine WN.then_normal ?_ | refine WC.skip ?_ | refine WN.block_normal ?_))
      refine WL.callV (g := 37) (v := .bool true) Try.call37 rfl (fun w0 st => whole_c x.sec w0 (hs2.bank st (fun x hx => .tail _ (List.mem_append_left _ hx))) (hs2.rb st (fun x hx => .tail _ (List.mem_append_right _ (List.mem_append_left _ hx))) (fun x hx => .tail _ (List.mem_append_right _ (List.mem_append_right _ hx))))) rfl ?_
      (repeat (first | refine WL.step (Yl.not rfl) rfl ?_ | refine WL.nil ?_ | refine WN.then_normal ?_))
      refine WC.cond_false rfl rfl ?_
      (repeat (first | refine WL.step (Yl.move rfl) rfl ?_ | refine WL.step (Yl.assign rfl) rfl ?_ | (refine WL.k_bin .add ?_; refine WL.step (Yl.add64C rfl (by omega)) rfl ?_) | refine WC.region ?_ | refine WL.nil ?_ | refine WN.then_normal ?_ | refine WC.skip ?_ | refine WN.block_normal ?_))
      exact WN.next ⟨q, s2, i + 1⟩ ⟨by simp only; omega, hs2⟩ (by simp only; omega) (by repeat (first | exact Sub.nil | refine Sub.cons rfl rfl ?_)) (.more (Part.refl _))
    by_cases h3 : x.act = 3
    · refine WC.cond_false rfl (decide_eq_false h0) ?_
      (repeat (first | refine WL.step (Yl.assign rfl) rfl ?_ | refine WL.step (Yl.eql rfl rfl) rfl ?_ | refine WC.seq ?_ | refine WC.region ?_ | refine WL.nil ?_ | refine WN.then_normal ?_))
      refine WC.cond_false rfl (decide_eq_false h1) ?_
      (repeat (first | refine WL.step (Yl.assign rfl) rfl ?_ | refine WL.step (Yl.eql rfl rfl) rfl ?_ | refine WC.seq ?_ | refine WC.region ?_ | refine WL.nil ?_ | refine WN.then_normal ?_))
      refine WC.cond_false rfl (decide_eq_false h2) ?_
      (repeat (first | refine WL.step (Yl.assign rfl) rfl ?_ | refine WL.step (Yl.eql rfl rfl) rfl ?_ | refine WC.seq ?_ | refine WC.region ?_ | refine WL.nil ?_ | refine WN.then_normal ?_))
      refine WC.cond_true rfl (decide_eq_true h3) ?_
      (repeat (first | refine WL.step (Yl.move rfl) rfl ?_ | refine WC.seq ?_ | refine WC.region ?_))
      refine WL.call (g := 35) Try.call35 rfl (fun w0 st => bcopy_c w0 (hs.bank st (fun x hx => .tail _ (List.mem_append_left _ hx)))) rfl fun v1 B1 hv1 => ?_
      obtain ⟨bc, cda, ccap, cmb, Mc, cc, hcapc, hMc, rfl, rfl⟩ := hv1
      obtain ⟨BI, hBI⟩ : ∃ BI, BI = bankItems bc cda ccap cmb s.d Mc cc := ⟨_, rfl⟩
      rw [← hBI]
      (repeat (first | refine WL.step (Yl.move rfl) rfl ?_ | refine WL.step (Yl.assign rfl) rfl ?_ | refine WC.region ?_ | refine WL.nil ?_ | refine WN.then_normal ?_))
      refine WL.call (g := 36) Try.call36 rfl (fun w0 st => rcopy_c w0 (hs.rb st (fun x hx => List.mem_append_right _ (.tail _ (List.mem_append_right _ (List.mem_append_left _ hx)))) (fun x hx => List.mem_append_right _ (.tail _ (List.mem_append_right _ (List.mem_append_right _ hx)))))) rfl fun v1 B1 hv1 => ?_
      obtain ⟨p', rfl, rfl⟩ := hv1
      have hs2 : (⟨s.os, s.fs, s.Is, s.d, s.F, Mc, cc, s.Z⟩ : PS).Ok ⟨bc, cda, ccap, cmb, p'⟩ := ⟨hs.wf, hcapc, hMc, hs.ok, hs.z⟩
      obtain ⟨s2, hs2e⟩ : ∃ s2 : PS, s2 = ⟨s.os, s.fs, s.Is, s.d, s.F, Mc, cc, s.Z⟩ := ⟨_, rfl⟩
      rw [← hs2e] at hs2
      refine WL.part (Part.perm (permD _ _ _ _)) (WL.part (partD _ _ _ _ _ _) ?_)
      refine WL.part (B := .blk b1 (.cells x.cs.toArray 63 (0, 0)) :: (s2.bI ⟨bc, cda, ccap, cmb, p'⟩ ++ (s2.rI ⟨bc, cda, ccap, cmb, p'⟩ ++ s2.Z))) (by subst hs2e hBI; exact Part.refl _) ?_
      clear hs2e hBI hMc hcapc
      (repeat (first | refine WL.step (Yl.move rfl) rfl ?_ | refine WL.step (Yl.assign rfl) rfl ?_ | (refine WL.k_load ?_; refine WL.step (Yl.loadBlk (T := 3) Try.isAgg3 rfl (by repeat (first | exact .head _ | refine .tail _ ?_)) (by rfl)) rfl ?_) | (refine WL.k_fld ?_; refine WL.step (Yl.fldN0 (i := 1) (o := 1) (by kernel_rfl) rfl) rfl ?_) | refine WC.seq ?_ | refine WC.region ?_ | refine WL.nil ?_ | refine WN.then_normal ?_ | refine WN.block_normal ?_))
      refine WL.callV (g := 37) (v := .bool true) Try.call37 rfl (fun w0 st => whole_c x.sec w0 (hs2.bank st (fun x hx => .tail _ (List.mem_append_left _ hx))) (hs2.rb st (fun x hx => .tail _ (List.mem_append_right _ (List.mem_append_left _ hx))) (fun x hx => .tail _ (List.mem_append_right _ (List.mem_append_right _ hx))))) rfl ?_
      (repeat (first | refine WL.step (Yl.not rfl) rfl ?_ | refine WL.nil ?_ | refine WN.then_normal ?_))
      refine WC.cond_false rfl rfl ?_
      (repeat (first | refine WL.step (Yl.move rfl) rfl ?_ | refine WL.step (Yl.assign rfl) rfl ?_ | (refine WL.k_bin .add ?_; refine WL.step (Yl.add64C rfl (by omega)) rfl ?_) | refine WC.region ?_ | refine WL.nil ?_ | refine WN.then_normal ?_ | refine WC.skip ?_ | refine WN.block_normal ?_))
      exact WN.next ⟨⟨bc, cda, ccap, cmb, p'⟩, s2, i + 1⟩ ⟨by simp only; omega, hs2⟩ (by simp only; omega) (by repeat (first | exact Sub.nil | refine Sub.cons rfl rfl ?_)) (.more (Part.refl _))
    refine WC.cond_false rfl (decide_eq_false h0) ?_
    (repeat (first | refine WL.step (Yl.assign rfl) rfl ?_ | refine WL.step (Yl.eql rfl rfl) rfl ?_ | refine WC.seq ?_ | refine WC.region ?_ | refine WL.nil ?_ | refine WN.then_normal ?_))
    refine WC.cond_false rfl (decide_eq_false h1) ?_
    (repeat (first | refine WL.step (Yl.assign rfl) rfl ?_ | refine WL.step (Yl.eql rfl rfl) rfl ?_ | refine WC.seq ?_ | refine WC.region ?_ | refine WL.nil ?_ | refine WN.then_normal ?_))
    refine WC.cond_false rfl (decide_eq_false h2) ?_
    (repeat (first | refine WL.step (Yl.assign rfl) rfl ?_ | refine WL.step (Yl.eql rfl rfl) rfl ?_ | refine WC.seq ?_ | refine WC.region ?_ | refine WL.nil ?_ | refine WN.then_normal ?_))
    refine WC.cond_false rfl (decide_eq_false h3) ?_
    (repeat (first | refine WL.step (Yl.move rfl) rfl ?_ | refine WC.seq ?_ | refine WC.region ?_ | refine WN.then_normal ?_ | refine WC.skip ?_ | refine WN.block_normal ?_))
    have hs2 := hs
    obtain ⟨s2, rfl⟩ : ∃ s2 : PS, s2 = s := ⟨_, rfl⟩
    (repeat (first | (refine WL.k_load ?_; refine WL.step (Yl.loadBlk (T := 3) Try.isAgg3 rfl (by repeat (first | exact .head _ | refine .tail _ ?_)) (by rfl)) rfl ?_) | (refine WL.k_fld ?_; refine WL.step (Yl.fldN0 (i := 1) (o := 1) (by kernel_rfl) rfl) rfl ?_)))
    refine WL.callV (g := 37) (v := .bool true) Try.call37 rfl (fun w0 st => whole_c x.sec w0 (hs2.bank st (fun x hx => .tail _ (List.mem_append_left _ hx))) (hs2.rb st (fun x hx => .tail _ (List.mem_append_right _ (List.mem_append_left _ hx))) (fun x hx => .tail _ (List.mem_append_right _ (List.mem_append_right _ hx))))) rfl ?_
    (repeat (first | refine WL.step (Yl.not rfl) rfl ?_ | refine WL.nil ?_ | refine WN.then_normal ?_))
    refine WC.cond_false rfl rfl ?_
    (repeat (first | refine WL.step (Yl.move rfl) rfl ?_ | refine WL.step (Yl.assign rfl) rfl ?_ | (refine WL.k_bin .add ?_; refine WL.step (Yl.add64C rfl (by omega)) rfl ?_) | refine WC.region ?_ | refine WL.nil ?_ | refine WN.then_normal ?_ | refine WC.skip ?_ | refine WN.block_normal ?_))
    exact WN.next ⟨q, s2, i + 1⟩ ⟨by simp only; omega, hs2⟩ (by simp only; omega) (by repeat (first | exact Sub.nil | refine Sub.cons rfl rfl ?_)) (.more (Part.refl _))
  · (repeat (first | refine WL.step (Yl.assign rfl) rfl ?_ | (refine WL.k_call 12 ?_; refine WL.callV (g := 12) Try.call12 rfl (fun w s => works32_c w) rfl ?_) | refine WC.seq ?_ | refine WC.region ?_ | refine WL.nil ?_ | refine WN.then_normal ?_ | refine WC.exit ?_ | refine WC.ret ?_ | refine WN.then_exit ?_ | refine WN.block_here ?_))
    exact WN.ret1 rfl rfl ⟨rfl, rfl⟩ .nil
end Go.Proofs.Ytjijjohhmokmmaa
