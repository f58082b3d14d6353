/- Nodes of which one thing is not as it has to be are refused. -/
import Derived.Test.YtbfhdggfdhlkfaaNod21
import Derived.Test.YtbfhdggfdhlkfaaNodBad
import Derived.Test.YtbfhdggfdhlkfaaNod19
import Derived.Test.YtbfhdggfdhlkfaaTwo
import Derived.Test.YtbfhdggfdhlkfaaRowEl
namespace Go.Proofs.Ytbfhdggfdhlkfaa
set_option linter.unusedVariables false
set_option linter.unusedSimpArgs false
open Go Go.RowKit
set_option maxRecDepth 100000
set_option maxHeartbeats 8000000
theorem buildV0 (w : World) : (Instr.build 73 [].toArray).run Try.prog w = .ok (.agg (bs zval).toArray) w := by
  have h : (Try.prog.info? 73).map (fun i => i.zero) = some (some (.agg (bs zval).toArray)) := by kernel_rfl
  simp only [Instr.build, zero_of h]
  rfl
theorem split_bad {x : Nod.N} (p : Pl) (w : World) (hx : x.Wf) (hb : ¬ Nod.Formed x) (h : NdAt w x p) : Calls Try.prog 17 #[ndv x p] w (Gives (SpP (Nod.zero, zkey, Nod.zero, 2)) w) := by
  have := split_c x p w hx h
  rwa [sp_not (Nod.formed_not hb).2] at this
theorem enc_bad {x : Nod.N} (p : Pl) (w : World) (hx : x.Wf) (hb : ¬ Nod.Formed x) (h : NdAt w x p) : Calls Try.prog 15 #[ndv x p] w (Gives (Slc (2, [])) w) := by
  have := encode_c x p w hx h
  rwa [enc_none (Nod.formed_not hb).1] at this
theorem check_bad {x : Nod.N} (p : Pl) (w : World) (hx : x.Wf) (hb : ¬ Nod.Formed x) (h : NdAt w x p) : Calls Try.prog 19 #[ndv x p] w (Gives (Val (.int .i64 2)) w) := by
  have := check_c x p w hx h
  rw [err_bad (Nod.formed_not hb).1] at this
  exact this
theorem kids_pos {x : Nod.N} (h : Nod.Formed x) (hl : x.leaf = false) : 0 < x.cs.length := by
  have h2 := h.2
  rw [if_neg (by rw [hl]; decide)] at h2
  omega
theorem icells_set (l : List Int) (i : Nat) (c : Int) : (icells l).set i (.int .i64 c) = icells (l.set i c) := by simp [icells, List.map_set]
theorem kcells_put {l : List Nod.K} (hl : ∀ k ∈ l, k.Wf) {j : Nat} (hj : j < l.length) {k : Nod.K} (hk : k.Wf) : (kcells l).take (j * 33) ++ kv k ++ (kcells l).drop (j * 33 + (kv k).length) = kcells (l.set j k) := by
  have e1 := kcells_cut hl 0 j
  have e2 := kcells_cut hl (j + 1) l.length
  simp only [Nat.zero_mul, List.drop_zero] at e1
  rw [List.take_of_length_le (l := List.drop _ (kcells l)) (by rw [List.length_drop, kcells_len hl]; omega), List.take_of_length_le (l := List.drop _ l) (by rw [List.length_drop]; omega)] at e2
  rw [kv_len hk, show j * 33 + 33 = (j + 1) * 33 by omega, e1, e2, List.set_eq_take_append_cons_drop, if_pos hj]
  simp [kcells]
attribute [local irreducible] WL WC WN Yl WH WQ WT WE WU Nod.made Nod.Formed Nod.D.count
theorem lrefuses_c (d : Nod.D) (sa va ka : Option Addr) (sc vc cc s : Nat) (c : UInt8) (w : World) (hs : s < 65536) (hD : d.Wf) (h : DAt w d sa va ka) :
    Calls Try.prog 11 #[drv d.leaf d.first sa va ka d.steps.length sc d.vals.length vc d.kids.length cc, bv c, .int .u16 (s : Int)] w (Gives (Val (.bool true)) w) := by
  have hcb := byte_lt c
  obtain ⟨over, hov⟩ : ∃ o : Bool, o = decide (((c.toNat &&& 128 : Nat) : Int) ≠ 0) := ⟨_, rfl⟩
  have hw := Nod.made_wf hD over
  have hfm := Nod.made_formed hD over
  have hk12 : (Nod.made d over).ks.length ≤ 12 := by rw [Nod.made_ks, Nod.mkeys_len]; exact Nod.count_le d over
  have hmade := fun w h => made_c d over sa va ka sc vc cc w hD h
  generalize Nod.made d over = x at *
  obtain ⟨hv12, hc13⟩ := Nod.formed_sizes hfm hk12
  refine enter (args := [_, .int .u8 (c.toNat : Int), _]) Try.func11 Try.ntmps11 rfl rfl ?_
  (repeat (first | refine WL.step (Yl.move rfl) rfl ?_ | refine WL.step (Yl.assign rfl) rfl ?_ | refine WL.boxA (cs := #[.bool d.leaf, .int .u64 (d.first : Int), .slice sa d.steps.length sc, .slice va d.vals.length vc, .slice ka d.kids.length cc]) rfl rfl fun b3 => ?_ | refine WC.seq ?_ | refine WC.region ?_ | refine WL.nil ?_ | refine WN.then_normal ?_))
  (repeat (first | refine WL.step (Yl.move rfl) rfl ?_ | refine WL.step (Yl.assign rfl) rfl ?_ | (refine WL.k_load ?_; refine WL.step (Yl.loadAll (T := 65) (T' := 65) Try.isAgg65 Try.sizeOf65 rfl (by repeat (first | exact .head _ | refine .tail _ ?_)) rfl) rfl ?_) | (refine WL.k_bin .and ?_; refine WL.step (Yl.andC (c := 128) rfl rfl (by show _ < 256; omega) (by decide)) rfl ?_) | refine WL.step (Yl.neq rfl rfl) rfl ?_ | refine WC.seq ?_ | refine WC.region ?_ | refine WL.nil ?_ | refine WN.then_normal ?_))
  rw [← hov]
  refine WL.call (g := 29) Try.call29 rfl (fun w s => hmade w ((DAt.old h).at_ s)) rfl fun v1 B1 hv1 => ?_
  obtain ⟨p1, g1, g2, g3, rfl, rfl⟩ := hv1
  simp only [List.cons_append, List.nil_append, id]
  refine WL.allocA Try.zeroValue26 rfl fun b8 => ?_
  refine WL.storeWhole (T := 26) (k := 4) (us := (ndl x p1).toArray) Try.sizeOf26 rfl rfl rfl (by repeat (first | exact Pick.here | apply Pick.there)) rfl rfl ?_
  (repeat (first | refine WL.step (Yl.move rfl) rfl ?_ | refine WL.step (Yl.assign rfl) rfl ?_ | (refine WL.k_load ?_; refine WL.step (Yl.loadBlk (T := 22) Try.isAgg22 rfl (by repeat (first | exact .head _ | refine .tail _ ?_)) (by rfl)) rfl ?_) | refine WL.step (Yl.fld0 (t := 26) Try.underlying26 fl26 rfl rfl) rfl ?_ | refine WL.step (Yl.len (t := 22) Try.underlying22 rfl) rfl ?_ | (refine WL.k_bin .rem ?_; refine WL.step (Yl.remC (c := 7) rfl (by decide)) rfl ?_) | (refine WL.k_bin .sub ?_; refine WL.step (Yl.sub64 rfl rfl (by omega)) rfl ?_) | refine WL.step (Yl.eql rfl rfl) rfl ?_ | refine WC.seq ?_ | refine WC.region ?_ | refine WL.nil ?_ | refine WN.then_normal ?_ | refine WC.block ?_))
  refine WC.joinB (α := Nod.N × Pl) (fun _ => [(8, .pointer (some ⟨b8, 0, none⟩))]) (fun g => [.blk b8 (.cells (ndl g.1 g.2).toArray 26 (0, 0)), .row g.2.ka g.2.kc 42 33 (kcells g.1.ks), .row g.2.va g.2.vc 73 20 (vcells g.1.vs), .row g.2.ca g.2.cc 3 1 (icells g.1.cs)]) (fun g => g.1.Wf ∧ ¬ Nod.Formed g.1 ∧ Caps g.1 g.2) ?_ ?_
  · obtain ⟨m, hm⟩ : ∃ m, c.toNat % 7 = m := ⟨_, rfl⟩
    rw [hm]
    have hm7 : m < 7 := by omega
    rcases (show m = 0 ∨ m = 1 ∨ m = 2 ∨ m = 3 ∨ m = 4 ∨ m = 5 ∨ m = 6 by omega) with rfl | rfl | rfl | rfl | rfl | rfl | rfl
    · skip
      refine WC.cond_true rfl rfl ?_
      (repeat (first | (refine WL.k_load ?_; refine WL.step (Yl.loadBlk (T := 23) Try.isAgg23 rfl (by repeat (first | exact .head _ | refine .tail _ ?_)) (by rfl)) rfl ?_) | refine WL.step (Yl.fld0 (t := 26) Try.underlying26 fl26 rfl rfl) rfl ?_ | refine WL.step (Yl.build (ps := []) rfl buildV0) rfl ?_ | refine WC.region ?_))
      refine WL.lit (t := 23) Try.underlying23 elemVal rfl rfl rfl (fun u hu => by rw [List.mem_singleton.1 hu]; show (bs _).toArray.size = 20; rw [List.size_toArray, bs_length]; rfl) rfl fun b9 => ?_
      rw [flatV]
      refine WL.appendRow (t := 23) (n := x.vs.length) (m := 1) (olds := vcells x.vs) Try.underlying23 elemVal rfl rfl (by repeat (first | exact Pick.here | apply Pick.there)) (vcells_len hw.vs) g2 (Rd.row (.head _)) (by rw [bs_length]; rfl) (bs_one _) (by omega) (by simp only [maxLen]; omega) rfl fun q2 hq2 => ?_
      rw [← vcells_snoc]
      (repeat (first | refine WL.step (Yl.fld0 (t := 26) Try.underlying26 fl26 rfl rfl) rfl ?_))
      refine WL.storeAt (T := 23) Try.sizeOf23 rfl rfl rfl (by repeat (first | exact Pick.here | apply Pick.there)) rfl ?_
      (repeat (first | refine WL.nil ?_ | refine WN.block_normal ?_))
      exact WN.join ((⟨x.leaf, x.ks, x.vs ++ [zval], x.cs⟩ : Nod.N), (⟨p1.ka, p1.kc, q2.1, q2.2, p1.ca, p1.cc⟩ : Pl)) ⟨⟨hw.ks, fun v hv => by rcases List.mem_append.1 hv with h1 | h1; exact hw.vs v h1; rw [List.mem_singleton.1 h1]; rfl, hw.cs, hw.kl, by simp only [List.length_append, List.length_singleton]; omega, hw.cl⟩, Nod.bad_vals hfm _, ⟨g1, by simpa using hq2, g3⟩⟩ (by repeat (first | exact Sub.nil | refine Sub.cons rfl rfl ?_)) (by simp only [ndl, List.length_append, List.length_singleton, List.length_set]; exact (by repeat (first | exact Part.nil | refine Part.cons (by repeat (first | exact Pick.here | apply Pick.there)) ?_ | refine Part.free ?_)))
    · skip
      refine WC.cond_false rfl rfl ?_
      (repeat (first | refine WL.step (Yl.assign rfl) rfl ?_ | (refine WL.k_bin .eql ?_; refine WL.step (Yl.eqlT rfl rfl (by decide)) rfl ?_) | refine WC.seq ?_ | refine WC.region ?_ | refine WL.nil ?_ | refine WN.then_normal ?_))
      refine WC.cond_true rfl rfl ?_
      (repeat (first | (refine WL.k_load ?_; refine WL.step (Yl.loadBlk (T := 24) Try.isAgg24 rfl (by repeat (first | exact .head _ | refine .tail _ ?_)) (by rfl)) rfl ?_) | refine WL.step (Yl.fld0 (t := 26) Try.underlying26 fl26 rfl rfl) rfl ?_ | refine WC.region ?_))
      refine WL.lit (t := 24) (vs := [.int .i64 1]) Try.underlying24 elemInt rfl rfl rfl (fun u hu => by rw [List.mem_singleton.1 hu]; rfl) rfl fun b9 => ?_
      refine WL.appendRow (t := 24) (n := x.cs.length) (m := 1) (olds := icells x.cs) (news := [.int .i64 1]) Try.underlying24 elemInt rfl rfl (by repeat (first | exact Pick.here | apply Pick.there)) (by rw [icells_len, Nat.mul_one]) g3 (Rd.row (.head _)) rfl (fun u hu => by rw [List.mem_singleton.1 hu]; rfl) (by omega) (by simp only [maxLen]; omega) rfl fun q2 hq2 => ?_
      rw [← icells_snoc]
      (repeat (first | refine WL.step (Yl.fld0 (t := 26) Try.underlying26 fl26 rfl rfl) rfl ?_))
      refine WL.storeAt (T := 24) Try.sizeOf24 rfl rfl rfl (by repeat (first | exact Pick.here | apply Pick.there)) rfl ?_
      (repeat (first | refine WL.nil ?_ | refine WN.block_normal ?_))
      exact WN.join ((⟨x.leaf, x.ks, x.vs, x.cs ++ [1]⟩ : Nod.N), (⟨p1.ka, p1.kc, p1.va, p1.vc, q2.1, q2.2⟩ : Pl)) ⟨⟨hw.ks, hw.vs, fun v hv => by rcases List.mem_append.1 hv with h1 | h1; exact hw.cs v h1; rw [List.mem_singleton.1 h1]; decide, hw.kl, hw.vl, by simp only [List.length_append, List.length_singleton]; omega⟩, Nod.bad_kids hfm _, ⟨g1, g2, by simpa using hq2⟩⟩ (by repeat (first | exact Sub.nil | refine Sub.cons rfl rfl ?_)) (by simp only [ndl, List.length_append, List.length_singleton, List.length_set]; exact (by repeat (first | exact Part.nil | refine Part.cons (by repeat (first | exact Pick.here | apply Pick.there)) ?_ | refine Part.free ?_)))
    · skip
      refine WC.cond_false rfl rfl ?_
      (repeat (first | refine WL.step (Yl.assign rfl) rfl ?_ | (refine WL.k_bin .eql ?_; refine WL.step (Yl.eqlF rfl rfl (by decide)) rfl ?_) | refine WC.seq ?_ | refine WC.region ?_ | refine WL.nil ?_ | refine WN.then_normal ?_))
      refine WC.cond_false rfl rfl ?_
      (repeat (first | refine WL.step (Yl.assign rfl) rfl ?_ | (refine WL.k_bin .eql ?_; refine WL.step (Yl.eqlT rfl rfl (by decide)) rfl ?_) | refine WC.seq ?_ | refine WC.region ?_ | refine WL.nil ?_ | refine WN.then_normal ?_))
      refine WC.cond_true rfl rfl ?_
      by_cases hl : 2 ≤ x.ks.length
      · rw [show ((x.ks.length : Int) - 1) = ((x.ks.length - 1 : Nat) : Int) by omega]
        have him : s % (x.ks.length - 1) < x.ks.length - 1 := Nat.mod_lt _ (by omega)
        have hi0 : s % (x.ks.length - 1) < x.ks.length := by omega
        have hki := hw.ks _ (key_mem hi0)
        (repeat (first | refine WL.step (Yl.move rfl) rfl ?_ | (refine WL.k_bin .lss ?_; refine WL.step (Yl.lssF rfl rfl (by omega)) rfl ?_) | refine WC.seq ?_ | refine WC.region ?_ | refine WL.nil ?_ | refine WN.then_normal ?_))
        refine WC.cond_false rfl rfl ?_
        (repeat (first | refine WL.step (Yl.move rfl) rfl ?_ | refine WL.step (Yl.assign rfl) rfl ?_ | (refine WL.k_conv ?_; refine WL.step (Yl.conv64 (s := 66) (t := 3) Try.underlying66 Try.underlying3 rfl (by omega)) rfl ?_) | (refine WL.k_bin .rem ?_; refine WL.step (Yl.remN rfl rfl (by omega)) rfl ?_) | refine WC.seq ?_ | refine WC.region ?_ | refine WL.nil ?_ | refine WN.then_normal ?_ | refine WC.skip ?_))
        generalize s % (x.ks.length - 1) = i at *
        refine WC.regionE [.blk b8 (.cells (ndl x p1).toArray 26 (0, 0)), .row p1.ka p1.kc 42 33 (kcells x.ks)] 10 (by kernel_rfl) ?_
        (refine WE.order [0, 1, 2, 3, 4, 5, 6, 7, 8, 9] (by repeat (first | exact Part.nil | refine Part.cons (by repeat (first | exact Pick.here | apply Pick.there)) ?_ | refine Part.free ?_)) (by kernel_rfl) ?_; (repeat (first | (refine WU.k_move rfl ?_; (refine WU.kn rfl ?_; refine WU.take rfl rfl (fun _ _ _ h => h) (Yl.move rfl) rfl (by kernel_rfl) (by kernel_rfl) (by kernel_rfl) ?_)) | (refine WU.k_load rfl ?_; (refine WU.kn rfl ?_; first | refine WU.take rfl rfl (fun _ _ _ h => h) (Yl.loadBlk (T := 22) Try.isAgg22 rfl (by repeat (first | exact .head _ | refine .tail _ ?_)) (by rfl)) rfl (by kernel_rfl) (by kernel_rfl) (by kernel_rfl) ?_ | refine WU.take rfl rfl (fun _ _ _ h => h) (Yl.loadEl (kv (Nod.key x.ks i)) Try.isAgg42 Try.sizeOf42 rfl (Rd.row (by repeat (first | exact .head _ | refine .tail _ ?_))) (kv_len hki) (kv_ne _) (kcells_at hw.ks hi0)) rfl (by kernel_rfl) (by kernel_rfl) (by kernel_rfl) ?_)) | (refine WU.k_fld rfl ?_; (refine WU.kn rfl ?_; refine WU.take rfl rfl (fun _ _ _ h => h) (Yl.fld0 (t := 26) Try.underlying26 fl26 rfl rfl) rfl (by kernel_rfl) (by kernel_rfl) (by kernel_rfl) ?_)) | (refine WU.k_idxa rfl ?_; (refine WU.kn rfl ?_; refine WU.take rfl rfl (fun _ _ _ h => h) (Yl.indexAddr (t := 22) Try.underlying22 Try.sizeOf42 rfl rfl (Rd.row (vs := kcells x.ks) (T := 42) (k := 33) (cap := p1.kc) (by repeat (first | exact .head _ | refine .tail _ ?_))) (kcells_ne hi0) (by omega)) rfl (by kernel_rfl) (by kernel_rfl) (by kernel_rfl) ?_)) | (refine WU.k_bin .add rfl ?_; (refine WU.kn rfl ?_; refine WU.take rfl rfl (fun _ _ _ h => h) (Yl.add64C rfl (by omega)) rfl (by kernel_rfl) (by kernel_rfl) (by kernel_rfl) ?_)))); refine WU.nil ?_)
        refine WE.only (i := 10) (by kernel_rfl) rfl fun sh => ?_
        refine WL.storeRowEl (us := kv (Nod.key x.ks i)) (i := (i + 1) * 33) (vs := kcells x.ks) (fun w => by rw [kv_len hki]; exact Try.sizeOf42 w) rfl rfl rfl (kv_one _) (by repeat (first | exact Pick.here | apply Pick.there)) (by rw [kv_len hki]; decide) (by rw [kcells_len hw.ks, kv_len hki]; omega) ?_
        rw [kcells_put hw.ks (by omega) hki]
        refine WL.nil (WN.lastE (by kernel_rfl) sh (WE.done (by kernel_rfl) ?_))
        (repeat (first | refine WN.block_normal ?_))
        exact WN.join ((⟨x.leaf, x.ks.set (i + 1) (Nod.key x.ks i), x.vs, x.cs⟩ : Nod.N), p1) ⟨⟨Nod.set_wf hw.ks hki, hw.vs, hw.cs, by simp only [List.length_set]; exact hw.kl, hw.vl, hw.cl⟩, Nod.bad_dup (by omega), ⟨by simp only [List.length_set]; exact g1, g2, g3⟩⟩ (by repeat (first | exact Sub.nil | refine Sub.cons rfl rfl ?_)) (by simp only [ndl, List.length_append, List.length_singleton, List.length_set]; exact (by repeat (first | exact Part.nil | refine Part.cons (by repeat (first | exact Pick.here | apply Pick.there)) ?_ | refine Part.free ?_)))
      · (repeat (first | refine WL.step (Yl.move rfl) rfl ?_ | (refine WL.k_bin .lss ?_; refine WL.step (Yl.lssT rfl rfl (by omega)) rfl ?_) | refine WC.seq ?_ | refine WC.region ?_ | refine WL.nil ?_ | refine WN.then_normal ?_))
        refine WC.cond_true rfl rfl ?_
        (repeat (first | refine WL.step (Yl.assign rfl) rfl ?_ | (refine WL.k_call 13 ?_; refine WL.callV (g := 13) Try.call13 rfl (fun w s => works38_c w) rfl ?_) | refine WC.seq ?_ | refine WC.region ?_ | refine WL.nil ?_ | refine WN.then_normal ?_ | refine WC.ret ?_ | refine WN.then_ret ?_ | refine WN.block_ret ?_))
        exact WN.ret1 rfl rfl ⟨rfl, rfl⟩ .nil
    · skip
      refine WC.cond_false rfl rfl ?_
      (repeat (first | refine WL.step (Yl.assign rfl) rfl ?_ | (refine WL.k_bin .eql ?_; refine WL.step (Yl.eqlF rfl rfl (by decide)) rfl ?_) | refine WC.seq ?_ | refine WC.region ?_ | refine WL.nil ?_ | refine WN.then_normal ?_))
      refine WC.cond_false rfl rfl ?_
      (repeat (first | refine WL.step (Yl.assign rfl) rfl ?_ | (refine WL.k_bin .eql ?_; refine WL.step (Yl.eqlF rfl rfl (by decide)) rfl ?_) | refine WC.seq ?_ | refine WC.region ?_ | refine WL.nil ?_ | refine WN.then_normal ?_))
      refine WC.cond_false rfl rfl ?_
      (repeat (first | refine WL.step (Yl.assign rfl) rfl ?_ | (refine WL.k_bin .eql ?_; refine WL.step (Yl.eqlT rfl rfl (by decide)) rfl ?_) | refine WC.seq ?_ | refine WC.region ?_ | refine WL.nil ?_ | refine WN.then_normal ?_))
      refine WC.cond_true rfl rfl ?_
      by_cases hl : 2 ≤ x.ks.length
      · rw [show ((x.ks.length : Int) - 1) = ((x.ks.length - 1 : Nat) : Int) by omega]
        (repeat (first | refine WL.step (Yl.move rfl) rfl ?_ | (refine WL.k_bin .lss ?_; refine WL.step (Yl.lssF rfl rfl (by omega)) rfl ?_) | refine WC.seq ?_ | refine WC.region ?_ | refine WL.nil ?_ | refine WN.then_normal ?_))
        refine WC.cond_false rfl rfl ?_
        have hn : x.ks.length - 1 < x.ks.length := by omega
        have h1n : 1 ≤ x.ks.length - 1 := by omega
        have h00 : 0 < x.ks.length := by omega
        generalize x.ks.length - 1 = n at *
        have hkn := hw.ks _ (key_mem hn)
        have hk0 := hw.ks _ (key_mem h00)
        (repeat (first | refine WN.then_normal ?_ | refine WC.skip ?_))
        refine WC.regionV [.blk b8 (.cells (ndl x p1).toArray 26 (0, 0))] [.blk b8 (.cells (ndl x p1).toArray 26 (0, 0)), .row p1.ka p1.kc 42 33 (kcells x.ks)] 15 (by kernel_rfl) ?_
        refine WV.take (i := 0) rfl rfl (by kernel_rfl) (by kernel_rfl) (by kernel_rfl) (fun _ _ _ h => h) (by repeat (first | exact Part.nil | refine Part.cons (by repeat (first | exact Pick.here | apply Pick.there)) ?_ | refine Part.free ?_)) (Yl.fld0 (t := 26) Try.underlying26 fl26 rfl rfl) (.inl (by kernel_rfl)) rfl (by kernel_rfl) (by kernel_rfl) ?_
        refine WV.take (i := 1) rfl rfl (by kernel_rfl) (by kernel_rfl) (by kernel_rfl) (fun _ _ _ h => h) (by repeat (first | exact Part.nil | refine Part.cons (by repeat (first | exact Pick.here | apply Pick.there)) ?_ | refine Part.free ?_)) (Yl.loadBlk (T := 22) Try.isAgg22 rfl (by repeat (first | exact .head _ | refine .tail _ ?_)) (by rfl)) (.inl (by kernel_rfl)) rfl (by kernel_rfl) (by kernel_rfl) ?_
        refine WV.take (i := 2) rfl rfl (by kernel_rfl) (by kernel_rfl) (by kernel_rfl) (fun _ _ _ h => h) (by repeat (first | exact Part.nil | refine Part.cons (by repeat (first | exact Pick.here | apply Pick.there)) ?_ | refine Part.free ?_)) (Yl.fld0 (t := 26) Try.underlying26 fl26 rfl rfl) (.inr (Yl.fld0 (t := 26) Try.underlying26 fl26 rfl rfl)) rfl (by kernel_rfl) (by kernel_rfl) ?_
        refine WV.take (i := 3) rfl rfl (by kernel_rfl) (by kernel_rfl) (by kernel_rfl) (fun _ _ _ h => h) (by repeat (first | exact Part.nil | refine Part.cons (by repeat (first | exact Pick.here | apply Pick.there)) ?_ | refine Part.free ?_)) (Yl.loadBlk (T := 22) Try.isAgg22 rfl (by repeat (first | exact .head _ | refine .tail _ ?_)) (by rfl)) (.inr (Yl.loadBlk (T := 22) Try.isAgg22 rfl (by repeat (first | exact .head _ | refine .tail _ ?_)) (by rfl))) rfl (by kernel_rfl) (by kernel_rfl) ?_
        refine WV.take (i := 4) rfl rfl (by kernel_rfl) (by kernel_rfl) (by kernel_rfl) (fun _ _ _ h => h) (by repeat (first | exact Part.nil | refine Part.cons (by repeat (first | exact Pick.here | apply Pick.there)) ?_ | refine Part.free ?_)) (Yl.move rfl) (.inr (Yl.move rfl)) rfl (by kernel_rfl) (by kernel_rfl) ?_
        refine WV.take (i := 5) rfl rfl (by kernel_rfl) (by kernel_rfl) (by kernel_rfl) (fun _ _ _ h => h) (by repeat (first | exact Part.nil | refine Part.cons (by repeat (first | exact Pick.here | apply Pick.there)) ?_ | refine Part.free ?_)) (Yl.fld0 (t := 26) Try.underlying26 fl26 rfl rfl) (.inl (by kernel_rfl)) rfl (by kernel_rfl) (by kernel_rfl) ?_
        refine WV.take (i := 6) rfl rfl (by kernel_rfl) (by kernel_rfl) (by kernel_rfl) (fun _ _ _ h => h) (by repeat (first | exact Part.nil | refine Part.cons (by repeat (first | exact Pick.here | apply Pick.there)) ?_ | refine Part.free ?_)) (Yl.loadBlk (T := 22) Try.isAgg22 rfl (by repeat (first | exact .head _ | refine .tail _ ?_)) (by rfl)) (.inl (by kernel_rfl)) rfl (by kernel_rfl) (by kernel_rfl) ?_
        refine WV.take (i := 7) rfl rfl (by kernel_rfl) (by kernel_rfl) (by kernel_rfl) (fun _ _ _ h => h) (by repeat (first | exact Part.nil | refine Part.cons (by repeat (first | exact Pick.here | apply Pick.there)) ?_ | refine Part.free ?_)) (Yl.move rfl) (.inl (by kernel_rfl)) rfl (by kernel_rfl) (by kernel_rfl) ?_
        refine WV.take (i := 8) rfl rfl (by kernel_rfl) (by kernel_rfl) (by kernel_rfl) (fun _ _ _ h => h) (by repeat (first | exact Part.nil | refine Part.cons (by repeat (first | exact Pick.here | apply Pick.there)) ?_ | refine Part.free ?_)) (Yl.indexAddr (t := 22) (j := n) Try.underlying22 Try.sizeOf42 rfl rfl (Rd.row (vs := kcells x.ks) (T := 42) (k := 33) (cap := p1.kc) (by repeat (first | exact .head _ | refine .tail _ ?_))) (kcells_ne hn) (by omega)) (.inl (by kernel_rfl)) rfl (by kernel_rfl) (by kernel_rfl) ?_
        refine WV.take (i := 9) rfl rfl (by kernel_rfl) (by kernel_rfl) (by kernel_rfl) (fun _ _ _ h => h) (by repeat (first | exact Part.nil | refine Part.cons (by repeat (first | exact Pick.here | apply Pick.there)) ?_ | refine Part.free ?_)) (Yl.loadEl (kv (Nod.key x.ks n)) Try.isAgg42 Try.sizeOf42 rfl (Rd.row (by repeat (first | exact .head _ | refine .tail _ ?_))) (kv_len hkn) (kv_ne _) (kcells_at hw.ks hn)) (.inl (by kernel_rfl)) rfl (by kernel_rfl) (by kernel_rfl) ?_
        refine WV.take (i := 10) rfl rfl (by kernel_rfl) (by kernel_rfl) (by kernel_rfl) (fun _ _ _ h => h) (by repeat (first | exact Part.nil | refine Part.cons (by repeat (first | exact Pick.here | apply Pick.there)) ?_ | refine Part.free ?_)) (Yl.fld0 (t := 26) Try.underlying26 fl26 rfl rfl) (.inl (by kernel_rfl)) rfl (by kernel_rfl) (by kernel_rfl) ?_
        refine WV.take (i := 11) rfl rfl (by kernel_rfl) (by kernel_rfl) (by kernel_rfl) (fun _ _ _ h => h) (by repeat (first | exact Part.nil | refine Part.cons (by repeat (first | exact Pick.here | apply Pick.there)) ?_ | refine Part.free ?_)) (Yl.loadBlk (T := 22) Try.isAgg22 rfl (by repeat (first | exact .head _ | refine .tail _ ?_)) (by rfl)) (.inl (by kernel_rfl)) rfl (by kernel_rfl) (by kernel_rfl) ?_
        refine WV.take (i := 12) rfl rfl (by kernel_rfl) (by kernel_rfl) (by kernel_rfl) (fun _ _ _ h => h) (by repeat (first | exact Part.nil | refine Part.cons (by repeat (first | exact Pick.here | apply Pick.there)) ?_ | refine Part.free ?_)) (Yl.indexAddr (t := 22) (j := 0) Try.underlying22 Try.sizeOf42 rfl rfl (Rd.row (vs := kcells x.ks) (T := 42) (k := 33) (cap := p1.kc) (by repeat (first | exact .head _ | refine .tail _ ?_))) (kcells_ne h00) (by omega)) (.inl (by kernel_rfl)) rfl (by kernel_rfl) (by kernel_rfl) ?_
        refine WV.take (i := 13) rfl rfl (by kernel_rfl) (by kernel_rfl) (by kernel_rfl) (fun _ _ _ h => h) (by repeat (first | exact Part.nil | refine Part.cons (by repeat (first | exact Pick.here | apply Pick.there)) ?_ | refine Part.free ?_)) (Yl.loadEl (kv (Nod.key x.ks 0)) Try.isAgg42 Try.sizeOf42 rfl (Rd.row (by repeat (first | exact .head _ | refine .tail _ ?_))) (kv_len hk0) (kv_ne _) (kcells_at hw.ks h00)) (.inl (by kernel_rfl)) rfl (by kernel_rfl) (by kernel_rfl) ?_
        refine WV.take (i := 14) rfl rfl (by kernel_rfl) (by kernel_rfl) (by kernel_rfl) (fun _ _ _ h => h) (by repeat (first | exact Part.nil | refine Part.cons (by repeat (first | exact Pick.here | apply Pick.there)) ?_ | refine Part.free ?_)) (Yl.indexAddr (t := 22) (j := 0) Try.underlying22 Try.sizeOf42 rfl rfl (Rd.row (vs := kcells x.ks) (T := 42) (k := 33) (cap := p1.kc) (by repeat (first | exact .head _ | refine .tail _ ?_))) (kcells_ne h00) (by omega)) (.inl (by kernel_rfl)) rfl (by kernel_rfl) (by kernel_rfl) ?_
        have hw2 := Nod.set_wf hw.ks (i := 0) hkn
        have hl2 : (x.ks.set 0 (Nod.key x.ks n)).length = x.ks.length := List.length_set
        refine WV.only (i := 15) (by kernel_rfl) rfl fun sh => ?_
        refine WL.storeRowEl (us := kv (Nod.key x.ks n)) (i := 0 * 33) (vs := kcells x.ks) (fun w => by rw [kv_len hkn]; exact Try.sizeOf42 w) rfl rfl rfl (kv_one _) (by repeat (first | exact Pick.here | apply Pick.there)) (by rw [kv_len hkn]; decide) (by rw [kcells_len hw.ks, kv_len hkn]; omega) ?_
        rw [kcells_put hw.ks h00 hkn]
        refine WL.nil (WN.nextV (b := true) (by kernel_rfl) sh (by repeat (first | exact Part.nil | refine Part.cons (by repeat (first | exact Pick.here | apply Pick.there)) ?_ | refine Part.free ?_)) ?_)
        refine WV.only (i := 16) (by kernel_rfl) rfl fun sh => ?_
        refine WL.step (Yl.indexAddr (t := 22) (j := n) Try.underlying22 Try.sizeOf42 rfl rfl (Rd.row (vs := kcells (x.ks.set 0 (Nod.key x.ks n))) (T := 42) (k := 33) (cap := p1.kc) (by repeat (first | exact .head _ | refine .tail _ ?_))) (kcells_ne (by rw [hl2]; exact hn)) (by omega)) rfl ?_
        refine WL.nil (WN.nextV (b := true) (by kernel_rfl) sh (by repeat (first | exact Part.nil | refine Part.cons (by repeat (first | exact Pick.here | apply Pick.there)) ?_ | refine Part.free ?_)) ?_)
        refine WV.only (i := 17) (by kernel_rfl) rfl fun sh => ?_
        refine WL.storeRowEl (us := kv (Nod.key x.ks 0)) (i := n * 33) (vs := kcells (x.ks.set 0 (Nod.key x.ks n))) (fun w => by rw [kv_len hk0]; exact Try.sizeOf42 w) rfl rfl rfl (kv_one _) (by repeat (first | exact Pick.here | apply Pick.there)) (by rw [kv_len hk0]; decide) (by rw [kcells_len hw2, kv_len hk0, hl2]; omega) ?_
        rw [kcells_put hw2 (by rw [hl2]; exact hn) hk0]
        refine WL.nil (WN.nextV (b := true) (by kernel_rfl) sh (by repeat (first | exact Part.nil | refine Part.cons (by repeat (first | exact Pick.here | apply Pick.there)) ?_ | refine Part.free ?_)) (WV.done (by kernel_rfl) ?_))
        (repeat (first | refine WN.block_normal ?_))
        exact WN.join ((⟨x.leaf, (x.ks.set 0 (Nod.key x.ks n)).set n (Nod.key x.ks 0), x.vs, x.cs⟩ : Nod.N), p1) ⟨⟨Nod.set_wf hw2 hk0, hw.vs, hw.cs, by simp only [List.length_set]; exact hw.kl, hw.vl, hw.cl⟩, Nod.bad_swap hfm h1n hn, ⟨by simp only [List.length_set]; exact g1, g2, g3⟩⟩ (by repeat (first | exact Sub.nil | refine Sub.cons rfl rfl ?_)) (by simp only [ndl, List.length_append, List.length_singleton, List.length_set]; exact (by repeat (first | exact Part.nil | refine Part.cons (by repeat (first | exact Pick.here | apply Pick.there)) ?_ | refine Part.free ?_)))
      · (repeat (first | refine WL.step (Yl.move rfl) rfl ?_ | (refine WL.k_bin .lss ?_; refine WL.step (Yl.lssT rfl rfl (by omega)) rfl ?_) | refine WC.seq ?_ | refine WC.region ?_ | refine WL.nil ?_ | refine WN.then_normal ?_))
        refine WC.cond_true rfl rfl ?_
        (repeat (first | refine WL.step (Yl.assign rfl) rfl ?_ | (refine WL.k_call 13 ?_; refine WL.callV (g := 13) Try.call13 rfl (fun w s => works38_c w) rfl ?_) | refine WC.seq ?_ | refine WC.region ?_ | refine WL.nil ?_ | refine WN.then_normal ?_ | refine WC.ret ?_ | refine WN.then_ret ?_ | refine WN.block_ret ?_))
        exact WN.ret1 rfl rfl ⟨rfl, rfl⟩ .nil
    · skip
      refine WC.cond_false rfl rfl ?_
      (repeat (first | refine WL.step (Yl.assign rfl) rfl ?_ | (refine WL.k_bin .eql ?_; refine WL.step (Yl.eqlF rfl rfl (by decide)) rfl ?_) | refine WC.seq ?_ | refine WC.region ?_ | refine WL.nil ?_ | refine WN.then_normal ?_))
      refine WC.cond_false rfl rfl ?_
      (repeat (first | refine WL.step (Yl.assign rfl) rfl ?_ | (refine WL.k_bin .eql ?_; refine WL.step (Yl.eqlF rfl rfl (by decide)) rfl ?_) | refine WC.seq ?_ | refine WC.region ?_ | refine WL.nil ?_ | refine WN.then_normal ?_))
      refine WC.cond_false rfl rfl ?_
      (repeat (first | refine WL.step (Yl.assign rfl) rfl ?_ | (refine WL.k_bin .eql ?_; refine WL.step (Yl.eqlF rfl rfl (by decide)) rfl ?_) | refine WC.seq ?_ | refine WC.region ?_ | refine WL.nil ?_ | refine WN.then_normal ?_))
      refine WC.cond_false rfl rfl ?_
      (repeat (first | refine WL.step (Yl.assign rfl) rfl ?_ | (refine WL.k_bin .eql ?_; refine WL.step (Yl.eqlT rfl rfl (by decide)) rfl ?_) | refine WC.seq ?_ | refine WC.region ?_ | refine WL.nil ?_ | refine WN.then_normal ?_))
      refine WC.cond_true rfl rfl ?_
      (repeat (first | (refine WL.k_load ?_; refine WL.step (Yl.loadBlk (T := 4) Try.isAgg4 rfl (by repeat (first | exact .head _ | refine .tail _ ?_)) (by rfl)) rfl ?_) | refine WL.step (Yl.fld0 (t := 26) Try.underlying26 fl26 rfl rfl) rfl ?_ | refine WC.seq ?_ | refine WC.region ?_ | refine WL.nil ?_ | refine WN.then_normal ?_))
      refine WC.cond rfl (fun hl => ?_) (fun hl => ?_)
      · (repeat (first | refine WL.step (Yl.assign rfl) rfl ?_ | (refine WL.k_call 13 ?_; refine WL.callV (g := 13) Try.call13 rfl (fun w s => works38_c w) rfl ?_) | refine WC.seq ?_ | refine WC.region ?_ | refine WL.nil ?_ | refine WN.then_normal ?_ | refine WC.ret ?_ | refine WN.then_ret ?_ | refine WN.block_ret ?_))
        exact WN.ret1 rfl rfl ⟨rfl, rfl⟩ .nil
      · have h0 : 0 < x.cs.length := kids_pos hfm hl
        have him : s % x.cs.length < x.cs.length := Nat.mod_lt _ h0
        (repeat (first | refine WN.then_normal ?_ | refine WC.skip ?_))
        refine WC.regionE [.blk b8 (.cells (ndl x p1).toArray 26 (0, 0)), .row p1.ca p1.cc 3 1 (icells x.cs)] 12 (by kernel_rfl) ?_
        (refine WE.order [0, 1, 2, 3, 4, 5, 6, 7, 8, 9, 10, 11] (by repeat (first | exact Part.nil | refine Part.cons (by repeat (first | exact Pick.here | apply Pick.there)) ?_ | refine Part.free ?_)) (by kernel_rfl) ?_; (repeat (first | (refine WU.k_move rfl ?_; (refine WU.kn rfl ?_; refine WU.take rfl rfl (fun _ _ _ h => h) (Yl.move rfl) rfl (by kernel_rfl) (by kernel_rfl) (by kernel_rfl) ?_)) | (refine WU.k_load rfl ?_; (refine WU.kn rfl ?_; refine WU.take rfl rfl (fun _ _ _ h => h) (Yl.loadBlk (T := 24) Try.isAgg24 rfl (by repeat (first | exact .head _ | refine .tail _ ?_)) (by rfl)) rfl (by kernel_rfl) (by kernel_rfl) (by kernel_rfl) ?_)) | (refine WU.k_fld rfl ?_; (refine WU.kn rfl ?_; refine WU.take rfl rfl (fun _ _ _ h => h) (Yl.fld0 (t := 26) Try.underlying26 fl26 rfl rfl) rfl (by kernel_rfl) (by kernel_rfl) (by kernel_rfl) ?_)) | (refine WU.k_bi .len rfl ?_; (refine WU.kn rfl ?_; refine WU.take rfl rfl (fun _ _ _ h => h) (Yl.len (t := 24) Try.underlying24 rfl) rfl (by kernel_rfl) (by kernel_rfl) (by kernel_rfl) ?_)) | (refine WU.k_conv rfl ?_; (refine WU.kn rfl ?_; refine WU.take rfl rfl (fun _ _ _ h => h) (Yl.conv64 (s := 66) (t := 3) Try.underlying66 Try.underlying3 rfl (by omega)) rfl (by kernel_rfl) (by kernel_rfl) (by kernel_rfl) ?_)) | (refine WU.k_bin .rem rfl ?_; (refine WU.kn rfl ?_; refine WU.take rfl rfl (fun _ _ _ h => h) (Yl.remN rfl rfl h0) rfl (by kernel_rfl) (by kernel_rfl) (by kernel_rfl) ?_)) | (refine WU.k_bin .add rfl ?_; (refine WU.kn rfl ?_; refine WU.take rfl rfl (fun _ _ _ h => h) (Yl.addC64 rfl (by omega)) rfl (by kernel_rfl) (by kernel_rfl) (by kernel_rfl) ?_)) | (refine WU.k_idxa rfl ?_; (refine WU.kn rfl ?_; refine WU.take rfl rfl (fun _ _ _ h => h) (Yl.indexAddr1 (t := 24) (j := s % x.cs.length) Try.underlying24 Try.sizeOf3 rfl rfl (Rd.row (vs := icells x.cs) (T := 3) (k := 1) (cap := p1.cc) (by repeat (first | exact .head _ | refine .tail _ ?_))) (icells_ne him) him) rfl (by kernel_rfl) (by kernel_rfl) (by kernel_rfl) ?_)))); refine WU.nil ?_)
        refine WE.only (i := 12) (by kernel_rfl) rfl fun sh => ?_
        refine WL.storeRow (T := 3) (i := s % x.cs.length) (vs := icells x.cs) Try.sizeOf3 rfl rfl rfl (by repeat (first | exact Pick.here | apply Pick.there)) (by rw [icells_len]; exact him) ?_
        rw [icells_set]
        refine WL.nil (WN.lastE (by kernel_rfl) sh (WE.done (by kernel_rfl) ?_))
        (repeat (first | refine WN.block_normal ?_))
        exact WN.join ((⟨x.leaf, x.ks, x.vs, x.cs.set (s % x.cs.length) (((4097 + s : Nat) : Int))⟩ : Nod.N), p1) ⟨⟨hw.ks, hw.vs, fun v hv => by rcases List.mem_or_eq_of_mem_set hv with h1 | rfl; exact hw.cs v h1; omega, hw.kl, hw.vl, by simp only [List.length_set]; exact hw.cl⟩, Nod.bad_kid hl him (by unfold Nod.kidOk; omega), ⟨g1, g2, by simp only [List.length_set]; exact g3⟩⟩ (by repeat (first | exact Sub.nil | refine Sub.cons rfl rfl ?_)) (by simp only [ndl, List.length_append, List.length_singleton, List.length_set]; exact (by repeat (first | exact Part.nil | refine Part.cons (by repeat (first | exact Pick.here | apply Pick.there)) ?_ | refine Part.free ?_)))
    · skip
      refine WC.cond_false rfl rfl ?_
      (repeat (first | refine WL.step (Yl.assign rfl) rfl ?_ | (refine WL.k_bin .eql ?_; refine WL.step (Yl.eqlF rfl rfl (by decide)) rfl ?_) | refine WC.seq ?_ | refine WC.region ?_ | refine WL.nil ?_ | refine WN.then_normal ?_))
      refine WC.cond_false rfl rfl ?_
      (repeat (first | refine WL.step (Yl.assign rfl) rfl ?_ | (refine WL.k_bin .eql ?_; refine WL.step (Yl.eqlF rfl rfl (by decide)) rfl ?_) | refine WC.seq ?_ | refine WC.region ?_ | refine WL.nil ?_ | refine WN.then_normal ?_))
      refine WC.cond_false rfl rfl ?_
      (repeat (first | refine WL.step (Yl.assign rfl) rfl ?_ | (refine WL.k_bin .eql ?_; refine WL.step (Yl.eqlF rfl rfl (by decide)) rfl ?_) | refine WC.seq ?_ | refine WC.region ?_ | refine WL.nil ?_ | refine WN.then_normal ?_))
      refine WC.cond_false rfl rfl ?_
      (repeat (first | refine WL.step (Yl.assign rfl) rfl ?_ | (refine WL.k_bin .eql ?_; refine WL.step (Yl.eqlF rfl rfl (by decide)) rfl ?_) | refine WC.seq ?_ | refine WC.region ?_ | refine WL.nil ?_ | refine WN.then_normal ?_))
      refine WC.cond_false rfl rfl ?_
      (repeat (first | refine WL.step (Yl.assign rfl) rfl ?_ | (refine WL.k_bin .eql ?_; refine WL.step (Yl.eqlT rfl rfl (by decide)) rfl ?_) | refine WC.seq ?_ | refine WC.region ?_ | refine WL.nil ?_ | refine WN.then_normal ?_))
      refine WC.cond_true rfl rfl ?_
      (repeat (first | (refine WL.k_load ?_; refine WL.step (Yl.loadBlk (T := 4) Try.isAgg4 rfl (by repeat (first | exact .head _ | refine .tail _ ?_)) (by rfl)) rfl ?_) | refine WL.step (Yl.fld0 (t := 26) Try.underlying26 fl26 rfl rfl) rfl ?_ | refine WC.seq ?_ | refine WC.region ?_ | refine WL.nil ?_ | refine WN.then_normal ?_))
      refine WC.cond rfl (fun hl => ?_) (fun hl => ?_)
      · (repeat (first | refine WL.step (Yl.assign rfl) rfl ?_ | (refine WL.k_call 13 ?_; refine WL.callV (g := 13) Try.call13 rfl (fun w s => works38_c w) rfl ?_) | refine WC.seq ?_ | refine WC.region ?_ | refine WL.nil ?_ | refine WN.then_normal ?_ | refine WC.ret ?_ | refine WN.then_ret ?_ | refine WN.block_ret ?_))
        exact WN.ret1 rfl rfl ⟨rfl, rfl⟩ .nil
      · have h0 : 0 < x.cs.length := kids_pos hfm hl
        have him : s % x.cs.length < x.cs.length := Nat.mod_lt _ h0
        (repeat (first | refine WN.then_normal ?_ | refine WC.skip ?_))
        refine WC.regionE [.blk b8 (.cells (ndl x p1).toArray 26 (0, 0)), .row p1.ca p1.cc 3 1 (icells x.cs)] 12 (by kernel_rfl) ?_
        (refine WE.order [0, 1, 2, 3, 4, 5, 6, 7, 8, 9, 10, 11] (by repeat (first | exact Part.nil | refine Part.cons (by repeat (first | exact Pick.here | apply Pick.there)) ?_ | refine Part.free ?_)) (by kernel_rfl) ?_; (repeat (first | (refine WU.k_move rfl ?_; (refine WU.kn rfl ?_; refine WU.take rfl rfl (fun _ _ _ h => h) (Yl.move rfl) rfl (by kernel_rfl) (by kernel_rfl) (by kernel_rfl) ?_)) | (refine WU.k_load rfl ?_; (refine WU.kn rfl ?_; refine WU.take rfl rfl (fun _ _ _ h => h) (Yl.loadBlk (T := 24) Try.isAgg24 rfl (by repeat (first | exact .head _ | refine .tail _ ?_)) (by rfl)) rfl (by kernel_rfl) (by kernel_rfl) (by kernel_rfl) ?_)) | (refine WU.k_fld rfl ?_; (refine WU.kn rfl ?_; refine WU.take rfl rfl (fun _ _ _ h => h) (Yl.fld0 (t := 26) Try.underlying26 fl26 rfl rfl) rfl (by kernel_rfl) (by kernel_rfl) (by kernel_rfl) ?_)) | (refine WU.k_bi .len rfl ?_; (refine WU.kn rfl ?_; refine WU.take rfl rfl (fun _ _ _ h => h) (Yl.len (t := 24) Try.underlying24 rfl) rfl (by kernel_rfl) (by kernel_rfl) (by kernel_rfl) ?_)) | (refine WU.k_conv rfl ?_; (refine WU.kn rfl ?_; refine WU.take rfl rfl (fun _ _ _ h => h) (Yl.conv64 (s := 66) (t := 3) Try.underlying66 Try.underlying3 rfl (by omega)) rfl (by kernel_rfl) (by kernel_rfl) (by kernel_rfl) ?_)) | (refine WU.k_bin .rem rfl ?_; (refine WU.kn rfl ?_; refine WU.take rfl rfl (fun _ _ _ h => h) (Yl.remN rfl rfl h0) rfl (by kernel_rfl) (by kernel_rfl) (by kernel_rfl) ?_)) | (refine WU.k_unop rfl ?_; (refine WU.kn rfl ?_; refine WU.take rfl rfl (fun _ _ _ h => h) (Yl.negI rfl (by omega)) rfl (by kernel_rfl) (by kernel_rfl) (by kernel_rfl) ?_)) | (refine WU.k_idxa rfl ?_; (refine WU.kn rfl ?_; refine WU.take rfl rfl (fun _ _ _ h => h) (Yl.indexAddr1 (t := 24) (j := s % x.cs.length) Try.underlying24 Try.sizeOf3 rfl rfl (Rd.row (vs := icells x.cs) (T := 3) (k := 1) (cap := p1.cc) (by repeat (first | exact .head _ | refine .tail _ ?_))) (icells_ne him) him) rfl (by kernel_rfl) (by kernel_rfl) (by kernel_rfl) ?_)))); refine WU.nil ?_)
        refine WE.only (i := 12) (by kernel_rfl) rfl fun sh => ?_
        refine WL.storeRow (T := 3) (i := s % x.cs.length) (vs := icells x.cs) Try.sizeOf3 rfl rfl rfl (by repeat (first | exact Pick.here | apply Pick.there)) (by rw [icells_len]; exact him) ?_
        rw [icells_set]
        refine WL.nil (WN.lastE (by kernel_rfl) sh (WE.done (by kernel_rfl) ?_))
        (repeat (first | refine WN.block_normal ?_))
        exact WN.join ((⟨x.leaf, x.ks, x.vs, x.cs.set (s % x.cs.length) (-(s : Int))⟩ : Nod.N), p1) ⟨⟨hw.ks, hw.vs, fun v hv => by rcases List.mem_or_eq_of_mem_set hv with h1 | rfl; exact hw.cs v h1; omega, hw.kl, hw.vl, by simp only [List.length_set]; exact hw.cl⟩, Nod.bad_kid hl him (by unfold Nod.kidOk; omega), ⟨g1, g2, by simp only [List.length_set]; exact g3⟩⟩ (by repeat (first | exact Sub.nil | refine Sub.cons rfl rfl ?_)) (by simp only [ndl, List.length_append, List.length_singleton, List.length_set]; exact (by repeat (first | exact Part.nil | refine Part.cons (by repeat (first | exact Pick.here | apply Pick.there)) ?_ | refine Part.free ?_)))
    · skip
      refine WC.cond_false rfl rfl ?_
      (repeat (first | refine WL.step (Yl.assign rfl) rfl ?_ | (refine WL.k_bin .eql ?_; refine WL.step (Yl.eqlF rfl rfl (by decide)) rfl ?_) | refine WC.seq ?_ | refine WC.region ?_ | refine WL.nil ?_ | refine WN.then_normal ?_))
      refine WC.cond_false rfl rfl ?_
      (repeat (first | refine WL.step (Yl.assign rfl) rfl ?_ | (refine WL.k_bin .eql ?_; refine WL.step (Yl.eqlF rfl rfl (by decide)) rfl ?_) | refine WC.seq ?_ | refine WC.region ?_ | refine WL.nil ?_ | refine WN.then_normal ?_))
      refine WC.cond_false rfl rfl ?_
      (repeat (first | refine WL.step (Yl.assign rfl) rfl ?_ | (refine WL.k_bin .eql ?_; refine WL.step (Yl.eqlF rfl rfl (by decide)) rfl ?_) | refine WC.seq ?_ | refine WC.region ?_ | refine WL.nil ?_ | refine WN.then_normal ?_))
      refine WC.cond_false rfl rfl ?_
      (repeat (first | refine WL.step (Yl.assign rfl) rfl ?_ | (refine WL.k_bin .eql ?_; refine WL.step (Yl.eqlF rfl rfl (by decide)) rfl ?_) | refine WC.seq ?_ | refine WC.region ?_ | refine WL.nil ?_ | refine WN.then_normal ?_))
      refine WC.cond_false rfl rfl ?_
      (repeat (first | refine WL.step (Yl.assign rfl) rfl ?_ | (refine WL.k_bin .eql ?_; refine WL.step (Yl.eqlF rfl rfl (by decide)) rfl ?_) | refine WC.seq ?_ | refine WC.region ?_ | refine WL.nil ?_ | refine WN.then_normal ?_))
      refine WC.cond_false rfl rfl ?_
      by_cases hl : 1 ≤ x.ks.length
      · (repeat (first | refine WL.step (Yl.move rfl) rfl ?_ | (refine WL.k_bin .lss ?_; refine WL.step (Yl.lssF rfl rfl (by omega)) rfl ?_) | refine WC.seq ?_ | refine WC.region ?_ | refine WL.nil ?_ | refine WN.then_normal ?_))
        refine WC.cond_false rfl rfl ?_
        (repeat (first | (refine WL.k_load ?_; refine WL.step (Yl.loadBlk (T := 4) Try.isAgg4 rfl (by repeat (first | exact .head _ | refine .tail _ ?_)) (by rfl)) rfl ?_) | refine WL.step (Yl.fld0 (t := 26) Try.underlying26 fl26 rfl rfl) rfl ?_ | refine WL.step (Yl.not rfl) rfl ?_ | refine WC.region ?_ | refine WN.then_normal ?_ | refine WC.skip ?_))
        refine WL.storeAt (T := 4) Try.sizeOf4 rfl rfl rfl (by repeat (first | exact Pick.here | apply Pick.there)) rfl ?_
        (repeat (first | refine WL.nil ?_ | refine WN.block_normal ?_))
        exact WN.join ((⟨!x.leaf, x.ks, x.vs, x.cs⟩ : Nod.N), p1) ⟨⟨hw.ks, hw.vs, hw.cs, hw.kl, hw.vl, hw.cl⟩, Nod.bad_flip hfm hl, ⟨g1, g2, g3⟩⟩ (by repeat (first | exact Sub.nil | refine Sub.cons rfl rfl ?_)) (by simp only [ndl, List.length_append, List.length_singleton, List.length_set]; exact (by repeat (first | exact Part.nil | refine Part.cons (by repeat (first | exact Pick.here | apply Pick.there)) ?_ | refine Part.free ?_)))
      · (repeat (first | refine WL.step (Yl.move rfl) rfl ?_ | (refine WL.k_bin .lss ?_; refine WL.step (Yl.lssT rfl rfl (by omega)) rfl ?_) | refine WC.seq ?_ | refine WC.region ?_ | refine WL.nil ?_ | refine WN.then_normal ?_))
        refine WC.cond_true rfl rfl ?_
        (repeat (first | refine WL.step (Yl.assign rfl) rfl ?_ | (refine WL.k_call 13 ?_; refine WL.callV (g := 13) Try.call13 rfl (fun w s => works38_c w) rfl ?_) | refine WC.seq ?_ | refine WC.region ?_ | refine WL.nil ?_ | refine WN.then_normal ?_ | refine WC.ret ?_ | refine WN.then_ret ?_ | refine WN.block_ret ?_))
        exact WN.ret1 rfl rfl ⟨rfl, rfl⟩ .nil
  · intro ⟨y, p⟩ ⟨hyw, hyb, hcp⟩
    obtain ⟨q1, q2, q3⟩ := hcp
    simp only at hyw hyb q1 q2 q3 ⊢
    (repeat (first | (refine WL.k_load ?_; refine WL.step (Yl.loadAll (T := 26) (T' := 26) Try.isAgg26 Try.sizeOf26 rfl (by repeat (first | exact .head _ | refine .tail _ ?_)) rfl) rfl ?_) | refine WC.seq ?_ | refine WC.region ?_))
    refine WL.callR (g := 15) Try.call15 rfl (fun w s => enc_bad p w hyw hyb (NdRd.at_ ⟨Rd.row (by repeat (first | exact .head _ | refine .tail _ ?_)), Rd.row (by repeat (first | exact .head _ | refine .tail _ ?_)), Rd.row (by repeat (first | exact .head _ | refine .tail _ ?_)), q1, q2, q3⟩ s)) rfl fun q hq => ?_
    obtain ⟨ea, ec⟩ := q
    (repeat (first | refine WL.step (Yl.move rfl) rfl ?_ | refine WL.step (Yl.assign rfl) rfl ?_ | refine WL.step (Yl.extract rfl rfl) rfl ?_ | (refine WL.k_load ?_; refine WL.step (Yl.loadAll (T := 26) (T' := 26) Try.isAgg26 Try.sizeOf26 rfl (by repeat (first | exact .head _ | refine .tail _ ?_)) rfl) rfl ?_) | refine WC.seq ?_ | refine WC.region ?_ | refine WL.nil ?_ | refine WN.then_normal ?_))
    refine WL.call (g := 17) Try.call17 rfl (fun w s => split_bad p w hyw hyb (NdRd.at_ ⟨Rd.row (by repeat (first | exact .head _ | refine .tail _ ?_)), Rd.row (by repeat (first | exact .head _ | refine .tail _ ?_)), Rd.row (by repeat (first | exact .head _ | refine .tail _ ?_)), q1, q2, q3⟩ s)) rfl fun v1 B1 hv1 => ?_
    obtain ⟨p5, p6, c5, c6, rfl, rfl⟩ := hv1
    simp only [List.cons_append, List.nil_append]
    (repeat (first | refine WL.step (Yl.move rfl) rfl ?_ | refine WL.step (Yl.extract rfl rfl) rfl ?_))
    refine WL.allocA Try.zeroValue26 rfl fun b13 => ?_
    refine WL.allocA zeroKey rfl fun b14 => ?_
    refine WL.allocA Try.zeroValue26 rfl fun b15 => ?_
    refine WL.storeWhole (T := 26) (k := 4) (us := (ndl Nod.zero p5).toArray) Try.sizeOf26 rfl rfl rfl (by repeat (first | exact Pick.here | apply Pick.there)) rfl rfl ?_
    refine WL.storeWhole (T := 42) (k := 33) (us := (kv zkey).toArray) Try.sizeOf42 rfl rfl (kv_all _) (by repeat (first | exact Pick.here | apply Pick.there)) rfl rfl ?_
    refine WL.storeWhole (T := 26) (k := 4) (us := (ndl Nod.zero p6).toArray) Try.sizeOf26 rfl rfl rfl (by repeat (first | exact Pick.here | apply Pick.there)) rfl rfl ?_
    (repeat (first | refine WL.step (Yl.assign rfl) rfl ?_ | (refine WL.k_load ?_; refine WL.step (Yl.loadAll (T := 26) (T' := 26) (b := b8) (cs := (ndl y p).toArray) (fr := (0, 0)) Try.isAgg26 Try.sizeOf26 rfl (by repeat (first | exact .head _ | refine .tail _ ?_)) rfl) rfl ?_) | refine WC.seq ?_ | refine WC.region ?_ | refine WL.nil ?_ | refine WN.then_normal ?_))
    refine WL.callV (g := 19) Try.call19 rfl (fun w s => check_bad p w hyw hyb (NdRd.at_ ⟨Rd.row (by repeat (first | exact .head _ | refine .tail _ ?_)), Rd.row (by repeat (first | exact .head _ | refine .tail _ ?_)), Rd.row (by repeat (first | exact .head _ | refine .tail _ ?_)), q1, q2, q3⟩ s)) rfl ?_
    (repeat (first | refine WL.want rfl rfl rfl ?_ | refine WL.step (Yl.move rfl) rfl ?_ | refine WL.step (Yl.assign rfl) rfl ?_ | refine WL.step (Yl.pick_t rfl rfl rfl) rfl ?_ | refine WL.step (Yl.eqlT rfl rfl rfl) rfl ?_ | refine WL.step (Yl.len (t := 34) Try.underlying34 rfl) rfl ?_ | (refine WL.k_call 13 ?_; refine WL.callV (g := 13) Try.call13 rfl (fun w s => works38_c w) rfl ?_) | refine WL.nil ?_ | refine WN.then_normal ?_ | refine WC.ret ?_))
    exact WN.ret1 rfl rfl ⟨rfl, rfl⟩ .nil
end Go.Proofs.Ytbfhdggfdhlkfaa
