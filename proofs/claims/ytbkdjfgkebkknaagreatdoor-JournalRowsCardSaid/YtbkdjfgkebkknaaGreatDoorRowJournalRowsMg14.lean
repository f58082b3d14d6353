import Derived.Test.YtbkdjfgkebkknaaGreatDoorRowJournalRowsMg12
import Derived.Test.YtbkdjfgkebkknaaGreatDoorRowJournalRowsMg13
import Derived.Test.YtbkdjfgkebkknaaGreatDoorRowJournalRowsMg10
namespace Go.Proofs.YtbkdjfgkebkknaaGreatDoor
set_option linter.unusedVariables false
set_option linter.unusedSimpArgs false
open Go Go.RowKit
set_option maxHeartbeats 8000000
set_option maxRecDepth 100000
attribute [local irreducible] WL WC WN Yl WH WQ WT Big.be Big.val Frm.unst Frm.gather Crc.sealed Crc.opened Frm.check
theorem tab_sec' {k : Nat} (h : k = 1 ∨ k = 2) : ∃ l m1 m2 : Int, (tabCells.drop (0 + k * 5)).take 5 = [.int .i64 (((Frm.secs (k : Int)).1 : Nat) : Int), .int .i64 ((Frm.dl k : Nat) : Int), .int .i64 l, .int .i64 m1, .int .i64 m2] := by
  rcases h with rfl | rfl
  · exact ⟨4095, 0, 4095, rfl⟩
  · exact ⟨0, 1, 4096, rfl⟩
def Decoded (o : Frm.Out) : Value → List HA → Prop := fun v B => ∃ (q : Option Addr × Nat) (u : List UInt8), u.drop 11 = o.data ∧ u.length ≤ q.2 ∧ (u.length - 11 ≤ q.2 - 11) ∧
  v = .tuple #[.agg #[.int .i64 o.kd, .int .i64 o.ep, .int .i64 o.tx, .int .i64 o.ix, .int .i64 o.no, .slice (cutA q.1 11 q.2 1) o.data.length (q.2 - 11)], .int .i64 (o.sec : Int), .int .i64 (o.err : Int)] ∧ B = [.row q.1 q.2 5 1 (bs u)]
theorem Decoded.bad (e : Nat) : Decoded (Frm.bad e) (.tuple #[.agg #[.int .i64 0, .int .i64 0, .int .i64 0, .int .i64 0, .int .i64 0, .slice none 0 0], .int .i64 0, .int .i64 (e : Int)]) [.row none 0 5 1 []] :=
  ⟨(none, 0), [], rfl, Nat.le_refl _, Nat.le_refl _, rfl, rfl⟩
theorem buildF0 (w : World) : (Instr.build 121 ([] : List (Nat × Value)).toArray).run Tryz.prog w = .ok (.agg #[.int .i64 0, .int .i64 0, .int .i64 0, .int .i64 0, .int .i64 0, .slice none 0 0]) w := by
  simp [Instr.build, Tryz.zeroValue121, run_underlying Tryz.underlying121, Tryz.sizeOf3, Tryz.sizeOf2, Tryz.sizeOf23, Value.cells, Instr.fill]
theorem buildF1 (n : Int) (w : World) : (Instr.build 121 [(1, Value.int .i64 n)].toArray).run Tryz.prog w = .ok (.agg #[.int .i64 0, .int .i64 n, .int .i64 0, .int .i64 0, .int .i64 0, .slice none 0 0]) w := by
  simp [Instr.build, Tryz.zeroValue121, run_underlying Tryz.underlying121, Tryz.sizeOf3, Tryz.sizeOf2, Tryz.sizeOf23, Value.cells, Instr.fill]
def fN (n : Int) (D : List UInt8) : Nat → Array Value
  | 0 => #[.int .i64 0, .int .i64 n, .int .i64 0, .int .i64 0, .int .i64 0, .slice none 0 0]
  | 1 => #[.int .i64 (Frm.vk D : Int), .int .i64 n, .int .i64 0, .int .i64 0, .int .i64 0, .slice none 0 0]
  | 2 => #[.int .i64 (Frm.vk D : Int), .int .i64 n, .int .i64 (Frm.vt D : Int), .int .i64 0, .int .i64 0, .slice none 0 0]
  | 3 => #[.int .i64 (Frm.vk D : Int), .int .i64 n, .int .i64 (Frm.vt D : Int), .int .i64 (Frm.vi D : Int), .int .i64 0, .slice none 0 0]
  | _ => #[.int .i64 (Frm.vk D : Int), .int .i64 n, .int .i64 (Frm.vt D : Int), .int .i64 (Frm.vi D : Int), .int .i64 (Frm.vn D : Int), .slice none 0 0]
def atN : Nat → Nat
  | 0 => 0
  | 1 => 1
  | 2 => 5
  | 3 => 7
  | _ => 11
theorem uintIn {l : List UInt8} {k W : Nat} (hW : 1 ≤ W ∧ W ≤ 8) (h : k + W ≤ l.length) : Big.uintAt l (k : Int) (W : Int) = (0, Big.val 0 ((l.drop k).take W)) := by
  unfold Big.uintAt
  rw [if_neg (by omega), if_neg (by omega), if_neg (by omega), Int.toNat_natCast, Int.toNat_natCast]
theorem valLt (l : List UInt8) {W : Nat} (h : W ≤ 4) : Big.val 0 (l.take W) < 4294967296 := by
  have h1 := Big.val_lt (l.take W)
  have h2 : (l.take W).length ≤ 4 := by rw [List.length_take]; omega
  have h3 : 256 ^ (l.take W).length ≤ 256 ^ 4 := Nat.pow_le_pow_right (by decide) h2
  omega
theorem opened_len {l : List UInt8} (h : (Crc.opened l).1 = 0) : (Crc.opened l).2.length = l.length - 4 ∧ 4 ≤ l.length := by
  unfold Crc.opened at h ⊢
  split
  · rename_i h1; rw [if_pos h1] at h; cases h
  · rename_i h1
    rw [if_neg h1] at h
    split
    · exact ⟨by rw [List.length_take]; omega, by omega⟩
    · rename_i h2; rw [if_neg h2] at h; cases h
theorem opened_bad {l : List UInt8} (hl : 4 ≤ l.length) (h : (Crc.opened l).1 ≠ 0) : Crc.opened l = (12, []) := by
  unfold Crc.opened at h ⊢
  rw [if_neg (by omega)] at h ⊢
  split
  · rename_i h2; rw [if_pos h2] at h; exact absurd rfl h
  · rfl
theorem decode_c (x : Int) (a : Option Addr) (n cap : Nat) (l : List UInt8) (w : World) (hT : Tab w) (hl : l.length = n) (hc : n ≤ cap) (hn : n ≤ 140737488355000) (hr : CellsAt w a (bs l)) :
    Calls Tryz.prog 114 #[.slice a n cap, .int .i64 x] w (Gives (Decoded (Frm.dec l x)) w) := by
  refine enter (args := [_, _]) Tryz.func114 Tryz.ntmps114 rfl rfl ?_
  (repeat (first | refine WC.seq ?_ | refine WC.region ?_))
  refine WL.allocA Tryz.zeroValue121 rfl fun br => ?_
  (repeat (first | refine WL.step (Yl.move rfl) rfl ?_ | refine WL.step (Yl.assign rfl) rfl ?_ | refine WC.seq ?_ | refine WC.region ?_ | refine WL.nil ?_ | refine WN.then_normal ?_))
  refine WL.callR (g := 150) Tryz.call150 rfl (fun w s => unstamp_c x a n cap l w hl hc hn (Rd.old hr w s)) rfl fun p hp => ?_
  by_cases h0 : (Frm.unst l x).1 = 0
  · obtain ⟨he, hl1, hu, hul⟩ := Frm.unst_zero h0
    rw [hul] at hp ⊢
    have hg1 : Frm.gather l x 1 = (0, (Frm.unst l x).2) := by
      have := Frm.gather_step (b := l) (n := x) (k := 0) (congrArg Prod.fst (Frm.gather_zero l x)) (by rw [Nat.mul_zero, List.drop_zero]; exact h0)
      rwa [Nat.mul_zero, List.drop_zero, Frm.gather_zero, List.nil_append] at this
    (repeat (first | refine WL.step (Yl.move rfl) rfl ?_ | refine WL.step (Yl.assign rfl) rfl ?_ | refine WL.step (Yl.extract rfl rfl) rfl ?_ | (refine WL.k_bin .neq ?_; refine WL.step (Yl.neqF rfl rfl (by rw [h0]; rfl)) rfl ?_) | refine WC.seq ?_ | refine WC.region ?_ | refine WL.nil ?_ | refine WN.then_normal ?_))
    refine WC.cond_false rfl rfl ?_
    have hK0 := byte_lt ((Frm.unst l x).2.getD 0 0)
    (repeat (first | refine WL.step (Yl.move rfl) rfl ?_ | refine WL.step (Yl.assign rfl) rfl ?_ | (refine WL.k_load ?_; refine WL.step (Yl.load (T := 5) (i := 0) Tryz.isAgg5 rfl (Rd.row zH) (bs_get (by omega))) rfl ?_) | (refine WL.k_idxa ?_; refine WL.step (Yl.indexAddr1 (t := 23) (j := 0) Tryz.underlying23 Tryz.sizeOf5 rfl rfl (Rd.row zH) (bs_ne (i := 0) (by omega)) (by omega)) rfl ?_) | (refine WL.k_conv ?_; refine WL.step (Yl.conv64 (s := 5) (t := 3) Tryz.underlying5 Tryz.underlying3 rfl (by omega)) rfl ?_) | refine WC.seq ?_ | refine WC.region ?_ | refine WL.nil ?_ | refine WN.then_normal ?_ | refine WC.skip ?_))
    by_cases hk : Frm.kindOf (Frm.unst l x).2 = 1 ∨ Frm.kindOf (Frm.unst l x).2 = 2
    · have hS := Frm.secs_of hk
      obtain ⟨m0, m1, m2, htab⟩ := tab_sec' hk
      have hdec : Frm.dec l x = if (Frm.gather l x (Frm.secs (Frm.kindOf (Frm.unst l x).2)).1).1 ≠ 0 then Frm.bad (Frm.gather l x (Frm.secs (Frm.kindOf (Frm.unst l x).2)).1).1 else Frm.fin (Frm.kindOf (Frm.unst l x).2) x (Frm.gather l x (Frm.secs (Frm.kindOf (Frm.unst l x).2)).1).2 := by
        unfold Frm.dec
        rw [if_neg (not_not_intro h0), if_neg (not_not_intro hk)]
      rw [hdec]
      have hfin : ∀ D, Frm.fin (Frm.kindOf (Frm.unst l x).2) x D = if (Crc.opened (D.take (15 + Frm.dl (Frm.kindOf (Frm.unst l x).2)))).1 ≠ 0 then Frm.bad 12
          else if (∀ c ∈ D.drop (15 + Frm.dl (Frm.kindOf (Frm.unst l x).2)), c = 0) ∧ Frm.check (Frm.vk D) x (Frm.vt D) (Frm.vi D) (Frm.vn D) ((Crc.opened (D.take (15 + Frm.dl (Frm.kindOf (Frm.unst l x).2)))).2.drop 11).length = 0
          then ⟨0, (Frm.secs (Frm.kindOf (Frm.unst l x).2)).1, Frm.vk D, x, Frm.vt D, Frm.vi D, Frm.vn D, (Crc.opened (D.take (15 + Frm.dl (Frm.kindOf (Frm.unst l x).2)))).2.drop 11⟩ else Frm.bad 8 := fun D => rfl
      (repeat (first | (refine WL.k_call 151 ?_; refine WL.callV (g := 151) (v := .bool true) Tryz.call151 rfl (fun w _ => known_t _ w (by unfold Frm.kindOf at hk; omega)) rfl ?_) | refine WL.step (Yl.not rfl) rfl ?_ | refine WL.nil ?_ | refine WN.then_normal ?_))
      refine WC.cond_false rfl rfl ?_
      rw [show ((Frm.unst l x).2.getD 0 0).toNat = Frm.kindOf (Frm.unst l x).2 from rfl]
      have hk3 : Frm.kindOf (Frm.unst l x).2 < 3 := by omega
      generalize Frm.kindOf (Frm.unst l x).2 = K at *
      generalize (Frm.secs (K : Int)).1 = S at *
      generalize Frm.dl K = L at *
      (repeat (first | refine WL.step (Yl.move rfl) rfl ?_ | refine WL.step (Yl.loadAggRd (T := 211) (vs := tabCells) (us := [.int .i64 (S : Int), .int .i64 (L : Int), .int .i64 m0, .int .i64 m1, .int .i64 m2]) Tryz.isAgg211 Tryz.sizeOf211 rfl (Rd.old hT) rfl htab) rfl ?_ | refine WL.step (Yl.indexArr (t := 212) (j := K) Tryz.underlying212 Tryz.sizeOf211 rfl rfl hk3) rfl ?_ | refine WC.seq ?_ | refine WC.region ?_ | refine WN.then_normal ?_ | refine WC.skip ?_))
      refine WL.allocA Tryz.zeroValue211 rfl fun bk => ?_
      refine WL.storeWhole (T := 211) (k := 5) Tryz.sizeOf211 rfl rfl rfl .here rfl rfl ?_
      (repeat (first | refine WL.step (Yl.assign rfl) rfl ?_ | refine WC.seq ?_ | refine WC.region ?_ | refine WL.nil ?_ | refine WN.then_normal ?_ | refine WC.block ?_))
      refine WC.loop (α := Nat × (Option Addr × Nat)) (fun g => [(0, .slice a n cap), (1, .int .i64 x), (4, .pointer (some ⟨br, 0, none⟩)), (7, .slice g.2.1 (112 * g.1) g.2.2), (10, .pointer (some ⟨bk, 0, none⟩)), (11, .int .i64 (g.1 : Int))])
        (fun g => [.row g.2.1 g.2.2 5 1 (bs (Frm.gather l x g.1).2), .blk bk (.cells #[.int .i64 (S : Int), .int .i64 (L : Int), .int .i64 m0, .int .i64 m1, .int .i64 m2] 211 (0, 0)), .blk br (.cells #[.int .i64 0, .int .i64 0, .int .i64 0, .int .i64 0, .int .i64 0, .slice none 0 0] 121 (0, 0))])
        (fun g => 1 ≤ g.1 ∧ g.1 ≤ S ∧ 112 * g.1 ≤ g.2.2 ∧ (Frm.gather l x g.1).1 = 0 ∧ (Frm.gather l x g.1).2.length = 112 * g.1 ∧ 128 * g.1 ≤ n) (fun g => S - g.1) (1, p)
        (.cons rfl rfl (.cons rfl rfl (.cons rfl rfl (.cons rfl rfl (.cons rfl rfl (.cons rfl rfl .nil)))))) (by rw [hg1]; exact .cons zK (.cons zK (.cons zK .nil))) ⟨by simp, hS.1, hp, by rw [hg1], by rw [hg1]; exact hul, by simp only; omega⟩ ?_
      intro ⟨i, o, oc⟩ ⟨hi1, hi, hoc, hgi, hgl, hin⟩
      simp only at hi1 hi hoc hgi hgl hin ⊢
      (repeat (first | refine WL.step (Yl.move rfl) rfl ?_ | (refine WL.k_load ?_; refine WL.step (Yl.loadBlk (T := 3) Tryz.isAgg3 rfl zH (by rfl)) rfl ?_) | refine WL.step (Yl.fld0 (t := 211) Tryz.underlying211 fl211 rfl rfl) rfl ?_ | refine WL.step (Yl.lss rfl rfl) rfl ?_ | refine WC.seq ?_ | refine WC.region ?_ | refine WL.nil ?_ | refine WN.then_normal ?_))
      refine WC.ite rfl (fun h1 => ?_) (fun h1 => ?_)
      · have hcut : CellsAt w (cutA a (i * 128) cap 1) (bs (l.drop (128 * i))) := by
          have := cutOf (cap := cap) (i * 128) n hr (by omega)
          rw [List.take_of_length_le (by rw [List.length_drop]; omega)] at this
          rw [Nat.mul_comm 128 i]; exact this
        (repeat (first | refine WL.step (Yl.move rfl) rfl ?_ | (refine WL.k_slice ?_; refine WL.step (Yl.cutFrom (t := 23) Tryz.underlying23 Tryz.sizeOf5 rfl rfl (by omega)) rfl ?_) | (refine WL.k_bin .mul ?_; refine WL.step (Yl.mul64C rfl (by omega)) rfl ?_) | refine WC.seq ?_ | refine WC.region ?_ | refine WN.then_normal ?_ | refine WC.block ?_ | refine WC.skip ?_))
        refine WL.callR (g := 150) Tryz.call150 rfl (fun w s => unstamp_c x _ (n - i * 128) (cap - i * 128) (l.drop (128 * i)) w (by rw [List.length_drop]; omega) (by omega) (by omega) (Rd.old hcut w s)) rfl fun p2 hp2 => ?_
        by_cases h2 : (Frm.unst (l.drop (128 * i)) x).1 = 0
        · obtain ⟨_, hl2, _, hul2⟩ := Frm.unst_zero h2
          have hst := Frm.gather_step hgi h2
          rw [List.length_drop] at hl2
          (repeat (first | refine WL.step (Yl.move rfl) rfl ?_ | refine WL.step (Yl.assign rfl) rfl ?_ | refine WL.step (Yl.extract rfl rfl) rfl ?_ | (refine WL.k_bin .neq ?_; refine WL.step (Yl.neqF rfl rfl (by rw [h2]; rfl)) rfl ?_) | refine WC.seq ?_ | refine WC.region ?_ | refine WL.nil ?_ | refine WN.then_normal ?_))
          refine WC.cond_false rfl rfl ?_
          (repeat (first | refine WL.step (Yl.move rfl) rfl ?_ | refine WC.region ?_ | refine WN.then_normal ?_ | refine WC.skip ?_))
          refine WL.appendRow (t := 23) (n := 112 * i) (m := 112) (olds := bs (Frm.gather l x i).2) Tryz.underlying23 elemU8 rfl (by rw [← hul2]; rfl) zK (by rw [bs_length, hgl]; omega) hoc (Rd.row (.head _)) (by rw [bs_length, hul2]) (bs_one _) (by omega) (by simp only [maxLen]; omega) rfl fun p3 hp3 => ?_
          rw [← bs_append]
          (repeat (first | refine WL.step (Yl.move rfl) rfl ?_ | refine WL.step (Yl.assign rfl) rfl ?_ | (refine WL.k_bin .add ?_; refine WL.step (Yl.add64C rfl (by omega)) rfl ?_) | refine WC.region ?_ | refine WL.nil ?_ | refine WN.then_normal ?_ | refine WN.block_normal ?_))
          exact WN.next (i + 1, p3) ⟨by simp only; omega, by simp only; omega, by simp only; omega, by simp only [hst], by simp only [hst, List.length_append, hgl, hul2]; omega, by simp only; omega⟩ (by simp only; omega)
            zS (by simp only [hst]; exact .cons zK (.cons zK (.cons zK .nil)))
        · have hst := Frm.gather_stop hgi h2
          have hk2 : Frm.gather l x S = ((Frm.unst (l.drop (128 * i)) x).1, []) := by
            rw [← hst]; exact Frm.gather_keep (by rw [hst]; exact h2) (by omega)
          rw [hk2, if_pos h2]
          (repeat (first | refine WL.step (Yl.move rfl) rfl ?_ | refine WL.step (Yl.assign rfl) rfl ?_ | refine WL.step (Yl.extract rfl rfl) rfl ?_ | (refine WL.k_bin .neq ?_; refine WL.step (Yl.neqT rfl rfl (by omega)) rfl ?_) | refine WC.seq ?_ | refine WC.region ?_ | refine WL.nil ?_ | refine WN.then_normal ?_))
          refine WC.cond_true rfl rfl ?_
          (repeat (first | refine WL.step (Yl.move rfl) rfl ?_ | refine WL.step (Yl.build (ps := []) rfl buildF0) rfl ?_ | refine WC.seq ?_ | refine WC.region ?_))
          refine WL.storeWhole (T := 121) (k := 6) Tryz.sizeOf121 rfl rfl rfl zK rfl rfl ?_
          (repeat (first | refine WL.step (Yl.assign rfl) rfl ?_ | refine WL.nil ?_ | refine WN.then_normal ?_ | refine WC.ret ?_ | refine WN.then_ret ?_ | refine WN.block_ret ?_))
          exact WN.ret3C rfl Tryz.isAgg121 Tryz.sizeOf121 rfl rfl rfl (.head _) rfl (Decoded.bad _) (.free .nil)
      · obtain rfl : i = S := by omega
        rw [if_neg (not_not_intro hgi), hfin]
        generalize (Frm.gather l x i).2 = D at *
        have hDl : 15 + L ≤ D.length := by omega
        (repeat (first | refine WL.step (Yl.move rfl) rfl ?_ | refine WL.step (Yl.build (ps := [(1, .tmp 65)]) rfl (buildF1 x)) rfl ?_ | refine WC.seq ?_ | refine WC.region ?_ | refine WN.then_normal ?_ | refine WC.exit ?_ | refine WN.then_exit ?_ | refine WN.block_here ?_))
        refine WL.allocA Tryz.zeroValue121 rfl fun bf => ?_
        refine WL.storeWhole (T := 121) (k := 6) Tryz.sizeOf121 rfl rfl rfl .here rfl rfl ?_
        (repeat (first | refine WL.step (Yl.assign rfl) rfl ?_ | refine WC.seq ?_ | refine WC.region ?_ | refine WL.nil ?_ | refine WN.then_normal ?_))
        refine WL.call (g := 145) Tryz.call145 rfl (fun w _ => fields_c bf w) rfl fun v B hv => ?_
        obtain ⟨c, q, rfl, rfl⟩ := hv
        simp only [List.cons_append, List.nil_append]
        (repeat (first | refine WL.step (Yl.move rfl) rfl ?_ | refine WL.step (Yl.len (t := 202) Tryz.underlying202 rfl) rfl ?_ | refine WL.nil ?_ | refine WN.then_normal ?_ | refine WC.block ?_))
        refine WC.loop (α := Nat) (fun j => [(0, .slice a n cap), (1, .int .i64 x), (4, .pointer (some ⟨br, 0, none⟩)), (7, .slice o (112 * i) oc), (10, .pointer (some ⟨bk, 0, none⟩)), (14, .pointer (some ⟨bf, 0, none⟩)), (15, .int .i64 ((atN j : Nat) : Int)), (67, .slice (some ⟨q, 0, none⟩) 4 4), (68, .int .i64 4), (69, .int .i64 (j : Int))])
          (fun j => [.blk bf (.cells (fN x D j) 121 (0, 0)), .row (some ⟨q, 0, none⟩) 4 206 2 (fcells c), .blk c (.cells #[.pointer (some ⟨bf, 0, none⟩)] 237 (0, 0)), .row o oc 5 1 (bs D), .blk bk (.cells #[.int .i64 (i : Int), .int .i64 (L : Int), .int .i64 m0, .int .i64 m1, .int .i64 m2] 211 (0, 0)), .blk br (.cells #[.int .i64 0, .int .i64 0, .int .i64 0, .int .i64 0, .int .i64 0, .slice none 0 0] 121 (0, 0))])
          (fun j => j ≤ 4) (fun j => 4 - j) 0 zS (.cons zK (.cons zK (.cons zK (.cons zK (.cons zK (.cons zK .nil)))))) (by omega) ?_
        intro j hj
        (repeat (first | refine WL.step (Yl.lss rfl rfl) rfl ?_ | refine WC.seq ?_ | refine WC.region ?_ | refine WL.nil ?_ | refine WN.then_normal ?_))
        refine WC.ite rfl (fun h2 => ?_) (fun h2 => ?_)
        · rcases (show j = 0 ∨ j = 1 ∨ j = 2 ∨ j = 3 by omega) with rfl | rfl | rfl | rfl
          · have hv : Big.uintAt D (0 : Nat) (1 : Nat) = (0, Frm.vk D) := uintIn (by decide) (by omega)
            have hvl : Frm.vk D < 4294967296 := valLt _ (by decide)
            (repeat (first | (refine WL.k_load ?_; refine WL.step (Yl.loadAggRd (b := q) (off := 0) (vs := fcells c) (us := [.int .i64 1, .func (.func 180) #[] #[.pointer (some ⟨c, 0, none⟩)]]) Tryz.isAgg206 Tryz.sizeOf206 rfl (Rd.row zH) rfl rfl) rfl ?_) | (refine WL.k_idxa ?_; refine WL.step (Yl.indexAddr (t := 202) (k := 2) (j := 0) Tryz.underlying202 Tryz.sizeOf206 rfl rfl (Rd.row zH) (by unfold fcells; exact List.cons_ne_nil _ _) (by decide)) rfl ?_) | refine WC.seq ?_ | refine WC.region ?_ | refine WN.then_normal ?_ | refine WC.block ?_ | refine WC.skip ?_))
            refine WL.allocA Tryz.zeroValue206 rfl fun m => ?_
            refine WL.storeWhole (T := 206) (k := 2) Tryz.sizeOf206 rfl rfl rfl .here rfl rfl ?_
            (repeat (first | refine WL.step (Yl.move rfl) rfl ?_ | refine WL.step (Yl.assign rfl) rfl ?_ | refine WL.step (Yl.extract rfl rfl) rfl ?_ | (refine WL.k_load ?_; first | refine WL.step (Yl.loadBlk (T := 3) Tryz.isAgg3 rfl zH (by rfl)) rfl ?_ | refine WL.step (Yl.loadBlk (T := 204) Tryz.isAgg204 rfl zH (by rfl)) rfl ?_) | refine WL.step (Yl.fld0 (t := 206) Tryz.underlying206 fl206 rfl rfl) rfl ?_ | (refine WL.k_call 152 ?_; refine WL.callV (g := 152) (v := .tuple #[.int .u64 (Frm.vk D : Int), .int .i64 0]) Tryz.call152 rfl (fun w s => uint_v o (112 * i) oc D 0 1 _ w hgl (by omega) (by omega) (Rd.row zH w s) hv) rfl ?_) | (refine WL.k_callt ?_; refine WL.callFV (g := 180) Tryz.call180 rfl rfl (fun w s => field1_c c bf w (Rd.lit (vs := [.pointer (some ⟨bf, 0, none⟩)]) zH w s)) rfl ?_) | (refine WL.k_conv ?_; refine WL.step (Yl.conv64 (s := 49) (t := 3) Tryz.underlying49 Tryz.underlying3 rfl (by omega)) rfl ?_) | refine WL.step (Yl.nilCheck rfl) rfl ?_ | refine WC.seq ?_ | refine WC.region ?_ | refine WL.nil ?_ | refine WN.then_normal ?_))
            refine WL.storeAt (T := 3) Tryz.sizeOf3 rfl rfl rfl zK rfl ?_
            (repeat (first | refine WL.step (Yl.move rfl) rfl ?_ | refine WL.step (Yl.assign rfl) rfl ?_ | (refine WL.k_load ?_; refine WL.step (Yl.loadBlk (T := 3) Tryz.isAgg3 rfl zH (by rfl)) rfl ?_) | refine WL.step (Yl.fld0 (t := 206) Tryz.underlying206 fl206 rfl rfl) rfl ?_ | (refine WL.k_bin .add ?_; refine WL.step (Yl.add64 rfl rfl (by decide)) rfl ?_) | refine WC.region ?_ | refine WL.nil ?_ | refine WN.then_normal ?_ | refine WN.block_normal ?_))
            exact WN.next 1 (by omega) (by omega) zS (.cons zK (.cons zK (.cons zK (.cons zK (.cons zK (.cons zK .nil))))))
          · have hv : Big.uintAt D (1 : Nat) (4 : Nat) = (0, Frm.vt D) := uintIn (by decide) (by omega)
            have hvl : Frm.vt D < 4294967296 := valLt _ (by decide)
            (repeat (first | (refine WL.k_load ?_; refine WL.step (Yl.loadAggRd (b := q) (off := 2) (vs := fcells c) (us := [.int .i64 4, .func (.func 181) #[] #[.pointer (some ⟨c, 0, none⟩)]]) Tryz.isAgg206 Tryz.sizeOf206 rfl (Rd.row zH) rfl rfl) rfl ?_) | (refine WL.k_idxa ?_; refine WL.step (Yl.indexAddr (t := 202) (k := 2) (j := 1) Tryz.underlying202 Tryz.sizeOf206 rfl rfl (Rd.row zH) (by unfold fcells; exact List.cons_ne_nil _ _) (by decide)) rfl ?_) | refine WC.seq ?_ | refine WC.region ?_ | refine WN.then_normal ?_ | refine WC.block ?_ | refine WC.skip ?_))
            refine WL.allocA Tryz.zeroValue206 rfl fun m => ?_
            refine WL.storeWhole (T := 206) (k := 2) Tryz.sizeOf206 rfl rfl rfl .here rfl rfl ?_
            (repeat (first | refine WL.step (Yl.move rfl) rfl ?_ | refine WL.step (Yl.assign rfl) rfl ?_ | refine WL.step (Yl.extract rfl rfl) rfl ?_ | (refine WL.k_load ?_; first | refine WL.step (Yl.loadBlk (T := 3) Tryz.isAgg3 rfl zH (by rfl)) rfl ?_ | refine WL.step (Yl.loadBlk (T := 204) Tryz.isAgg204 rfl zH (by rfl)) rfl ?_) | refine WL.step (Yl.fld0 (t := 206) Tryz.underlying206 fl206 rfl rfl) rfl ?_ | (refine WL.k_call 152 ?_; refine WL.callV (g := 152) (v := .tuple #[.int .u64 (Frm.vt D : Int), .int .i64 0]) Tryz.call152 rfl (fun w s => uint_v o (112 * i) oc D 1 4 _ w hgl (by omega) (by omega) (Rd.row zH w s) hv) rfl ?_) | (refine WL.k_callt ?_; refine WL.callFV (g := 181) Tryz.call181 rfl rfl (fun w s => field2_c c bf w (Rd.lit (vs := [.pointer (some ⟨bf, 0, none⟩)]) zH w s)) rfl ?_) | (refine WL.k_conv ?_; refine WL.step (Yl.conv64 (s := 49) (t := 3) Tryz.underlying49 Tryz.underlying3 rfl (by omega)) rfl ?_) | refine WL.step (Yl.nilCheck rfl) rfl ?_ | refine WC.seq ?_ | refine WC.region ?_ | refine WL.nil ?_ | refine WN.then_normal ?_))
            refine WL.storeAt (T := 3) Tryz.sizeOf3 rfl rfl rfl zK rfl ?_
            (repeat (first | refine WL.step (Yl.move rfl) rfl ?_ | refine WL.step (Yl.assign rfl) rfl ?_ | (refine WL.k_load ?_; refine WL.step (Yl.loadBlk (T := 3) Tryz.isAgg3 rfl zH (by rfl)) rfl ?_) | refine WL.step (Yl.fld0 (t := 206) Tryz.underlying206 fl206 rfl rfl) rfl ?_ | (refine WL.k_bin .add ?_; refine WL.step (Yl.add64 rfl rfl (by decide)) rfl ?_) | refine WC.region ?_ | refine WL.nil ?_ | refine WN.then_normal ?_ | refine WN.block_normal ?_))
            exact WN.next 2 (by omega) (by omega) zS (.cons zK (.cons zK (.cons zK (.cons zK (.cons zK (.cons zK .nil))))))
          · have hv : Big.uintAt D (5 : Nat) (2 : Nat) = (0, Frm.vi D) := uintIn (by decide) (by omega)
            have hvl : Frm.vi D < 4294967296 := valLt _ (by decide)
            (repeat (first | (refine WL.k_load ?_; refine WL.step (Yl.loadAggRd (b := q) (off := 4) (vs := fcells c) (us := [.int .i64 2, .func (.func 182) #[] #[.pointer (some ⟨c, 0, none⟩)]]) Tryz.isAgg206 Tryz.sizeOf206 rfl (Rd.row zH) rfl rfl) rfl ?_) | (refine WL.k_idxa ?_; refine WL.step (Yl.indexAddr (t := 202) (k := 2) (j := 2) Tryz.underlying202 Tryz.sizeOf206 rfl rfl (Rd.row zH) (by unfold fcells; exact List.cons_ne_nil _ _) (by decide)) rfl ?_) | refine WC.seq ?_ | refine WC.region ?_ | refine WN.then_normal ?_ | refine WC.block ?_ | refine WC.skip ?_))
            refine WL.allocA Tryz.zeroValue206 rfl fun m => ?_
            refine WL.storeWhole (T := 206) (k := 2) Tryz.sizeOf206 rfl rfl rfl .here rfl rfl ?_
            (repeat (first | refine WL.step (Yl.move rfl) rfl ?_ | refine WL.step (Yl.assign rfl) rfl ?_ | refine WL.step (Yl.extract rfl rfl) rfl ?_ | (refine WL.k_load ?_; first | refine WL.step (Yl.loadBlk (T := 3) Tryz.isAgg3 rfl zH (by rfl)) rfl ?_ | refine WL.step (Yl.loadBlk (T := 204) Tryz.isAgg204 rfl zH (by rfl)) rfl ?_) | refine WL.step (Yl.fld0 (t := 206) Tryz.underlying206 fl206 rfl rfl) rfl ?_ | (refine WL.k_call 152 ?_; refine WL.callV (g := 152) (v := .tuple #[.int .u64 (Frm.vi D : Int), .int .i64 0]) Tryz.call152 rfl (fun w s => uint_v o (112 * i) oc D 5 2 _ w hgl (by omega) (by omega) (Rd.row zH w s) hv) rfl ?_) | (refine WL.k_callt ?_; refine WL.callFV (g := 182) Tryz.call182 rfl rfl (fun w s => field3_c c bf w (Rd.lit (vs := [.pointer (some ⟨bf, 0, none⟩)]) zH w s)) rfl ?_) | (refine WL.k_conv ?_; refine WL.step (Yl.conv64 (s := 49) (t := 3) Tryz.underlying49 Tryz.underlying3 rfl (by omega)) rfl ?_) | refine WL.step (Yl.nilCheck rfl) rfl ?_ | refine WC.seq ?_ | refine WC.region ?_ | refine WL.nil ?_ | refine WN.then_normal ?_))
            refine WL.storeAt (T := 3) Tryz.sizeOf3 rfl rfl rfl zK rfl ?_
            (repeat (first | refine WL.step (Yl.move rfl) rfl ?_ | refine WL.step (Yl.assign rfl) rfl ?_ | (refine WL.k_load ?_; refine WL.step (Yl.loadBlk (T := 3) Tryz.isAgg3 rfl zH (by rfl)) rfl ?_) | refine WL.step (Yl.fld0 (t := 206) Tryz.underlying206 fl206 rfl rfl) rfl ?_ | (refine WL.k_bin .add ?_; refine WL.step (Yl.add64 rfl rfl (by decide)) rfl ?_) | refine WC.region ?_ | refine WL.nil ?_ | refine WN.then_normal ?_ | refine WN.block_normal ?_))
            exact WN.next 3 (by omega) (by omega) zS (.cons zK (.cons zK (.cons zK (.cons zK (.cons zK (.cons zK .nil))))))
          · have hv : Big.uintAt D (7 : Nat) (4 : Nat) = (0, Frm.vn D) := uintIn (by decide) (by omega)
            have hvl : Frm.vn D < 4294967296 := valLt _ (by decide)
            (repeat (first | (refine WL.k_load ?_; refine WL.step (Yl.loadAggRd (b := q) (off := 6) (vs := fcells c) (us := [.int .i64 4, .func (.func 183) #[] #[.pointer (some ⟨c, 0, none⟩)]]) Tryz.isAgg206 Tryz.sizeOf206 rfl (Rd.row zH) rfl rfl) rfl ?_) | (refine WL.k_idxa ?_; refine WL.step (Yl.indexAddr (t := 202) (k := 2) (j := 3) Tryz.underlying202 Tryz.sizeOf206 rfl rfl (Rd.row zH) (by unfold fcells; exact List.cons_ne_nil _ _) (by decide)) rfl ?_) | refine WC.seq ?_ | refine WC.region ?_ | refine WN.then_normal ?_ | refine WC.block ?_ | refine WC.skip ?_))
            refine WL.allocA Tryz.zeroValue206 rfl fun m => ?_
            refine WL.storeWhole (T := 206) (k := 2) Tryz.sizeOf206 rfl rfl rfl .here rfl rfl ?_
            (repeat (first | refine WL.step (Yl.move rfl) rfl ?_ | refine WL.step (Yl.assign rfl) rfl ?_ | refine WL.step (Yl.extract rfl rfl) rfl ?_ | (refine WL.k_load ?_; first | refine WL.step (Yl.loadBlk (T := 3) Tryz.isAgg3 rfl zH (by rfl)) rfl ?_ | refine WL.step (Yl.loadBlk (T := 204) Tryz.isAgg204 rfl zH (by rfl)) rfl ?_) | refine WL.step (Yl.fld0 (t := 206) Tryz.underlying206 fl206 rfl rfl) rfl ?_ | (refine WL.k_call 152 ?_; refine WL.callV (g := 152) (v := .tuple #[.int .u64 (Frm.vn D : Int), .int .i64 0]) Tryz.call152 rfl (fun w s => uint_v o (112 * i) oc D 7 4 _ w hgl (by omega) (by omega) (Rd.row zH w s) hv) rfl ?_) | (refine WL.k_callt ?_; refine WL.callFV (g := 183) Tryz.call183 rfl rfl (fun w s => field4_c c bf w (Rd.lit (vs := [.pointer (some ⟨bf, 0, none⟩)]) zH w s)) rfl ?_) | (refine WL.k_conv ?_; refine WL.step (Yl.conv64 (s := 49) (t := 3) Tryz.underlying49 Tryz.underlying3 rfl (by omega)) rfl ?_) | refine WL.step (Yl.nilCheck rfl) rfl ?_ | refine WC.seq ?_ | refine WC.region ?_ | refine WL.nil ?_ | refine WN.then_normal ?_))
            refine WL.storeAt (T := 3) Tryz.sizeOf3 rfl rfl rfl zK rfl ?_
            (repeat (first | refine WL.step (Yl.move rfl) rfl ?_ | refine WL.step (Yl.assign rfl) rfl ?_ | (refine WL.k_load ?_; refine WL.step (Yl.loadBlk (T := 3) Tryz.isAgg3 rfl zH (by rfl)) rfl ?_) | refine WL.step (Yl.fld0 (t := 206) Tryz.underlying206 fl206 rfl rfl) rfl ?_ | (refine WL.k_bin .add ?_; refine WL.step (Yl.add64 rfl rfl (by decide)) rfl ?_) | refine WC.region ?_ | refine WL.nil ?_ | refine WN.then_normal ?_ | refine WN.block_normal ?_))
            exact WN.next 4 (by omega) (by omega) zS (.cons zK (.cons zK (.cons zK (.cons zK (.cons zK (.cons zK .nil))))))
        · obtain rfl : j = 4 := by omega
          have hlt : (D.take (15 + L)).length = 11 + L + 4 := by rw [List.length_take]; omega
          have hcut : ∀ {X : Cx} {A : List HA}, HA.row o oc 5 1 (bs D) ∈ A → Rd X A (cutA o 0 oc 1) (bs (D.take (15 + L))) := fun {X A} h => by
            have := Rd.cut (lo := 0) (cap := oc) (k := 1) (m := 15 + L) (Rd.row (X := X) h) (by rw [bs_length]; omega)
            rwa [Nat.zero_mul, List.drop_zero, ← bs_take] at this
          have hcut2 : ∀ {X : Cx} {A : List HA}, HA.row o oc 5 1 (bs D) ∈ A → Rd X A (cutA o (11 + L + 4) oc 1) (bs (D.drop (15 + L))) := fun {X A} h => by
            have := Rd.cut (lo := 11 + L + 4) (cap := oc) (k := 1) (m := D.length) (Rd.row (X := X) h) (by rw [bs_length]; omega)
            rw [Nat.mul_one, ← bs_drop, List.take_of_length_le (by rw [bs_length, List.length_drop]; omega)] at this
            rw [show 15 + L = 11 + L + 4 by omega]; exact this
          (repeat (first | refine WL.step (Yl.move rfl) rfl ?_ | refine WL.step (Yl.assign rfl) rfl ?_ | (refine WL.k_load ?_; refine WL.step (Yl.loadBlk (T := 3) Tryz.isAgg3 rfl zH (by rfl)) rfl ?_) | refine WL.step (Yl.fld0 (t := 211) Tryz.underlying211 fl211 rfl rfl) rfl ?_ | (refine WL.k_bin .add ?_; first | refine WL.step (Yl.add64N (m := 11) rfl rfl (by omega)) rfl ?_ | refine WL.step (Yl.add64C rfl (by omega)) rfl ?_) | (refine WL.k_slice ?_; refine WL.step (Yl.cutTo (t := 23) Tryz.underlying23 Tryz.sizeOf5 rfl rfl (by omega)) rfl ?_) | refine WC.seq ?_ | refine WC.region ?_ | refine WL.nil ?_ | refine WN.then_normal ?_ | refine WC.exit ?_ | refine WN.then_exit ?_ | refine WN.block_here ?_))
          refine WL.callR (g := 153) Tryz.call153 rfl (fun w s => unseal_c _ _ oc (D.take (15 + L)) w hlt (by omega) (by omega) (hcut (X := ⟨Tryz.prog, 0, _, []⟩) zH w s)) rfl fun p6 hp6 => ?_
          by_cases h5 : (Crc.opened (D.take (15 + L))).1 = 0
          · obtain ⟨hol, _⟩ := opened_len h5
            rw [if_neg (not_not_intro h5)]
            rw [hol, hlt] at hp6 ⊢
            have hol2 : (Crc.opened (D.take (15 + L))).2.length = 11 + L := by rw [hol, hlt]; rfl
            have hud : ((Crc.opened (D.take (15 + L))).2.drop 11).length = L := by rw [List.length_drop, hol2]; omega
            generalize (Crc.opened (D.take (15 + L))).2 = U at *
            (repeat (first | refine WL.step (Yl.move rfl) rfl ?_ | refine WL.step (Yl.assign rfl) rfl ?_ | refine WL.step (Yl.extract rfl rfl) rfl ?_ | (refine WL.k_bin .neq ?_; refine WL.step (Yl.neqF rfl rfl (by rw [h5]; rfl)) rfl ?_) | refine WC.seq ?_ | refine WC.region ?_ | refine WL.nil ?_ | refine WN.then_normal ?_))
            refine WC.cond_false rfl rfl ?_
            (repeat (first | refine WL.step (Yl.move rfl) rfl ?_ | refine WL.step (Yl.fld0 (t := 121) Tryz.underlying121 fl121 rfl rfl) rfl ?_ | (refine WL.k_slice ?_; refine WL.step (Yl.cutFrom (t := 23) (lo := 11) Tryz.underlying23 Tryz.sizeOf5 rfl rfl (by omega)) rfl ?_) | refine WC.seq ?_ | refine WC.region ?_ | refine WN.then_normal ?_ | refine WC.skip ?_))
            refine WL.storeAt (T := 23) Tryz.sizeOf23 rfl rfl rfl zK rfl ?_
            by_cases h6 : ∀ c ∈ D.drop (15 + L), c = 0
            · have hfr : (fN x D 4).setIfInBounds 5 (.slice (cutA p6.1 11 p6.2 1) (11 + L + 4 - 4 - 11) (p6.2 - 11)) = #[.int .i64 (Frm.vk D : Int), .int .i64 x, .int .i64 (Frm.vt D : Int), .int .i64 (Frm.vi D : Int), .int .i64 (Frm.vn D : Int), .slice (cutA p6.1 11 p6.2 1) L (p6.2 - 11)] := by
                rw [show 11 + L + 4 - 4 - 11 = L by omega]; rfl
              rw [hfr]
              have hchk := fun w (h : Tab w) => check_c (Frm.vk D) x (Frm.vt D) (Frm.vi D) (Frm.vn D) (cutA p6.1 11 p6.2 1) L (p6.2 - 11) w h
              rw [hud]
              (repeat (first | refine WL.want rfl rfl rfl ?_ | refine WL.step (Yl.move rfl) rfl ?_ | (refine WL.k_load ?_; refine WL.step (Yl.loadAll (T := 121) Tryz.isAgg121 Tryz.sizeOf121 rfl zH rfl) rfl ?_) | refine WL.step (Yl.pick_f rfl rfl rfl) rfl ?_ | (refine WL.k_slice ?_; refine WL.step (Yl.cutFrom (t := 23) Tryz.underlying23 Tryz.sizeOf5 rfl rfl (by omega)) rfl ?_) | (refine WL.k_call 154 ?_; refine WL.callV (g := 154) (v := .bool true) Tryz.call154 rfl (fun w s => by have := zeros_c (cutA o (11 + L + 4) oc 1) (112 * i - (11 + L + 4)) (oc - (11 + L + 4)) (D.drop (15 + L)) w (by rw [List.length_drop]; omega) (by omega) (hcut2 (X := ⟨Tryz.prog, 0, _, []⟩) zH w s); rwa [decide_eq_true h6] at this) rfl ?_) | (refine WL.k_call 144 ?_; refine WL.callV (g := 144) Tryz.call144 rfl (fun w s => hchk w (Rd.old hT w s)) rfl ?_) | refine WL.step (Yl.neq rfl rfl) rfl ?_ | refine WL.step (Yl.not rfl) rfl ?_ | refine WC.seq ?_ | refine WC.region ?_ | refine WL.nil ?_ | refine WN.then_normal ?_))
              by_cases h7 : Frm.check (Frm.vk D) x (Frm.vt D) (Frm.vi D) (Frm.vn D) L = 0
              · rw [if_pos ⟨h6, h7⟩]
                refine WC.ite_false rfl (by omega) ?_
                (repeat (first | refine WC.seq ?_ | refine WN.then_normal ?_ | refine WC.skip ?_))
                refine WC.regionH [.blk bf (.cells #[.int .i64 (Frm.vk D : Int), .int .i64 x, .int .i64 (Frm.vt D : Int), .int .i64 (Frm.vi D : Int), .int .i64 (Frm.vn D : Int), .slice (cutA p6.1 11 p6.2 1) L (p6.2 - 11)] 121 (0, 0)), .blk bk (.cells #[.int .i64 (i : Int), .int .i64 (L : Int), .int .i64 m0, .int .i64 m1, .int .i64 m2] 211 (0, 0))] (by kernel_rfl) ?_
                (refine WH.order [0, 1, 2] (by repeat (first | exact Part.nil | refine Part.cons zK ?_ | refine Part.free ?_)) (by kernel_rfl) ?_; (repeat (first | (refine WT.k_load rfl ?_; (refine WT.kn rfl ?_; first | refine WT.take rfl rfl (fun _ _ _ h => h) (Yl.loadBlk (T := 3) Tryz.isAgg3 rfl zH (by rfl)) rfl (by kernel_rfl) (by kernel_rfl) ?_ | refine WT.take rfl rfl (fun _ _ _ h => h) (Yl.loadAll (T := 121) Tryz.isAgg121 Tryz.sizeOf121 rfl zH rfl) rfl (by kernel_rfl) (by kernel_rfl) ?_)) | (refine WT.k_fld rfl ?_; (refine WT.kn rfl ?_; refine WT.take rfl rfl (fun _ _ _ h => h) (Yl.fld0 (t := 211) Tryz.underlying211 fl211 rfl rfl) rfl (by kernel_rfl) (by kernel_rfl) ?_)))); refine WT.nil ?_)
                refine WH.only (i := 3) (by kernel_rfl) rfl ?_
                refine WL.storeWhole (T := 121) (k := 6) Tryz.sizeOf121 rfl rfl rfl zK rfl rfl ?_
                refine WL.nil (WN.nextH (.cons zK (.cons zK .nil)) ?_)
                (refine WH.order [4, 5] (by repeat (first | exact Part.nil | refine Part.cons zK ?_ | refine Part.free ?_)) (by kernel_rfl) ?_; (repeat (first | (refine WT.k_assign rfl ?_; (refine WT.kn rfl ?_; refine WT.take rfl rfl (fun _ _ _ h => h) (Yl.assign rfl) rfl (by kernel_rfl) (by kernel_rfl) ?_)))); refine WT.nil ?_)
                refine WH.done (by kernel_rfl) ?_
                (repeat (first | refine WN.then_normal ?_ | refine WC.ret ?_))
                refine WN.ret3C rfl Tryz.isAgg121 Tryz.sizeOf121 rfl rfl rfl (.head _) rfl ⟨p6, U, rfl, by omega, by omega, ?_, rfl⟩ (.cons zK .nil)
                simp only [hud]; rfl
              · rw [if_neg fun h => h7 h.2]
                refine WC.ite_true rfl (by omega) ?_
                (repeat (first | refine WL.step (Yl.build (ps := []) rfl buildF0) rfl ?_ | refine WC.seq ?_ | refine WC.region ?_))
                refine WL.storeWhole (T := 121) (k := 6) Tryz.sizeOf121 rfl rfl rfl zK rfl rfl ?_
                (repeat (first | refine WL.step (Yl.assign rfl) rfl ?_ | refine WL.nil ?_ | refine WN.then_normal ?_ | refine WC.ret ?_ | refine WN.then_ret ?_))
                exact WN.ret3C rfl Tryz.isAgg121 Tryz.sizeOf121 rfl rfl rfl (.head _) rfl (Decoded.bad 8) (.free .nil)
            · rw [if_neg fun h => h6 h.1]
              (repeat (first | refine WL.pass rfl rfl rfl rfl ?_ | refine WL.step (Yl.move rfl) rfl ?_ | refine WL.step (Yl.pick_t rfl rfl rfl) rfl ?_ | (refine WL.k_slice ?_; refine WL.step (Yl.cutFrom (t := 23) Tryz.underlying23 Tryz.sizeOf5 rfl rfl (by omega)) rfl ?_) | (refine WL.k_call 154 ?_; refine WL.callV (g := 154) (v := .bool false) Tryz.call154 rfl (fun w s => by have := zeros_c (cutA o (11 + L + 4) oc 1) (112 * i - (11 + L + 4)) (oc - (11 + L + 4)) (D.drop (15 + L)) w (by rw [List.length_drop]; omega) (by omega) (hcut2 (X := ⟨Tryz.prog, 0, _, []⟩) zH w s); rwa [decide_eq_false h6] at this) rfl ?_) | refine WL.step (Yl.not rfl) rfl ?_ | refine WC.seq ?_ | refine WC.region ?_ | refine WL.nil ?_ | refine WN.then_normal ?_))
              refine WC.cond_true rfl rfl ?_
              (repeat (first | refine WL.step (Yl.build (ps := []) rfl buildF0) rfl ?_ | refine WC.seq ?_ | refine WC.region ?_))
              refine WL.storeWhole (T := 121) (k := 6) Tryz.sizeOf121 rfl rfl rfl zK rfl rfl ?_
              (repeat (first | refine WL.step (Yl.assign rfl) rfl ?_ | refine WL.nil ?_ | refine WN.then_normal ?_ | refine WC.ret ?_ | refine WN.then_ret ?_))
              exact WN.ret3C rfl Tryz.isAgg121 Tryz.sizeOf121 rfl rfl rfl (.head _) rfl (Decoded.bad 8) (.free .nil)
          · have hob := opened_bad (by omega) h5
            rw [if_pos h5]
            rw [hob] at hp6 ⊢
            (repeat (first | refine WL.step (Yl.move rfl) rfl ?_ | refine WL.step (Yl.assign rfl) rfl ?_ | refine WL.step (Yl.extract rfl rfl) rfl ?_ | (refine WL.k_bin .neq ?_; refine WL.step (Yl.neqT rfl rfl (by decide)) rfl ?_) | refine WC.seq ?_ | refine WC.region ?_ | refine WL.nil ?_ | refine WN.then_normal ?_))
            refine WC.cond_true rfl rfl ?_
            (repeat (first | refine WL.step (Yl.build (ps := []) rfl buildF0) rfl ?_ | refine WC.seq ?_ | refine WC.region ?_))
            refine WL.storeWhole (T := 121) (k := 6) Tryz.sizeOf121 rfl rfl rfl zK rfl rfl ?_
            (repeat (first | refine WL.step (Yl.assign rfl) rfl ?_ | refine WL.nil ?_ | refine WN.then_normal ?_ | refine WC.ret ?_ | refine WN.then_ret ?_))
            exact WN.ret3C rfl Tryz.isAgg121 Tryz.sizeOf121 rfl rfl rfl (.head _) rfl (Decoded.bad 12) (.free .nil)
    · have hdec : Frm.dec l x = Frm.bad 8 := by
        unfold Frm.dec
        rw [if_neg (not_not_intro h0), if_pos hk]
      rw [hdec]
      (repeat (first | (refine WL.k_call 151 ?_; refine WL.callV (g := 151) (v := .bool false) Tryz.call151 rfl (fun w _ => known_f _ w (by unfold Frm.kindOf at hk; omega)) rfl ?_) | refine WL.step (Yl.not rfl) rfl ?_ | refine WL.nil ?_ | refine WN.then_normal ?_))
      refine WC.cond_true rfl rfl ?_
      (repeat (first | refine WL.step (Yl.build (ps := []) rfl buildF0) rfl ?_ | refine WC.seq ?_ | refine WC.region ?_))
      refine WL.storeWhole (T := 121) (k := 6) Tryz.sizeOf121 rfl rfl rfl zK rfl rfl ?_
      (repeat (first | refine WL.step (Yl.assign rfl) rfl ?_ | refine WL.nil ?_ | refine WN.then_normal ?_ | refine WC.ret ?_ | refine WN.then_ret ?_))
      exact WN.ret3C rfl Tryz.isAgg121 Tryz.sizeOf121 rfl rfl rfl (.head _) rfl (Decoded.bad 8) (.free .nil)
  · have hdec : Frm.dec l x = Frm.bad (Frm.unst l x).1 := by
      unfold Frm.dec
      rw [if_pos h0]
    rw [hdec]
    (repeat (first | refine WL.step (Yl.move rfl) rfl ?_ | refine WL.step (Yl.assign rfl) rfl ?_ | refine WL.step (Yl.extract rfl rfl) rfl ?_ | (refine WL.k_bin .neq ?_; refine WL.step (Yl.neqT rfl rfl (by omega)) rfl ?_) | refine WC.seq ?_ | refine WC.region ?_ | refine WL.nil ?_ | refine WN.then_normal ?_))
    refine WC.cond_true rfl rfl ?_
    (repeat (first | refine WL.step (Yl.move rfl) rfl ?_ | refine WL.step (Yl.build (ps := []) rfl buildF0) rfl ?_ | refine WC.seq ?_ | refine WC.region ?_))
    refine WL.storeWhole (T := 121) (k := 6) Tryz.sizeOf121 rfl rfl rfl zK rfl rfl ?_
    (repeat (first | refine WL.step (Yl.assign rfl) rfl ?_ | refine WL.nil ?_ | refine WN.then_normal ?_ | refine WC.ret ?_ | refine WN.then_ret ?_))
    exact WN.ret3C rfl Tryz.isAgg121 Tryz.sizeOf121 rfl rfl rfl (.head _) rfl (Decoded.bad _) (.free .nil)
end Go.Proofs.YtbkdjfgkebkknaaGreatDoor
namespace Go.Proofs.YtbkdjfgkebkknaaGreatDoor
set_option linter.unusedVariables false
set_option linter.unusedSimpArgs false
open Go Go.RowKit
set_option maxRecDepth 100000
set_option maxHeartbeats 8000000
def LB : List UInt8 := List.replicate 128 98
attribute [local irreducible] WL WC WN Yl WH WQ WT WE WU WG WV
end Go.Proofs.YtbkdjfgkebkknaaGreatDoor
namespace Go.Proofs.YtbkdjfgkebkknaaGreatDoor
set_option linter.unusedVariables false
set_option linter.unusedSimpArgs false
open Go Go.RowKit
set_option maxRecDepth 100000
set_option maxHeartbeats 8000000
structure DSh (v : DV) (dn : Bool) (pl : Option (Nat × List Int)) (o : Nat) : Prop where
  down : v.down = dn
  pl : v.pl = pl
  ops : v.ops = o
section
variable {v : DV} {pl : Option (Nat × List Int)} {o n : Nat} {K : List Int} {dn : Bool}
theorem DSh.lt (h : DSh v dn pl o) (ho : o < 4611686018427387904) : v.ops < 4611686018427387904 := by rw [h.ops]; exact ho
end
end Go.Proofs.YtbkdjfgkebkknaaGreatDoor
namespace Go.Proofs.YtbkdjfgkebkknaaGreatDoor
set_option linter.unusedVariables false
set_option linter.unusedSimpArgs false
open Go Go.RowKit
set_option maxRecDepth 100000
set_option maxHeartbeats 8000000
section
variable {X : Cx} {ρ : Env} {A : List HA} {ty t u : TypeId} {x y : Operand}
end
structure DSx (v : DV) (dn : Bool) (pl : Option (Nat × List Int)) (o r n : Nat) : Prop where
  sh : DSh v dn pl o
  rd : v.rd = r
  len : v.d.length = n
section
variable {v : DV} {pl : Option (Nat × List Int)} {o r n : Nat} {K : List Int} {dn : Bool}
structure OpX (i k : Nat) (pl : Option (Nat × List Int)) (e : Nat) (dn : Bool) (pl' : Option (Nat × List Int)) : Prop where
  at_ : i = k → e = 11 ∧ dn = true ∧ pl' = none
  no : i ≠ k → e = 0 ∧ dn = false
  op : ∀ (v : DV) (o : Nat) (f : DV → DV), (∀ u, (f u).down = u.down ∧ (f u).pl = u.pl ∧ (f u).ops = u.ops) → DSh v false pl o → (v.op f).2 = e ∧ DSh (v.op f).1 dn pl' (o + 1)
theorem bchk_lt {n i : Nat} (h : i < n) : bchk n (i : Int) = 0 := if_neg (by omega)
theorem write_ok {sec : Int} {x : List UInt8} (h : v.down = false) (he : writeE v.d.length sec x = 0) : v.write sec x = ({ v with F := writeF v.d.length v.F sec x } : DV).op id := by
  rw [DV.write, if_neg (by rw [h]; decide), if_neg (by omega)]
theorem writeE_ok {n i : Nat} {x : List UInt8} (h : i < n) (hx : x.length = 128) : writeE n (i : Int) x = 0 := by
  rw [writeE, if_pos (bchk_lt h), if_pos hx]
theorem wf_v {s : DS} {p : DP} (h : s.Ok p) : BkWf s.v.d s.v.F := h.wf
end
end Go.Proofs.YtbkdjfgkebkknaaGreatDoor
namespace Go.Proofs.YtbkdjfgkebkknaaGreatDoor
set_option linter.unusedVariables false
set_option linter.unusedSimpArgs false
open Go Go.RowKit
set_option maxRecDepth 100000
set_option maxHeartbeats 8000000
def fitN (v : JV) (x : Int) : Prop := v.used < v.n ∧ x ≤ (((v.n - v.used - 1) / 5 : Nat) : Int)
instance (v : JV) (x : Int) : Decidable (fitN v x) := inferInstanceAs (Decidable (_ ∧ _))
def fitS (v : JV) (x : Int) : Prop := 1 ≤ v.n ∧ x ≤ (((v.n - 1) / 5 : Nat) : Int)
instance (v : JV) (x : Int) : Decidable (fitS v x) := inferInstanceAs (Decidable (_ ∧ _))
def fitV (v : JV) (x : Int) : Bool × Bool := if x < 1 then (false, false) else (decide (fitN v x), decide (fitS v x))
def rowB (v : DV) (a k : Nat) : List UInt8 := ((List.range k).map fun i => (readR v.d v.F ((a + i : Nat) : Int)).1).flatten
def rdn (j : JV) (at_ : Nat) : Nat := min (at_ + 5) j.n - at_
def jrd (v : DV) (j : JV) (at_ : Nat) : DV × Frm.Out := if v.down = true ∧ 0 < rdn j at_ then (v, Frm.bad 11) else ({ v with rd := v.rd + rdn j at_ }, Frm.dec (rowB v (j.first + at_) (rdn j at_)) j.ep)
def JReadV (dp : DP) (p : JP) (s : JS) (r : DV × Frm.Out) : Value → List HA → Prop := fun u B => ∃ C ds', Decoded r.2 u C ∧ DS.Ok ds' dp ∧ ds'.v = r.1 ∧ B = C ++ (jI dp.bd p s ++ drI dp ds')
def TabO (w : World) (S : List Nat) : Prop := CellsOut w S (some ⟨0, 0, none⟩) tabCells
theorem rowB_succ (v : DV) (a k : Nat) : rowB v a (k + 1) = rowB v a k ++ (readR v.d v.F ((a + k : Nat) : Int)).1 := by
  simp [rowB, List.range_succ]
theorem readR_at {d : List (List UInt8)} {F : Nat → Option (List UInt8)} (hw : BkWf d F) {k : Nat} (h : k < d.length) : (readR d F (k : Int)).1 = (F k).getD (d.getD k []) ∧ (readR d F (k : Int)).2 = 0 ∧ (readR d F (k : Int)).1.length = 128 := by
  have e : readR d F (k : Int) = ((F k).getD (d.getD k []), 0) := by
    rw [readR, if_pos (bchk_lt h), Int.toNat_natCast]
  rw [e]
  refine ⟨rfl, rfl, ?_⟩
  cases hf : F k with
  | none => simp only [Option.getD_none]; exact hw.len _ (by simp [List.getD, h])
  | some x => exact hw.val k x hf
theorem rowB_len {v : DV} (hw : BkWf v.d v.F) {a : Nat} : ∀ {k : Nat}, a + k ≤ v.d.length → (rowB v a k).length = 128 * k
  | 0, _ => rfl
  | k + 1, h => by rw [rowB_succ, List.length_append, rowB_len hw (by omega), (readR_at hw (by omega)).2.2]; omega
section
variable {P : Program} {fn : Func} {R : Value → List HA → Prop} {ρ : Env} {A B : List HA} {n : Nat} {w0 : World} {S : List Nat}
theorem WN.ret3CS {t t2 t3 : Tmp} {T T' : TypeId} {b k : Nat} {us : Array Value} {fr : Nat × Nat} {v2 v3 : Value} (hr : fn.results = #[.cell t T, .tmp t2, .tmp t3]) (hg : ∀ w, (isAgg T).run P w = .ok true w) (hk : ∀ w, (sizeOf T).run P w = .ok k w)
    (hv : lk ρ t = some (.pointer (some ⟨b, 0, none⟩))) (hv2 : lk ρ t2 = some v2) (hv3 : lk ρ t3 = some v3) (hm : HA.blk b (.cells us T' fr) ∈ A) (hl : Nat.beq us.size k = true) (hR : R (.tuple #[.agg us, v2, v3]) B) (hp : Part A B) :
    WN ⟨P, n, w0, S⟩ (bodyPost P fn (GivesS S R w0)) .ret ρ A :=
  fun a w f s => by
    have hc := cell_run hg hk hm hl s
    have h1 := f.get t _ hv
    have h2 := f.get t2 _ hv2
    have h3 := f.get t3 _ hv3
    refine bodyPost_ret (v := .tuple #[.agg us, v2, v3]) ?_ f.defers ⟨_, B, rfl, hR, s.part hp⟩
    rw [Array.getD_eq_getD_getElem?] at h1 h2 h3
    simp [results, hr, h1, h2, h3, asAddr, hc]
end
attribute [local irreducible] WL WC WN Yl WH WQ WT WE WU WG WV
theorem jfits1_c (b : Nat) (x : Int) (k : Nat) (w : World) (hk : 1 ≤ k) (hk2 : k ≤ 100000) (hb : w.heap[b]? = some (.cells #[.int .i64 x] 3 (0, 0))) : Calls Tryz.prog 61 #[.int .i64 (k : Int), .pointer (some ⟨b, 0, none⟩)] w (Gives (Val (.bool (decide (x ≤ (((k - 1) / 5 : Nat) : Int))))) w) := by
  refine enter (args := [_, .pointer (some ⟨b, 0, none⟩)]) Tryz.func61 Tryz.ntmps61 rfl rfl ?_
  (repeat (first | refine WL.step (Yl.move rfl) rfl ?_ | refine WL.step (Yl.assign rfl) rfl ?_ | (refine WL.k_load ?_; refine WL.step (Yl.loadH Tryz.isAgg3 rfl (Has.old hb) (by rfl)) rfl ?_) | (refine WL.k_bin .sub ?_; refine WL.step (Yl.sub64C rfl (by omega) (by omega)) rfl ?_) | (refine WL.k_bin .quo ?_; refine WL.step (Yl.quo64C rfl (by omega) (by decide)) rfl ?_) | refine WL.step (Yl.leq rfl rfl) rfl ?_ | refine WC.seq ?_ | refine WC.region ?_ | refine WL.nil ?_ | refine WN.then_normal ?_ | refine WC.ret ?_))
  exact WN.ret1 rfl rfl ⟨rfl, rfl⟩ .nil
section
variable {bd : Nat} {p : JP} {s : JS}
theorem jfits_c (x : Int) (w : World) (h : JAt w bd p s) : Calls Tryz.prog 15 #[bptr p.bj, .int .i64 x] w (Gives (Val (.tuple #[.bool (fitV s.v x).1, .bool (fitV s.v x).2])) w) := by
  have hu := h.ok.used
  have hrow := h.ok.row
  refine enter (args := [.pointer (some ⟨p.bj, 0, none⟩), _]) Tryz.func15 Tryz.ntmps15 rfl rfl ?_
  (repeat (first | refine WC.seq ?_ | refine WC.region ?_))
  refine WL.box rfl rfl fun b3 => ?_
  by_cases hx : x < 1
  · rw [fitV, if_pos hx]
    (repeat (first | refine WL.want rfl rfl rfl ?_ | refine WL.step (Yl.move rfl) rfl ?_ | refine WL.step (Yl.assign rfl) rfl ?_ | (refine WL.k_load ?_; refine WL.step (Yl.loadBlk (T := 3) Tryz.isAgg3 rfl zH (by rfl)) rfl ?_) | refine WL.step (Yl.pick_f rfl rfl rfl) rfl ?_ | refine WL.callV (g := 60) (v := .bool true) Tryz.call60 rfl (fun w0 st => jvalid_c w0 (h.keep st.kept)) rfl ?_ | (refine WL.k_bin .lss ?_; refine WL.step (Yl.lssT rfl rfl (by omega)) rfl ?_) | refine WL.step (Yl.not rfl) rfl ?_ | refine WC.seq ?_ | refine WC.region ?_ | refine WL.nil ?_ | refine WN.then_normal ?_))
    refine WC.cond_true rfl rfl ?_
    (repeat (first | refine WL.step (Yl.assign rfl) rfl ?_ | refine WC.seq ?_ | refine WC.region ?_ | refine WL.nil ?_ | refine WN.then_normal ?_ | refine WC.ret ?_ | refine WN.then_ret ?_))
    exact WN.ret2 rfl rfl rfl ⟨rfl, rfl⟩ .nil
  rw [fitV, if_neg hx]
  (repeat (first | refine WL.want rfl rfl rfl ?_ | refine WL.step (Yl.move rfl) rfl ?_ | refine WL.step (Yl.assign rfl) rfl ?_ | (refine WL.k_load ?_; refine WL.step (Yl.loadBlk (T := 3) Tryz.isAgg3 rfl zH (by rfl)) rfl ?_) | refine WL.step (Yl.pick_f rfl rfl rfl) rfl ?_ | refine WL.callV (g := 60) (v := .bool true) Tryz.call60 rfl (fun w0 st => jvalid_c w0 (h.keep st.kept)) rfl ?_ | (refine WL.k_bin .lss ?_; refine WL.step (Yl.lssF rfl rfl (by omega)) rfl ?_) | refine WL.step (Yl.not rfl) rfl ?_ | refine WC.seq ?_ | refine WC.region ?_ | refine WL.nil ?_ | refine WN.then_normal ?_))
  refine WC.cond_false rfl rfl ?_
  (repeat (first | refine WL.step (Yl.assign rfl) rfl ?_ | refine WL.step (Yl.capFunc (vs := [.pointer (some ⟨b3, 0, none⟩)]) rfl) rfl ?_ | refine WC.seq ?_ | refine WC.region ?_ | refine WL.nil ?_ | refine WN.then_normal ?_ | refine WC.skip ?_))
  have hb3 : ∀ {w0 : World}, St w [] [HA.blk b3 (.cells #[.int .i64 x] 3 (0, 0))] w0 → w0.heap[b3]? = some (.cells #[.int .i64 x] 3 (0, 0)) := fun st => st.holds _ (.head _)
  by_cases hn : 1 ≤ s.v.n
  · by_cases hf : s.v.used < s.v.n
    · refine WC.regionH [.blk b3 (.cells #[.int .i64 x] 3 (0, 0))] (by kernel_rfl) ?_
      (refine WH.order [0, 1, 2, 3, 4, 5, 6, 7, 8, 9, 10, 11, 12, 13, 14, 15, 16, 17, 18, 19, 22, 23, 24, 25, 26] (by repeat (first | exact Part.nil | refine Part.cons zK ?_ | refine Part.free ?_)) (by kernel_rfl) ?_; (repeat (first | (refine WT.k_move rfl ?_; first | (refine WT.kn rfl ?_; refine WT.take rfl rfl (fun _ _ _ h => h) (Yl.move rfl) rfl (by kernel_rfl) (by kernel_rfl) ?_) | (refine WT.kg rfl ?_; refine WT.takeG rfl rfl rfl rfl (fun _ _ _ h => h) (Yl.move rfl) rfl (by kernel_rfl) (by kernel_rfl) ?_)) | (refine WT.k_load rfl ?_; first | (refine WT.kn rfl ?_; refine WT.take rfl rfl (fun _ _ _ h => h) (Yl.loadH Tryz.isAgg26 rfl (Has.old h.blk) rfl) rfl (by kernel_rfl) (by kernel_rfl) ?_) | (refine WT.kg rfl ?_; refine WT.takeG rfl rfl rfl rfl (fun _ _ _ h => h) (Yl.loadH Tryz.isAgg26 rfl (Has.old h.blk) rfl) rfl (by kernel_rfl) (by kernel_rfl) ?_)) | (refine WT.k_fld rfl ?_; first | (refine WT.kn rfl ?_; first | refine WT.take rfl rfl (fun _ _ _ h => h) (Yl.fldN0 (i := 2) (o := 2) (by kernel_rfl) rfl) rfl (by kernel_rfl) (by kernel_rfl) ?_ | refine WT.take rfl rfl (fun _ _ _ h => h) (Yl.fldN0 (i := 4) (o := 4) (by kernel_rfl) rfl) rfl (by kernel_rfl) (by kernel_rfl) ?_) | (refine WT.kg rfl ?_; first | refine WT.takeG rfl rfl rfl rfl (fun _ _ _ h => h) (Yl.fldN0 (i := 2) (o := 2) (by kernel_rfl) rfl) rfl (by kernel_rfl) (by kernel_rfl) ?_ | refine WT.takeG rfl rfl rfl rfl (fun _ _ _ h => h) (Yl.fldN0 (i := 4) (o := 4) (by kernel_rfl) rfl) rfl (by kernel_rfl) (by kernel_rfl) ?_)) | (refine WT.k_nilc rfl ?_; first | (refine WT.kn rfl ?_; refine WT.take rfl rfl (fun _ _ _ h => h) (Yl.nilCheck rfl) rfl (by kernel_rfl) (by kernel_rfl) ?_) | (refine WT.kg rfl ?_; refine WT.takeG rfl rfl rfl rfl (fun _ _ _ h => h) (Yl.nilCheck rfl) rfl (by kernel_rfl) (by kernel_rfl) ?_)) | (refine WT.k_bin .lss rfl ?_; (refine WT.kn rfl ?_; refine WT.take rfl rfl (fun _ _ _ h => h) (Yl.lssT rfl rfl (by omega)) rfl (by kernel_rfl) (by kernel_rfl) ?_)) | (refine WT.k_bin .sub rfl ?_; (refine WT.kg rfl ?_; refine WT.takeG rfl rfl rfl rfl (fun _ _ _ h => h) (Yl.sub64N rfl rfl (by omega) (by omega)) rfl (by kernel_rfl) (by kernel_rfl) ?_)))); refine WT.nil ?_)
      refine WH.only (i := 20) (by kernel_rfl) rfl ?_
      refine WL.want rfl rfl rfl ?_
      refine WL.callFV (g := 61) (v := .bool (decide (x ≤ (((s.v.n - s.v.used - 1) / 5 : Nat) : Int)))) (cs := [.pointer (some ⟨b3, 0, none⟩)]) Tryz.call61 rfl rfl (fun w0 st => jfits1_c b3 x (s.v.n - s.v.used) w0 (by omega) (by omega) (hb3 st)) rfl ?_
      refine WL.nil (WN.nextH (Part.refl _) ?_)
      (refine WH.order [21] (by repeat (first | exact Part.nil | refine Part.cons zK ?_ | refine Part.free ?_)) (by kernel_rfl) ?_; (repeat (first | (refine WT.k_pick rfl ?_; (refine WT.kn rfl ?_; refine WT.take rfl rfl (fun _ _ _ h => h) (Yl.pick_t rfl rfl rfl) rfl (by kernel_rfl) (by kernel_rfl) ?_)))); refine WT.nil ?_)
      refine WH.only (i := 27) (by kernel_rfl) rfl ?_
      refine WL.callFV (g := 61) (v := .bool (decide (x ≤ (((s.v.n - 1) / 5 : Nat) : Int)))) (cs := [.pointer (some ⟨b3, 0, none⟩)]) Tryz.call61 rfl rfl (fun w0 st => jfits1_c b3 x s.v.n w0 hn (by omega) (hb3 st)) rfl ?_
      refine WL.nil (WN.nextH (Part.refl _) ?_)
      (refine WH.order [28, 29] (by repeat (first | exact Part.nil | refine Part.cons zK ?_ | refine Part.free ?_)) (by kernel_rfl) ?_; (repeat (first | (refine WT.k_assign rfl ?_; (refine WT.kn rfl ?_; refine WT.take rfl rfl (fun _ _ _ h => h) (Yl.assign rfl) rfl (by kernel_rfl) (by kernel_rfl) ?_)))); refine WT.nil ?_)
      refine WH.done (by kernel_rfl) ?_
      (repeat (first | refine WN.then_normal ?_ | refine WC.ret ?_))
      exact WN.ret2 rfl rfl rfl ⟨by simp only [fitN, fitS, hf, hn, true_and], rfl⟩ .nil
    · refine WC.regionH [.blk b3 (.cells #[.int .i64 x] 3 (0, 0))] (by kernel_rfl) ?_
      (refine WH.order [0, 1, 2, 3, 4, 5, 6, 7, 8, 9, 10, 11, 12, 13, 14, 15, 16, 17, 18, 19, 20, 21, 22, 23, 24, 25, 26] (by repeat (first | exact Part.nil | refine Part.cons zK ?_ | refine Part.free ?_)) (by kernel_rfl) ?_; (repeat (first | refine WT.passG rfl rfl rfl rfl (fun _ _ _ h => h) rfl (by kernel_rfl) (by kernel_rfl) ?_ | (refine WT.k_move rfl ?_; (refine WT.kn rfl ?_; refine WT.take rfl rfl (fun _ _ _ h => h) (Yl.move rfl) rfl (by kernel_rfl) (by kernel_rfl) ?_)) | (refine WT.k_load rfl ?_; (refine WT.kn rfl ?_; refine WT.take rfl rfl (fun _ _ _ h => h) (Yl.loadH Tryz.isAgg26 rfl (Has.old h.blk) rfl) rfl (by kernel_rfl) (by kernel_rfl) ?_)) | (refine WT.k_fld rfl ?_; (refine WT.kn rfl ?_; first | refine WT.take rfl rfl (fun _ _ _ h => h) (Yl.fldN0 (i := 2) (o := 2) (by kernel_rfl) rfl) rfl (by kernel_rfl) (by kernel_rfl) ?_ | refine WT.take rfl rfl (fun _ _ _ h => h) (Yl.fldN0 (i := 4) (o := 4) (by kernel_rfl) rfl) rfl (by kernel_rfl) (by kernel_rfl) ?_)) | (refine WT.k_pick rfl ?_; (refine WT.kn rfl ?_; refine WT.take rfl rfl (fun _ _ _ h => h) (Yl.pick_f rfl rfl rfl) rfl (by kernel_rfl) (by kernel_rfl) ?_)) | (refine WT.k_nilc rfl ?_; (refine WT.kn rfl ?_; refine WT.take rfl rfl (fun _ _ _ h => h) (Yl.nilCheck rfl) rfl (by kernel_rfl) (by kernel_rfl) ?_)) | (refine WT.k_bin .lss rfl ?_; (refine WT.kn rfl ?_; refine WT.take rfl rfl (fun _ _ _ h => h) (Yl.lssF rfl rfl (by omega)) rfl (by kernel_rfl) (by kernel_rfl) ?_)))); refine WT.nil ?_)
      refine WH.only (i := 27) (by kernel_rfl) rfl ?_
      refine WL.callFV (g := 61) (v := .bool (decide (x ≤ (((s.v.n - 1) / 5 : Nat) : Int)))) (cs := [.pointer (some ⟨b3, 0, none⟩)]) Tryz.call61 rfl rfl (fun w0 st => jfits1_c b3 x s.v.n w0 hn (by omega) (hb3 st)) rfl ?_
      refine WL.nil (WN.nextH (Part.refl _) ?_)
      (refine WH.order [28, 29] (by repeat (first | exact Part.nil | refine Part.cons zK ?_ | refine Part.free ?_)) (by kernel_rfl) ?_; (repeat (first | (refine WT.k_assign rfl ?_; (refine WT.kn rfl ?_; refine WT.take rfl rfl (fun _ _ _ h => h) (Yl.assign rfl) rfl (by kernel_rfl) (by kernel_rfl) ?_)))); refine WT.nil ?_)
      refine WH.done (by kernel_rfl) ?_
      (repeat (first | refine WN.then_normal ?_ | refine WC.ret ?_))
      exact WN.ret2 rfl rfl rfl ⟨by simp only [fitN, fitS, hf, hn, true_and, false_and, decide_false], rfl⟩ .nil
  · exact absurd h.ok.n1 hn
end
end Go.Proofs.YtbkdjfgkebkknaaGreatDoor
