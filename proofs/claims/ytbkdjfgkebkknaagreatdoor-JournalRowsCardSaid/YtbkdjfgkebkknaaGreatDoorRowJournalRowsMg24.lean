import Derived.Test.YtbkdjfgkebkknaaGreatDoorRowJournalRowsMg14
import Derived.Test.YtbkdjfgkebkknaaGreatDoorRowJournalRowsMg23
import Derived.Test.YtbkdjfgkebkknaaGreatDoorRowJournalRowsMg15
namespace Go.Proofs.YtbkdjfgkebkknaaGreatDoor
set_option linter.unusedVariables false
set_option linter.unusedSimpArgs false
open Go Go.RowKit
set_option maxHeartbeats 8000000
set_option maxRecDepth 100000
attribute [local irreducible] WL WC WN Yl WH WQ WT Big.be Big.val Frm.unst Frm.gather Crc.sealed Crc.opened Frm.check Decoded
theorem vk_eq {D : List UInt8} (h : 1 ≤ D.length) : Frm.vk D = (D.getD 0 0).toNat := by
  cases D with
  | nil => simp at h
  | cons c D => unfold Frm.vk Big.val; simp
theorem rbuildF0 (w : World) : (Instr.build 159 ([] : List (Nat × Value)).toArray).run Tryz.prog w = .ok (.agg #[.int .i64 0, .int .i64 0, .int .i64 0, .int .i64 0, .int .i64 0, .slice none 0 0]) w := by
  simp [Instr.build, Tryz.zeroValue159, run_underlying Tryz.underlying159, Tryz.sizeOf3, Tryz.sizeOf2, Tryz.sizeOf23, Value.cells, Instr.fill]
theorem rbuildF6 (kd n tx ix no : Int) (a : Option Addr) (m c : Nat) (w : World) : (Instr.build 159 [(0, Value.int .i64 kd), (1, Value.int .i64 n), (2, Value.int .i64 tx), (3, Value.int .i64 ix), (4, Value.int .i64 no), (5, Value.slice a m c)].toArray).run Tryz.prog w =
    .ok (.agg #[.int .i64 kd, .int .i64 n, .int .i64 tx, .int .i64 ix, .int .i64 no, .slice a m c]) w := by
  simp [Instr.build, Tryz.zeroValue159, run_underlying Tryz.underlying159, Tryz.sizeOf3, Tryz.sizeOf2, Tryz.sizeOf23, Value.cells, Instr.fill]
theorem secs_dl {k : Nat} (h : k = 1 ∨ k = 2) : (Frm.secs (k : Int)).1 = 5 ∧ Frm.dl k = 512 ∨ (Frm.secs (k : Int)).1 = 1 ∧ Frm.dl k = 0 := by
  rcases h with rfl | rfl
  · exact .inl ⟨rfl, rfl⟩
  · exact .inr ⟨rfl, rfl⟩
theorem Decoded.intro {o : Frm.Out} {v : Value} {B : List HA} (h : ∃ (q : Option Addr × Nat) (u : List UInt8), u.drop 11 = o.data ∧ u.length ≤ q.2 ∧ (u.length - 11 ≤ q.2 - 11) ∧
    v = .tuple #[.agg #[.int .i64 o.kd, .int .i64 o.ep, .int .i64 o.tx, .int .i64 o.ix, .int .i64 o.no, .slice (cutA q.1 11 q.2 1) o.data.length (q.2 - 11)], .int .i64 (o.sec : Int), .int .i64 (o.err : Int)] ∧ B = [.row q.1 q.2 5 1 (bs u)]) : Decoded o v B := by
  unfold Decoded; exact h
theorem rdecode_c (x : Int) (a : Option Addr) (n cap : Nat) (l : List UInt8) (w : World) (hl : l.length = n) (hc : n ≤ cap) (hn : n ≤ 140737488355000) (hr : CellsAt w a (bs l)) :
    Calls Tryz.prog 130 #[.slice a n cap, .int .i64 x] w (Gives (Decoded (Frm.dec l x)) w) := by
  refine enter (args := [_, _]) Tryz.func130 Tryz.ntmps130 rfl rfl ?_
  (repeat (first | refine WC.seq ?_ | refine WC.region ?_))
  refine WL.allocA Tryz.zeroValue159 rfl fun br => ?_
  (repeat (first | refine WL.step (Yl.move rfl) rfl ?_ | refine WL.step (Yl.assign rfl) rfl ?_ | refine WC.seq ?_ | refine WC.region ?_ | refine WL.nil ?_ | refine WN.then_normal ?_))
  refine WL.callR (g := 165) Tryz.call165 rfl (fun w s => runstamp_c x a n cap l w hl hc hn (Rd.old hr w s)) rfl fun p hp => ?_
  by_cases h0 : (Frm.unst l x).1 = 0
  · obtain ⟨he, hl1, hu, hul⟩ := Frm.unst_zero h0
    rw [hul] at hp ⊢
    have hg1 : Frm.gather l x 1 = (0, (Frm.unst l x).2) := by
      have := Frm.gather_step (b := l) (n := x) (k := 0) (congrArg Prod.fst (Frm.gather_zero l x)) (by rw [Nat.mul_zero, List.drop_zero]; exact h0)
      rwa [Nat.mul_zero, List.drop_zero, Frm.gather_zero, List.nil_append] at this
    (repeat (first | refine WL.step (Yl.move rfl) rfl ?_ | refine WL.step (Yl.assign rfl) rfl ?_ | refine WL.step (Yl.extract rfl rfl) rfl ?_ | (refine WL.k_bin .neq ?_; refine WL.step (Yl.neqF rfl rfl (by rw [h0]; rfl)) rfl ?_) | refine WC.seq ?_ | refine WC.region ?_ | refine WL.nil ?_ | refine WN.then_normal ?_))
    refine WC.cond_false rfl rfl ?_
    have hK0 := byte_lt ((Frm.unst l x).2.getD 0 0)
    (repeat (first | refine WL.step (Yl.move rfl) rfl ?_ | (refine WL.k_load ?_; refine WL.step (Yl.load (T := 5) (i := 0) Tryz.isAgg5 rfl (Rd.row zH) (bs_get (by omega))) rfl ?_) | (refine WL.k_idxa ?_; refine WL.step (Yl.indexAddr1 (t := 23) (j := 0) Tryz.underlying23 Tryz.sizeOf5 rfl rfl (Rd.row zH) (bs_ne (i := 0) (by omega)) (by omega)) rfl ?_) | (refine WL.k_conv ?_; refine WL.step (Yl.conv64 (s := 5) (t := 3) Tryz.underlying5 Tryz.underlying3 rfl (by omega)) rfl ?_) | refine WC.seq ?_ | refine WC.region ?_ | refine WN.then_normal ?_ | refine WC.skip ?_))
    rw [show ((Frm.unst l x).2.getD 0 0).toNat = Frm.kindOf (Frm.unst l x).2 from rfl]
    have hrs := rsectors_c (Frm.kindOf (Frm.unst l x).2 : Int)
    by_cases hk : Frm.kindOf (Frm.unst l x).2 = 1 ∨ Frm.kindOf (Frm.unst l x).2 = 2
    · have hS := Frm.secs_of hk
      have hSL := secs_dl hk
      have hS2 : (Frm.secs (Frm.kindOf (Frm.unst l x).2 : Int)).2 = 0 := by rcases hk with h | h <;> rw [h] <;> rfl
      rw [hS2] at hrs
      have hdec : Frm.dec l x = if (Frm.gather l x (Frm.secs (Frm.kindOf (Frm.unst l x).2)).1).1 ≠ 0 then Frm.bad (Frm.gather l x (Frm.secs (Frm.kindOf (Frm.unst l x).2)).1).1 else Frm.fin (Frm.kindOf (Frm.unst l x).2) x (Frm.gather l x (Frm.secs (Frm.kindOf (Frm.unst l x).2)).1).2 := by
        unfold Frm.dec
        rw [if_neg (not_not_intro h0), if_neg (not_not_intro hk)]
      rw [hdec]
      have hfin : ∀ D, Frm.fin (Frm.kindOf (Frm.unst l x).2) x D = if (Crc.opened (D.take (15 + Frm.dl (Frm.kindOf (Frm.unst l x).2)))).1 ≠ 0 then Frm.bad 12
          else if (∀ c ∈ D.drop (15 + Frm.dl (Frm.kindOf (Frm.unst l x).2)), c = 0) ∧ Frm.check (Frm.vk D) x (Frm.vt D) (Frm.vi D) (Frm.vn D) ((Crc.opened (D.take (15 + Frm.dl (Frm.kindOf (Frm.unst l x).2)))).2.drop 11).length = 0
          then ⟨0, (Frm.secs (Frm.kindOf (Frm.unst l x).2)).1, Frm.vk D, x, Frm.vt D, Frm.vi D, Frm.vn D, (Crc.opened (D.take (15 + Frm.dl (Frm.kindOf (Frm.unst l x).2)))).2.drop 11⟩ else Frm.bad 8 := fun D => rfl
      generalize Frm.kindOf (Frm.unst l x).2 = K at *
      generalize (Frm.secs (K : Int)).1 = S at *
      generalize Frm.dl K = L at *
      (repeat (first | refine WL.step (Yl.move rfl) rfl ?_ | refine WL.step (Yl.assign rfl) rfl ?_ | refine WL.step (Yl.extract rfl rfl) rfl ?_ | refine WL.callV (g := 166) Tryz.call166 rfl (fun w _ => hrs w) rfl ?_ | refine WL.step (Yl.neqF rfl rfl rfl) rfl ?_ | refine WC.seq ?_ | refine WC.region ?_ | refine WL.nil ?_ | refine WN.then_normal ?_))
      refine WC.cond_false rfl rfl ?_
      (repeat (first | refine WL.step (Yl.move rfl) rfl ?_ | refine WL.step (Yl.assign rfl) rfl ?_ | refine WC.seq ?_ | refine WC.region ?_ | refine WL.nil ?_ | refine WN.then_normal ?_ | refine WC.block ?_ | refine WC.skip ?_))
      refine WC.loop (α := Nat × (Option Addr × Nat)) (fun g => [(0, .slice a n cap), (1, .int .i64 x), (4, .pointer (some ⟨br, 0, none⟩)), (9, .int .i64 (S : Int)), (11, .slice g.2.1 (112 * g.1) g.2.2), (12, .int .i64 (g.1 : Int))])
        (fun g => [.row g.2.1 g.2.2 5 1 (bs (Frm.gather l x g.1).2), .blk br (.cells #[.int .i64 0, .int .i64 0, .int .i64 0, .int .i64 0, .int .i64 0, .slice none 0 0] 159 (0, 0))])
        (fun g => 1 ≤ g.1 ∧ g.1 ≤ S ∧ 112 * g.1 ≤ g.2.2 ∧ (Frm.gather l x g.1).1 = 0 ∧ (Frm.gather l x g.1).2.length = 112 * g.1 ∧ 128 * g.1 ≤ n) (fun g => S - g.1) (1, p)
        (.cons rfl rfl (.cons rfl rfl (.cons rfl rfl (.cons rfl rfl (.cons rfl rfl (.cons rfl rfl .nil)))))) (by rw [hg1]; exact .cons zK (.cons zK .nil)) ⟨by simp, hS.1, hp, by rw [hg1], by rw [hg1]; exact hul, by simp only; omega⟩ ?_
      intro ⟨i, o, oc⟩ ⟨hi1, hi, hoc, hgi, hgl, hin⟩
      simp only at hi1 hi hoc hgi hgl hin ⊢
      (repeat (first | refine WL.step (Yl.move rfl) rfl ?_ | refine WL.step (Yl.lss rfl rfl) rfl ?_ | refine WC.seq ?_ | refine WC.region ?_ | refine WL.nil ?_ | refine WN.then_normal ?_))
      refine WC.ite rfl (fun h1 => ?_) (fun h1 => ?_)
      · have hcut : CellsAt w (cutA a (128 * i) cap 1) (bs (l.drop (128 * i))) := by
          have := cutOf (cap := cap) (128 * i) n hr (by omega)
          rwa [List.take_of_length_le (by rw [List.length_drop]; omega)] at this
        (repeat (first | refine WL.step (Yl.move rfl) rfl ?_ | (refine WL.k_slice ?_; refine WL.step (Yl.cutFrom (t := 23) Tryz.underlying23 Tryz.sizeOf5 rfl rfl (by omega)) rfl ?_) | (refine WL.k_bin .mul ?_; refine WL.step (Yl.mulC64 rfl (by omega)) rfl ?_) | refine WC.seq ?_ | refine WC.region ?_ | refine WN.then_normal ?_ | refine WC.block ?_ | refine WC.skip ?_))
        refine WL.callR (g := 165) Tryz.call165 rfl (fun w s => runstamp_c x _ (n - 128 * i) (cap - 128 * i) (l.drop (128 * i)) w (by rw [List.length_drop]; omega) (by omega) (by omega) (Rd.old hcut w s)) rfl fun p2 hp2 => ?_
        by_cases h2 : (Frm.unst (l.drop (128 * i)) x).1 = 0
        · obtain ⟨_, hl2, _, hul2⟩ := Frm.unst_zero h2
          have hst := Frm.gather_step hgi h2
          rw [List.length_drop] at hl2
          (repeat (first | refine WL.step (Yl.move rfl) rfl ?_ | refine WL.step (Yl.assign rfl) rfl ?_ | refine WL.step (Yl.extract rfl rfl) rfl ?_ | (refine WL.k_bin .neq ?_; refine WL.step (Yl.neqF rfl rfl (by rw [h2]; rfl)) rfl ?_) | refine WC.seq ?_ | refine WC.region ?_ | refine WL.nil ?_ | refine WN.then_normal ?_))
          refine WC.cond_false rfl rfl ?_
          (repeat (first | refine WL.step (Yl.move rfl) rfl ?_ | refine WC.region ?_ | refine WN.then_normal ?_ | refine WC.skip ?_))
          refine WL.appendRow (t := 23) (n := 112 * i) (m := 112) (olds := bs (Frm.gather l x i).2) Tryz.underlying23 elemU8 rfl (by rw [← hul2]; rfl) zK (by rw [bs_length, hgl]; omega) hoc (Rd.row (.head _)) (by rw [bs_length, hul2]) (bs_one _) (by omega) (by simp only [maxLen]; omega) rfl fun p3 hp3 => ?_
          rw [← bs_append]
          (repeat (first | refine WL.step (Yl.move rfl) rfl ?_ | refine WL.step (Yl.assign rfl) rfl ?_ | (refine WL.k_bin .add ?_; refine WL.step (Yl.add64C rfl (by omega)) rfl ?_) | refine WC.region ?_ | refine WL.nil ?_ | refine WN.then_normal ?_ | refine WN.block_normal ?_))
          exact WN.next (i + 1, p3) ⟨by simp only; omega, by simp only; omega, by simp only; omega, by simp only [hst], by simp only [hst, List.length_append, hgl, hul2]; omega, by simp only; omega⟩ (by simp only; omega)
            zS (by simp only [hst]; exact .cons zK (.cons zK .nil))
        · have hst := Frm.gather_stop hgi h2
          have hk2 : Frm.gather l x S = ((Frm.unst (l.drop (128 * i)) x).1, []) := by
            rw [← hst]; exact Frm.gather_keep (by rw [hst]; exact h2) (by omega)
          rw [hk2, if_pos h2]
          (repeat (first | refine WL.step (Yl.move rfl) rfl ?_ | refine WL.step (Yl.assign rfl) rfl ?_ | refine WL.step (Yl.extract rfl rfl) rfl ?_ | (refine WL.k_bin .neq ?_; refine WL.step (Yl.neqT rfl rfl (by omega)) rfl ?_) | refine WC.seq ?_ | refine WC.region ?_ | refine WL.nil ?_ | refine WN.then_normal ?_))
          refine WC.cond_true rfl rfl ?_
          (repeat (first | refine WL.step (Yl.move rfl) rfl ?_ | refine WL.step (Yl.build (ps := []) rfl rbuildF0) rfl ?_ | refine WC.seq ?_ | refine WC.region ?_))
          refine WL.storeWhole (T := 159) (k := 6) Tryz.sizeOf159 rfl rfl rfl zK rfl rfl ?_
          (repeat (first | refine WL.step (Yl.assign rfl) rfl ?_ | refine WL.nil ?_ | refine WN.then_normal ?_ | refine WC.ret ?_ | refine WN.then_ret ?_ | refine WN.block_ret ?_))
          exact WN.ret3C rfl Tryz.isAgg159 Tryz.sizeOf159 rfl rfl rfl (.head _) rfl (Decoded.bad _) (.free .nil)
      · obtain rfl : i = S := by omega
        rw [if_neg (not_not_intro hgi), hfin]
        generalize (Frm.gather l x i).2 = D at *
        have hDl : 15 + L ≤ D.length := by omega
        have hlt : (D.take (15 + L)).length = 11 + L + 4 := by rw [List.length_take]; omega
        have hcutD : ∀ {X : Cx} {A : List HA} (lo m : Nat), HA.row o oc 5 1 (bs D) ∈ A → Rd X A (cutA o lo oc 1) (bs ((D.drop lo).take m)) := fun {X A} lo m h => by
          have := Rd.cut (lo := lo) (cap := oc) (k := 1) (m := m) (Rd.row (X := X) h) (by rw [bs_length]; omega)
          rwa [Nat.mul_one, ← bs_drop, ← bs_take] at this
        (repeat (first | refine WC.exit ?_ | refine WN.then_exit ?_ | refine WN.block_here ?_ | refine WN.then_normal ?_ | refine WC.seq ?_))
        refine WC.region ?_
        rcases hSL with ⟨hS5, hL⟩ | ⟨hS1, hL⟩
        case' inl =>
          (repeat (first | refine WL.step (Yl.move rfl) rfl ?_ | refine WL.step (Yl.assign rfl) rfl ?_ | (refine WL.k_bin .eql ?_; refine WL.step (Yl.eqlT rfl rfl (by omega)) rfl ?_) | refine WC.seq ?_ | refine WC.region ?_ | refine WL.nil ?_ | refine WN.then_normal ?_))
          refine WC.cond_true rfl rfl ?_
          refine WC.region ?_
          refine WL.step (Yl.assign (v := .int .i64 ((11 + L : Nat) : Int)) (by rw [hL]; rfl)) rfl ?_
        case' inr =>
          refine WL.step (Yl.assign (v := .int .i64 ((11 + L : Nat) : Int)) (by rw [hL]; rfl)) rfl ?_
          (repeat (first | refine WL.step (Yl.move rfl) rfl ?_ | (refine WL.k_bin .eql ?_; refine WL.step (Yl.eqlF rfl rfl (by omega)) rfl ?_) | refine WC.seq ?_ | refine WC.region ?_ | refine WL.nil ?_ | refine WN.then_normal ?_))
          refine WC.cond_false rfl rfl ?_
        all_goals
          (repeat (first | refine WL.step (Yl.move rfl) rfl ?_ | (refine WL.k_bin .add ?_; refine WL.step (Yl.add64C (m := 11 + L) rfl (by omega)) rfl ?_) | (refine WL.k_slice ?_; refine WL.step (Yl.cutTo (t := 23) Tryz.underlying23 Tryz.sizeOf5 rfl rfl (by omega)) rfl ?_) | refine WC.seq ?_ | refine WC.region ?_ | refine WL.nil ?_ | refine WN.then_normal ?_ | refine WC.skip ?_))
          refine WL.callR (g := 167) Tryz.call167 rfl (fun w s => runseal_c _ (11 + L + 4) oc (D.take (15 + L)) w hlt (by omega) (by omega) (by have := hcutD (X := ⟨Tryz.prog, 0, _, []⟩) 0 (15 + L) zH w s; rwa [List.drop_zero] at this)) rfl fun p6 hp6 => ?_
          by_cases h5 : (Crc.opened (D.take (15 + L))).1 = 0
          · obtain ⟨hol, _⟩ := opened_len h5
            rw [if_neg (not_not_intro h5)]
            rw [hol, hlt] at hp6 ⊢
            have hol2 : (Crc.opened (D.take (15 + L))).2.length = 11 + L := by rw [hol, hlt]; rfl
            have hud : ((Crc.opened (D.take (15 + L))).2.drop 11).length = L := by rw [List.length_drop, hol2]; omega
            generalize (Crc.opened (D.take (15 + L))).2 = U at *
            have hvk := vk_eq (D := D) (by omega)
            have hb0 := byte_lt (D.getD 0 0)
            have hp11 : 11 + L + 4 - 4 - 11 = L := by omega
            (repeat (first | refine WL.step (Yl.move rfl) rfl ?_ | refine WL.step (Yl.assign rfl) rfl ?_ | refine WL.step (Yl.extract rfl rfl) rfl ?_ | (refine WL.k_bin .neq ?_; refine WL.step (Yl.neqF rfl rfl (by rw [h5]; rfl)) rfl ?_) | refine WC.seq ?_ | refine WC.region ?_ | refine WL.nil ?_ | refine WN.then_normal ?_))
            refine WC.cond_false rfl rfl ?_
            (repeat (first | refine WC.seq ?_ | refine WN.then_normal ?_ | refine WC.skip ?_))
            refine WC.regionH [.row o oc 5 1 (bs D)] (by kernel_rfl) ?_
            (refine WH.order [0, 1, 2, 3, 4, 5, 6, 8, 9, 11, 12, 14, 15] (by repeat (first | exact Part.nil | refine Part.cons zK ?_ | refine Part.free ?_)) (by kernel_rfl) ?_; (repeat (first | (refine WT.k_move rfl ?_; refine WT.take rfl rfl (fun _ _ _ h => h) (Yl.move rfl) rfl (by kernel_rfl) (by kernel_rfl) ?_) | (refine WT.k_load rfl ?_; refine WT.take rfl rfl (fun _ _ _ h => h) (Yl.load (T := 5) (i := 0) Tryz.isAgg5 rfl (Rd.row (.head _)) (bs_get (by omega))) rfl (by kernel_rfl) (by kernel_rfl) ?_) | (refine WT.k_idxa rfl ?_; refine WT.take rfl rfl (fun _ _ _ h => h) (Yl.indexAddr1 (t := 23) (j := 0) Tryz.underlying23 Tryz.sizeOf5 rfl rfl (Rd.row (.head _)) (bs_ne (i := 0) (by omega)) (by omega)) rfl (by kernel_rfl) (by kernel_rfl) ?_) | (refine WT.k_conv rfl ?_; refine WT.take rfl rfl (fun _ _ _ h => h) (Yl.conv64 (s := 5) (t := 3) Tryz.underlying5 Tryz.underlying3 rfl (by omega)) rfl (by kernel_rfl) (by kernel_rfl) ?_) | (refine WT.k_slice rfl ?_; first | refine WT.take rfl rfl (fun _ _ _ h => h) (Yl.cut (t := 23) (lo := 1) (hi := 5) Tryz.underlying23 Tryz.sizeOf5 rfl rfl rfl (by decide) (by omega)) rfl (by kernel_rfl) (by kernel_rfl) ?_ | refine WT.take rfl rfl (fun _ _ _ h => h) (Yl.cut (t := 23) (lo := 5) (hi := 7) Tryz.underlying23 Tryz.sizeOf5 rfl rfl rfl (by decide) (by omega)) rfl (by kernel_rfl) (by kernel_rfl) ?_ | refine WT.take rfl rfl (fun _ _ _ h => h) (Yl.cut (t := 23) (lo := 7) (hi := 11) Tryz.underlying23 Tryz.sizeOf5 rfl rfl rfl (by decide) (by omega)) rfl (by kernel_rfl) (by kernel_rfl) ?_ | refine WT.take rfl rfl (fun _ _ _ h => h) (Yl.cutFrom (t := 23) (lo := 11) Tryz.underlying23 Tryz.sizeOf5 rfl rfl (by omega)) rfl (by kernel_rfl) (by kernel_rfl) ?_))); refine WT.nil ?_)
            rw [hp11]
            refine WH.two (i := 7) (j := 17) (by kernel_rfl) rfl rfl ?_ ?_
            rotate_left
            refine WL.allocA Tryz.zeroValue159 rfl fun bx => ?_
            refine WL.nil (WN.nextH (.cons zK .nil) ?_)
            refine WH.only (i := 7) (by kernel_rfl) rfl ?_
            refine WL.callV (g := 168) (v := .int .i64 (Frm.vt D : Int)) Tryz.call168 rfl (fun w s => number_c (cutA o 1 oc 1) (5 - 1) (oc - 1) ((D.drop 1).take 4) w (by rw [List.length_take, List.length_drop]; omega) (by decide) (hcutD (X := ⟨Tryz.prog, 0, _, []⟩) 1 4 zH w s)) rfl ?_
            refine WL.nil (WN.nextH (.cons zK .nil) ?_)
            refine WH.only (i := 10) (by kernel_rfl) rfl ?_
            refine WL.callV (g := 168) (v := .int .i64 (Frm.vi D : Int)) Tryz.call168 rfl (fun w s => number_c (cutA o 5 oc 1) (7 - 5) (oc - 5) ((D.drop 5).take 2) w (by rw [List.length_take, List.length_drop]; omega) (by decide) (hcutD (X := ⟨Tryz.prog, 0, _, []⟩) 5 2 zH w s)) rfl ?_
            refine WL.nil (WN.nextH (.cons zK .nil) ?_)
            refine WH.only (i := 13) (by kernel_rfl) rfl ?_
            refine WL.callV (g := 168) (v := .int .i64 (Frm.vn D : Int)) Tryz.call168 rfl (fun w s => number_c (cutA o 7 oc 1) (11 - 7) (oc - 7) ((D.drop 7).take 4) w (by rw [List.length_take, List.length_drop]; omega) (by decide) (hcutD (X := ⟨Tryz.prog, 0, _, []⟩) 7 4 zH w s)) rfl ?_
            refine WL.nil (WN.nextH (.cons zK .nil) ?_)
            (refine WH.order [16] (by repeat (first | exact Part.nil | refine Part.cons zK ?_ | refine Part.free ?_)) (by kernel_rfl) ?_; (repeat (first | (refine WT.k_build rfl ?_; refine WT.take rfl rfl (fun _ _ _ h => h) (Yl.build (ps := [(0, .tmp 79), (1, .tmp 80), (2, .tmp 83), (3, .tmp 86), (4, .tmp 89), (5, .tmp 91)]) rfl (rbuildF6 _ _ _ _ _ _ _ _)) rfl (by kernel_rfl) (by kernel_rfl) ?_))); refine WT.nil ?_)
            rotate_left
            refine WL.callV (g := 168) (v := .int .i64 (Frm.vt D : Int)) Tryz.call168 rfl (fun w s => number_c (cutA o 1 oc 1) (5 - 1) (oc - 1) ((D.drop 1).take 4) w (by rw [List.length_take, List.length_drop]; omega) (by decide) (hcutD (X := ⟨Tryz.prog, 0, _, []⟩) 1 4 zH w s)) rfl ?_
            refine WL.nil (WN.nextH (.cons zK .nil) ?_)
            refine WH.two (i := 10) (j := 17) (by kernel_rfl) rfl rfl ?_ ?_
            rotate_left
            refine WL.allocA Tryz.zeroValue159 rfl fun bx => ?_
            refine WL.nil (WN.nextH (.cons zK .nil) ?_)
            refine WH.only (i := 10) (by kernel_rfl) rfl ?_
            refine WL.callV (g := 168) (v := .int .i64 (Frm.vi D : Int)) Tryz.call168 rfl (fun w s => number_c (cutA o 5 oc 1) (7 - 5) (oc - 5) ((D.drop 5).take 2) w (by rw [List.length_take, List.length_drop]; omega) (by decide) (hcutD (X := ⟨Tryz.prog, 0, _, []⟩) 5 2 zH w s)) rfl ?_
            refine WL.nil (WN.nextH (.cons zK .nil) ?_)
            refine WH.only (i := 13) (by kernel_rfl) rfl ?_
            refine WL.callV (g := 168) (v := .int .i64 (Frm.vn D : Int)) Tryz.call168 rfl (fun w s => number_c (cutA o 7 oc 1) (11 - 7) (oc - 7) ((D.drop 7).take 4) w (by rw [List.length_take, List.length_drop]; omega) (by decide) (hcutD (X := ⟨Tryz.prog, 0, _, []⟩) 7 4 zH w s)) rfl ?_
            refine WL.nil (WN.nextH (.cons zK .nil) ?_)
            (refine WH.order [16] (by repeat (first | exact Part.nil | refine Part.cons zK ?_ | refine Part.free ?_)) (by kernel_rfl) ?_; (repeat (first | (refine WT.k_build rfl ?_; refine WT.take rfl rfl (fun _ _ _ h => h) (Yl.build (ps := [(0, .tmp 79), (1, .tmp 80), (2, .tmp 83), (3, .tmp 86), (4, .tmp 89), (5, .tmp 91)]) rfl (rbuildF6 _ _ _ _ _ _ _ _)) rfl (by kernel_rfl) (by kernel_rfl) ?_))); refine WT.nil ?_)
            rotate_left 2
            refine WL.callV (g := 168) (v := .int .i64 (Frm.vi D : Int)) Tryz.call168 rfl (fun w s => number_c (cutA o 5 oc 1) (7 - 5) (oc - 5) ((D.drop 5).take 2) w (by rw [List.length_take, List.length_drop]; omega) (by decide) (hcutD (X := ⟨Tryz.prog, 0, _, []⟩) 5 2 zH w s)) rfl ?_
            refine WL.nil (WN.nextH (.cons zK .nil) ?_)
            refine WH.two (i := 13) (j := 17) (by kernel_rfl) rfl rfl ?_ ?_
            rotate_left
            refine WL.allocA Tryz.zeroValue159 rfl fun bx => ?_
            refine WL.nil (WN.nextH (.cons zK .nil) ?_)
            refine WH.only (i := 13) (by kernel_rfl) rfl ?_
            refine WL.callV (g := 168) (v := .int .i64 (Frm.vn D : Int)) Tryz.call168 rfl (fun w s => number_c (cutA o 7 oc 1) (11 - 7) (oc - 7) ((D.drop 7).take 4) w (by rw [List.length_take, List.length_drop]; omega) (by decide) (hcutD (X := ⟨Tryz.prog, 0, _, []⟩) 7 4 zH w s)) rfl ?_
            refine WL.nil (WN.nextH (.cons zK .nil) ?_)
            (refine WH.order [16] (by repeat (first | exact Part.nil | refine Part.cons zK ?_ | refine Part.free ?_)) (by kernel_rfl) ?_; (repeat (first | (refine WT.k_build rfl ?_; refine WT.take rfl rfl (fun _ _ _ h => h) (Yl.build (ps := [(0, .tmp 79), (1, .tmp 80), (2, .tmp 83), (3, .tmp 86), (4, .tmp 89), (5, .tmp 91)]) rfl (rbuildF6 _ _ _ _ _ _ _ _)) rfl (by kernel_rfl) (by kernel_rfl) ?_))); refine WT.nil ?_)
            rotate_left 3
            refine WL.callV (g := 168) (v := .int .i64 (Frm.vn D : Int)) Tryz.call168 rfl (fun w s => number_c (cutA o 7 oc 1) (11 - 7) (oc - 7) ((D.drop 7).take 4) w (by rw [List.length_take, List.length_drop]; omega) (by decide) (hcutD (X := ⟨Tryz.prog, 0, _, []⟩) 7 4 zH w s)) rfl ?_
            refine WL.nil (WN.nextH (.cons zK .nil) ?_)
            (refine WH.order [16] (by repeat (first | exact Part.nil | refine Part.cons zK ?_ | refine Part.free ?_)) (by kernel_rfl) ?_; (repeat (first | (refine WT.k_build rfl ?_; refine WT.take rfl rfl (fun _ _ _ h => h) (Yl.build (ps := [(0, .tmp 79), (1, .tmp 80), (2, .tmp 83), (3, .tmp 86), (4, .tmp 89), (5, .tmp 91)]) rfl (rbuildF6 _ _ _ _ _ _ _ _)) rfl (by kernel_rfl) (by kernel_rfl) ?_))); refine WT.nil ?_)
            refine WH.only (i := 17) (by kernel_rfl) rfl ?_
            refine WL.allocA Tryz.zeroValue159 rfl fun bx => ?_
            refine WL.nil (WN.nextH (.cons zK .nil) ?_)
            all_goals
              refine WH.only (i := 18) (by kernel_rfl) rfl ?_
              refine WL.storeWhole (T := 159) (k := 6) Tryz.sizeOf159 rfl rfl rfl zK rfl rfl ?_
              rw [← hvk]
              refine WL.nil (WN.nextH (.cons zK .nil) ?_)
              refine WH.done (by kernel_rfl) ?_
              (repeat (first | refine WL.step (Yl.move rfl) rfl ?_ | refine WL.step (Yl.assign rfl) rfl ?_ | (refine WL.k_bin .add ?_; refine WL.step (Yl.add64C (m := 11 + L) rfl (by omega)) rfl ?_) | refine WC.seq ?_ | refine WC.region ?_ | refine WL.nil ?_ | refine WN.then_normal ?_ | refine WC.block ?_))
              refine WC.loop (α := Nat) (fun j => [(4, .pointer (some ⟨br, 0, none⟩)), (9, .int .i64 (i : Int)), (11, .slice o (112 * i) oc), (18, .pointer (some ⟨bx, 0, none⟩)), (19, .int .i64 (j : Int))])
                (fun _ => [.blk bx (.cells #[.int .i64 (Frm.vk D : Int), .int .i64 x, .int .i64 (Frm.vt D : Int), .int .i64 (Frm.vi D : Int), .int .i64 (Frm.vn D : Int), .slice (cutA p6.1 11 p6.2 1) L (p6.2 - 11)] 159 (0, 0)), .row o oc 5 1 (bs D), .row p6.1 p6.2 5 1 (bs U), .blk br (.cells #[.int .i64 0, .int .i64 0, .int .i64 0, .int .i64 0, .int .i64 0, .slice none 0 0] 159 (0, 0))])
                (fun j => 15 + L ≤ j ∧ j ≤ D.length ∧ ∀ k, 15 + L ≤ k → k < j → D.getD k 0 = 0) (fun j => D.length - j) (11 + L + 4) zS (.cons zK (.cons zK (.cons zK (.cons zK .nil)))) ⟨by omega, by omega, by omega⟩ ?_
              intro j ⟨hj1, hj2, hjz⟩
              (repeat (first | refine WL.step (Yl.move rfl) rfl ?_ | refine WL.step (Yl.len (t := 23) Tryz.underlying23 rfl) rfl ?_ | refine WL.step (Yl.lss rfl rfl) rfl ?_ | refine WC.seq ?_ | refine WC.region ?_ | refine WL.nil ?_ | refine WN.then_normal ?_))
              refine WC.ite rfl (fun h8 => ?_) (fun h8 => ?_)
              · have hjl : j < D.length := by omega
                (repeat (first | refine WL.step (Yl.move rfl) rfl ?_ | (refine WL.k_load ?_; refine WL.step (Yl.load (T := 5) Tryz.isAgg5 rfl (Rd.row zH) (bs_get hjl)) rfl ?_) | (refine WL.k_idxa ?_; refine WL.step (Yl.indexAddr1 (t := 23) Tryz.underlying23 Tryz.sizeOf5 rfl rfl (Rd.row zH) (bs_ne hjl) (by omega)) rfl ?_) | refine WL.step (Yl.neq rfl rfl) rfl ?_ | refine WC.seq ?_ | refine WC.region ?_ | refine WL.nil ?_ | refine WN.then_normal ?_ | refine WC.block ?_ | refine WC.skip ?_))
                refine WC.ite rfl (fun h9 => ?_) (fun h9 => ?_)
                · have h6 : ¬ ∀ c ∈ D.drop (15 + L), c = 0 := fun h => h9 (by
                    have hm : D.getD j 0 ∈ D.drop (15 + L) := by
                      rw [List.getD_eq_getElem?_getD, List.getElem?_eq_getElem hjl, Option.getD_some]
                      refine List.mem_iff_getElem.2 ⟨j - (15 + L), by rw [List.length_drop]; omega, ?_⟩
                      rw [List.getElem_drop]; congr 1; omega
                    rw [h _ hm]; rfl)
                  rw [if_neg fun h => h6 h.1]
                  (repeat (first | refine WL.step (Yl.build (ps := []) rfl rbuildF0) rfl ?_ | refine WC.seq ?_ | refine WC.region ?_))
                  refine WL.storeWhole (T := 159) (k := 6) Tryz.sizeOf159 rfl rfl rfl zK rfl rfl ?_
                  (repeat (first | refine WL.step (Yl.assign rfl) rfl ?_ | refine WL.nil ?_ | refine WN.then_normal ?_ | refine WC.ret ?_ | refine WN.then_ret ?_ | refine WN.block_ret ?_))
                  exact WN.ret3C rfl Tryz.isAgg159 Tryz.sizeOf159 rfl rfl rfl (.head _) rfl (Decoded.bad 8) (.free .nil)
                · have h00 : (0 : UInt8).toNat = 0 := rfl
                  have hz : D.getD j 0 = 0 := UInt8.toNat_inj.1 (by omega)
                  (repeat (first | refine WL.step (Yl.move rfl) rfl ?_ | refine WL.step (Yl.assign rfl) rfl ?_ | (refine WL.k_bin .add ?_; refine WL.step (Yl.add64C rfl (by omega)) rfl ?_) | refine WC.region ?_ | refine WL.nil ?_ | refine WN.then_normal ?_ | refine WC.skip ?_ | refine WN.block_normal ?_))
                  exact WN.next (j + 1) ⟨by omega, by omega, fun k hk1 hk2 => by rcases Nat.lt_or_ge k j with h | h; exact hjz k hk1 h; rwa [show k = j by omega]⟩ (by omega) zS (.cons zK (.cons zK (.cons zK (.cons zK .nil))))
              · have h6 : ∀ c ∈ D.drop (15 + L), c = 0 := fun c hc => by
                  obtain ⟨k, hk, rfl⟩ := List.mem_iff_getElem.1 hc
                  rw [List.length_drop] at hk
                  have := hjz (15 + L + k) (by omega) (by omega)
                  rw [List.getD_eq_getElem?_getD, List.getElem?_eq_getElem (by omega), Option.getD_some] at this
                  rwa [List.getElem_drop]
                have hchk := fun w => rcheckF_c (Frm.vk D) x (Frm.vt D) (Frm.vi D) (Frm.vn D) (cutA p6.1 11 p6.2 1) L (p6.2 - 11) w
                rw [hud]
                (repeat (first | (refine WL.k_load ?_; refine WL.step (Yl.loadAll (T := 159) Tryz.isAgg159 Tryz.sizeOf159 rfl zH rfl) rfl ?_) | refine WL.callV (g := 169) Tryz.call169 rfl (fun w _ => hchk w) rfl ?_ | refine WL.step (Yl.neq rfl rfl) rfl ?_ | refine WC.seq ?_ | refine WC.region ?_ | refine WL.nil ?_ | refine WN.then_normal ?_ | refine WC.exit ?_ | refine WN.then_exit ?_ | refine WN.block_here ?_))
                by_cases h7 : Frm.check (Frm.vk D) x (Frm.vt D) (Frm.vi D) (Frm.vn D) L = 0
                · rw [if_pos ⟨h6, h7⟩]
                  refine WC.ite_false rfl (by omega) ?_
                  (repeat (first | refine WL.step (Yl.move rfl) rfl ?_ | (refine WL.k_load ?_; refine WL.step (Yl.loadAll (T := 159) Tryz.isAgg159 Tryz.sizeOf159 rfl zH rfl) rfl ?_) | refine WC.seq ?_ | refine WC.region ?_ | refine WN.then_normal ?_ | refine WC.skip ?_))
                  refine WL.storeWhole (T := 159) (k := 6) Tryz.sizeOf159 rfl rfl rfl zK rfl rfl ?_
                  (repeat (first | refine WL.step (Yl.assign rfl) rfl ?_ | refine WL.nil ?_ | refine WN.then_normal ?_ | refine WC.ret ?_))
                  refine WN.ret3C rfl Tryz.isAgg159 Tryz.sizeOf159 rfl rfl rfl (.head _) rfl (Decoded.intro ⟨p6, U, rfl, by omega, by omega, ?_, rfl⟩) (.cons zK .nil)
                  simp only [hud]; rfl
                · rw [if_neg fun h => h7 h.2]
                  refine WC.ite_true rfl (by omega) ?_
                  (repeat (first | refine WL.step (Yl.build (ps := []) rfl rbuildF0) rfl ?_ | refine WC.seq ?_ | refine WC.region ?_))
                  refine WL.storeWhole (T := 159) (k := 6) Tryz.sizeOf159 rfl rfl rfl zK rfl rfl ?_
                  (repeat (first | refine WL.step (Yl.assign rfl) rfl ?_ | refine WL.nil ?_ | refine WN.then_normal ?_ | refine WC.ret ?_ | refine WN.then_ret ?_))
                  exact WN.ret3C rfl Tryz.isAgg159 Tryz.sizeOf159 rfl rfl rfl (.head _) rfl (Decoded.bad 8) (.free .nil)
          · have hob := opened_bad (by omega) h5
            rw [if_pos h5]
            rw [hob] at hp6 ⊢
            (repeat (first | refine WL.step (Yl.move rfl) rfl ?_ | refine WL.step (Yl.assign rfl) rfl ?_ | refine WL.step (Yl.extract rfl rfl) rfl ?_ | (refine WL.k_bin .neq ?_; refine WL.step (Yl.neqT rfl rfl (by decide)) rfl ?_) | refine WC.seq ?_ | refine WC.region ?_ | refine WL.nil ?_ | refine WN.then_normal ?_))
            refine WC.cond_true rfl rfl ?_
            (repeat (first | refine WL.step (Yl.build (ps := []) rfl rbuildF0) rfl ?_ | refine WC.seq ?_ | refine WC.region ?_))
            refine WL.storeWhole (T := 159) (k := 6) Tryz.sizeOf159 rfl rfl rfl zK rfl rfl ?_
            (repeat (first | refine WL.step (Yl.assign rfl) rfl ?_ | refine WL.nil ?_ | refine WN.then_normal ?_ | refine WC.ret ?_ | refine WN.then_ret ?_))
            exact WN.ret3C rfl Tryz.isAgg159 Tryz.sizeOf159 rfl rfl rfl (.head _) rfl (Decoded.bad 12) (.free .nil)
    · have hdec : Frm.dec l x = Frm.bad 8 := by
        unfold Frm.dec
        rw [if_neg (not_not_intro h0), if_pos hk]
      have hsec : Frm.secs (Frm.kindOf (Frm.unst l x).2 : Int) = (0, 2) := by
        unfold Frm.secs
        rw [if_neg (by omega), if_neg (by omega)]
      rw [hsec] at hrs
      rw [hdec]
      (repeat (first | refine WL.step (Yl.move rfl) rfl ?_ | refine WL.step (Yl.assign rfl) rfl ?_ | refine WL.step (Yl.extract rfl rfl) rfl ?_ | refine WL.callV (g := 166) Tryz.call166 rfl (fun w _ => hrs w) rfl ?_ | (refine WL.k_bin .neq ?_; refine WL.step (Yl.neqT rfl rfl (by decide)) rfl ?_) | refine WC.seq ?_ | refine WC.region ?_ | refine WL.nil ?_ | refine WN.then_normal ?_))
      refine WC.cond_true rfl rfl ?_
      (repeat (first | refine WL.step (Yl.build (ps := []) rfl rbuildF0) rfl ?_ | refine WC.seq ?_ | refine WC.region ?_))
      refine WL.storeWhole (T := 159) (k := 6) Tryz.sizeOf159 rfl rfl rfl zK rfl rfl ?_
      (repeat (first | refine WL.step (Yl.assign rfl) rfl ?_ | refine WL.nil ?_ | refine WN.then_normal ?_ | refine WC.ret ?_ | refine WN.then_ret ?_))
      exact WN.ret3C rfl Tryz.isAgg159 Tryz.sizeOf159 rfl rfl rfl (.head _) rfl (Decoded.bad 8) (.free .nil)
  · have hdec : Frm.dec l x = Frm.bad (Frm.unst l x).1 := by
      unfold Frm.dec
      rw [if_pos h0]
    rw [hdec]
    (repeat (first | refine WL.step (Yl.move rfl) rfl ?_ | refine WL.step (Yl.assign rfl) rfl ?_ | refine WL.step (Yl.extract rfl rfl) rfl ?_ | (refine WL.k_bin .neq ?_; refine WL.step (Yl.neqT rfl rfl (by omega)) rfl ?_) | refine WC.seq ?_ | refine WC.region ?_ | refine WL.nil ?_ | refine WN.then_normal ?_))
    refine WC.cond_true rfl rfl ?_
    (repeat (first | refine WL.step (Yl.move rfl) rfl ?_ | refine WL.step (Yl.build (ps := []) rfl rbuildF0) rfl ?_ | refine WC.seq ?_ | refine WC.region ?_))
    refine WL.storeWhole (T := 159) (k := 6) Tryz.sizeOf159 rfl rfl rfl zK rfl rfl ?_
    (repeat (first | refine WL.step (Yl.assign rfl) rfl ?_ | refine WL.nil ?_ | refine WN.then_normal ?_ | refine WC.ret ?_ | refine WN.then_ret ?_))
    exact WN.ret3C rfl Tryz.isAgg159 Tryz.sizeOf159 rfl rfl rfl (.head _) rfl (Decoded.bad _) (.free .nil)
end Go.Proofs.YtbkdjfgkebkknaaGreatDoor
namespace Go.Proofs.YtbkdjfgkebkknaaGreatDoor
set_option linter.unusedVariables false
set_option linter.unusedSimpArgs false
open Go Go.RowKit
set_option maxRecDepth 100000
set_option maxHeartbeats 8000000
abbrev KAt (w : World) (rb kb first n : Nat) (ep : Int) (s : KJS) : Prop := KOut w [] rb kb first n ep s
theorem kx_get {s : KJS} {i : Nat} {x : Kpg} (h : s.X[i]? = some x) : (s.X.map Kpg.v)[i]? = some x.v := by rw [List.getElem?_map, h]; rfl
theorem kx_ne {s : KJS} {i : Nat} {x : Kpg} (h : s.X[i]? = some x) : s.X.map Kpg.v ≠ [] := fun hh => by
  have := congrArg (fun l : List Value => l[i]?) hh
  simp [h] at this
theorem ts_get {s : KJS} {i : Nat} {x : Kpg} (h : s.X[i]? = some x) : s.Ts[i]? = some x.L := by rw [KJS.Ts, List.getElem?_map, h]; rfl
theorem ts_len (s : KJS) : s.Ts.length = s.X.length := List.length_map _
theorem usedT_succ {Ts : List (List Pg)} {i : Nat} {L : List Pg} (h : Ts[i]? = some L) : usedT (Ts.take (i + 1)) = usedT (Ts.take i) + (5 * L.length + 1) := by
  rw [take_one h, usedT_snoc]
theorem usedT_len : ∀ (Ts : List (List Pg)), Ts.length ≤ usedT Ts := fun Ts => by
  have key : ∀ (Ts : List (List Pg)) (k : Nat), k + Ts.length ≤ Ts.foldl (fun n L => n + (5 * L.length + 1)) k := fun Ts => by
    induction Ts with
    | nil => exact fun k => Nat.le_refl _
    | cons T Ts ih =>
      intro k
      have := ih (k + (5 * T.length + 1))
      rw [List.length_cons, List.foldl_cons]
      omega
  have := key Ts 0
  rw [usedT]; omega
def KFr (o : Frm.Out) : Value → List HA → Prop := fun v B => ∃ (q : Option Addr × Nat) (u : List UInt8), u.drop 11 = o.data ∧ u.length ≤ q.2 ∧ (u.length - 11 ≤ q.2 - 11) ∧
  v = .tuple #[.agg #[.int .i64 o.kd, .int .i64 o.ep, .int .i64 o.tx, .int .i64 o.ix, .int .i64 o.no, .slice (cutA q.1 11 q.2 1) o.data.length (q.2 - 11)], .int .i64 (o.sec : Int), .bool (decide ((o.err : Int) = 0))] ∧ B = [.row q.1 q.2 5 1 (bs u)]
def KRd (rp : RDP) (rs : RDS) (m : Nat) (rs' : RDS) : Prop := rs'.Ok ∧ rs'.v = { rs.v with rd := rs.v.rd + m } ∧ rs'.os = rs.os ∧ rs'.fs = rs.fs
def KFrV (rp : RDP) (rs : RDS) (m : Nat) (o : Frm.Out) : Value → List HA → Prop := fun u B => ∃ C rs', KFr o u C ∧ KRd rp rs m rs' ∧ B = C ++ rdI rp rs'
theorem KRd.trans {rp : RDP} {a b c : RDS} {m k : Nat} (h : KRd rp a m b) (g : KRd rp b k c) : KRd rp a (m + k) c := by
  obtain ⟨_, h2, h3, h4⟩ := h
  obtain ⟨g1, g2, g3, g4⟩ := g
  exact ⟨g1, by rw [g2, h2]; simp only [Nat.add_assoc], g3.trans h3, g4.trans h4⟩
attribute [local irreducible] WL WC WN Yl WH WQ WT WE WU WG WV
section
variable {rp : RDP} {rs : RDS} {rb kb first n : Nat} {ep : Int} {s : KJS}
theorem kused_nil (w : World) : Calls Tryz.prog 51 #[.pointer none] w (Gives (Val (.int .i64 0)) w) := by
  refine enter (args := [.pointer none]) Tryz.func51 Tryz.ntmps51 rfl rfl ?_
  (repeat (first | refine WL.pass rfl rfl rfl rfl ?_ | refine WL.step (Yl.move rfl) rfl ?_ | refine WL.step (Yl.assign rfl) rfl ?_ | refine WL.step (Yl.pick_t rfl rfl rfl) rfl ?_ | (refine WL.k_bin .eql ?_; refine WL.step (Yl.eqlPN (by kernel_rfl) rfl) rfl ?_) | refine WC.seq ?_ | refine WC.region ?_ | refine WL.nil ?_ | refine WN.then_normal ?_))
  refine WC.cond_true rfl rfl ?_
  (repeat (first | refine WL.step (Yl.assign rfl) rfl ?_ | refine WC.seq ?_ | refine WC.region ?_ | refine WL.nil ?_ | refine WN.then_normal ?_ | refine WC.ret ?_ | refine WN.then_ret ?_))
  exact WN.ret1 rfl rfl ⟨rfl, rfl⟩ .nil
theorem kused_c (w : World) (h : KAt w rb kb first n ep s) (hu : usedT s.Ts ≤ 100000) : Calls Tryz.prog 51 #[bptr kb] w (Gives (Val (.int .i64 ((usedT s.Ts : Nat) : Int))) w) := by
  have hrow := h.row.at_
  have hlen := usedT_len s.Ts
  rw [ts_len] at hlen
  refine enter (args := [.pointer (some ⟨kb, 0, none⟩)]) Tryz.func51 Tryz.ntmps51 rfl rfl ?_
  (repeat (first | refine WL.want rfl rfl rfl ?_ | refine WL.step (Yl.move rfl) rfl ?_ | refine WL.step (Yl.assign rfl) rfl ?_ | refine WL.step (Yl.loadH Tryz.isAgg52 rfl (Has.old h.blk) rfl) rfl ?_ | (refine WL.k_fld ?_; refine WL.step (Yl.fldN0 (i := 0) (o := 0) (by kernel_rfl) rfl) rfl ?_) | refine WL.step (Yl.pick_f rfl rfl rfl) rfl ?_ | (refine WL.k_bin .eql ?_; refine WL.step (Yl.eqlPN (by kernel_rfl) rfl) rfl ?_) | refine WL.step (Yl.nilCheck rfl) rfl ?_ | refine WC.seq ?_ | refine WC.region ?_ | refine WL.nil ?_ | refine WN.then_normal ?_))
  refine WC.cond_false rfl rfl ?_
  (repeat (first | refine WL.step (Yl.assign rfl) rfl ?_ | refine WC.seq ?_ | refine WC.region ?_ | refine WL.nil ?_ | refine WN.then_normal ?_ | refine WC.block ?_ | refine WC.skip ?_))
  refine WC.loop (α := Nat) (fun i => [(0, .pointer (some ⟨kb, 0, none⟩)), (3, .int .i64 ((usedT (s.Ts.take i) : Nat) : Int)), (4, .int .i64 (i : Int))]) (fun _ => []) (fun i => i ≤ s.X.length) (fun i => s.X.length - i) 0 zS .nil (Nat.zero_le _) ?_
  intro i hi
  (repeat (first | refine WL.step (Yl.move rfl) rfl ?_ | refine WL.step (Yl.loadH Tryz.isAgg139 rfl (Has.old h.blk) rfl) rfl ?_ | (refine WL.k_fld ?_; refine WL.step (Yl.fldN0 (i := 4) (o := 4) (by kernel_rfl) rfl) rfl ?_) | refine WL.step (Yl.nilCheck rfl) rfl ?_ | refine WL.step (Yl.len (t := 139) Tryz.underlying139 rfl) rfl ?_ | refine WL.step (Yl.lss rfl rfl) rfl ?_ | refine WC.seq ?_ | refine WC.region ?_ | refine WL.nil ?_ | refine WN.then_normal ?_))
  refine WC.ite rfl (fun h1 => ?_) (fun h1 => ?_)
  · obtain ⟨x, hx, _⟩ := mem_get (show i < s.X.length by omega)
    have e1 := usedT_succ (ts_get hx)
    have e2 := usedT_le s.Ts (i + 1)
    (repeat (first | refine WL.step (Yl.move rfl) rfl ?_ | refine WL.step (Yl.assign rfl) rfl ?_ | (refine WL.k_load ?_; first | refine WL.step (Yl.loadH Tryz.isAgg139 rfl (Has.old h.blk) rfl) rfl ?_ | refine WL.step (Yl.load (T := 158) (i := i) Tryz.isAgg158 rfl (Rd.old hrow) (kx_get hx)) rfl ?_) | (refine WL.k_fld ?_; refine WL.step (Yl.fldN0 (i := 4) (o := 4) (by kernel_rfl) rfl) rfl ?_) | refine WL.step (Yl.nilCheck rfl) rfl ?_ | refine WL.step (Yl.len (t := 158) Tryz.underlying158 rfl) rfl ?_ | (refine WL.k_idxa ?_; refine WL.step (Yl.indexAddr1 (t := 139) (j := i) Tryz.underlying139 Tryz.sizeOf158 rfl rfl (Rd.old hrow) (kx_ne hx) (by omega)) rfl ?_) | (refine WL.k_call 105 ?_; refine WL.callV (g := 105) (v := .int .i64 ((5 * x.L.length + 1 : Nat) : Int)) Tryz.call105 rfl (fun w0 st => ksize_c x.L.length w0 (by omega)) rfl ?_) | (refine WL.k_bin .add ?_; first | refine WL.step (Yl.add64N (m := usedT (s.Ts.take i)) (n := 5 * x.L.length + 1) rfl rfl (by omega)) rfl ?_ | refine WL.step (Yl.add64C rfl (by omega)) rfl ?_) | refine WC.seq ?_ | refine WC.region ?_ | refine WL.nil ?_ | refine WN.then_normal ?_ | refine WC.block ?_ | refine WC.skip ?_ | refine WN.block_normal ?_))
    rw [← e1]
    exact WN.next (i + 1) (by omega) (by omega) zS .nil
  · have hie : i = s.X.length := by omega
    subst hie
    rw [List.take_of_length_le (by rw [ts_len]; exact Nat.le_refl _)]
    (repeat (first | refine WL.step (Yl.move rfl) rfl ?_ | refine WL.step (Yl.assign rfl) rfl ?_ | refine WC.seq ?_ | refine WC.region ?_ | refine WL.nil ?_ | refine WN.then_normal ?_ | refine WC.exit ?_ | refine WC.ret ?_ | refine WN.then_exit ?_ | refine WN.block_here ?_))
    exact WN.ret1 rfl rfl ⟨rfl, rfl⟩ .nil
end
section
variable {rp : RDP} {rs : RDS} {kb first n : Nat} {ep : Int} {s : KJS} {S : List Nat}
theorem permK2 (x y : HA) (D : List HA) : (x :: y :: D).Perm (D ++ [x, y]) := List.perm_append_comm (l₁ := [x, y])
theorem permK3 (g x y : HA) (D : List HA) : ((g :: D) ++ [x, y]).Perm (x :: y :: g :: D) := by
  classical
  rw [List.perm_iff_count]; intro u; simp only [List.count_append, List.count_cons, List.count_nil]; omega
theorem kframe_r (at_ : Nat) (w : World) (h : KOut w S rp.bd kb first n ep s) (ok : rs.Ok) (hO : ∀ y ∈ rs.os ++ rs.fs, OutF w S y) (hup : rs.v.down = false) (hrow : first + n ≤ rs.d.length) (hat : at_ ≤ 100000) (hrd : rs.v.rd < 2305843009213693952) (st : St w S (rdI rp rs) w) :
    Calls Tryz.prog 104 #[bptr kb, .int .i64 (at_ : Int)] w (GivesS S (KFrV rp rs (min (at_ + 5) n - at_) (frA rs.v first n ep at_)) w) := by
  have hwf : BkWf rs.v.d rs.v.F := ok.wf
  have hle := ok.wf.le
  have hkb : kb ∉ S ∧ w.heap[kb]? = some (kO rp.bd first n ep s) := ⟨h.nS, h.blk⟩
  refine enterS (args := [.pointer (some ⟨kb, 0, none⟩), _]) Tryz.func104 Tryz.ntmps104 rfl rfl st ?_
  (repeat (first | refine WC.seq ?_ | refine WC.region ?_))
  refine WL.allocA Tryz.zeroValue159 rfl fun b4 => ?_
  (repeat (first | refine WL.step (Yl.move rfl) rfl ?_ | refine WL.step (Yl.assign rfl) rfl ?_ | refine WC.seq ?_ | refine WC.region ?_ | refine WL.nil ?_ | refine WN.then_normal ?_ | refine WC.block ?_))
  obtain ⟨m, hm⟩ : ∃ m, m = min (at_ + 5) n - at_ := ⟨_, rfl⟩
  have hrbm : (rowB rs.v (first + at_) m).length = 128 * m := by
    rcases Nat.eq_zero_or_pos m with h | h
    · rw [h]; rfl
    · exact rowB_len hwf (by show _ ≤ rs.d.length; omega)
  rw [frA, ← hm]
  refine WC.joinB (α := RDS × (Option Addr × Nat)) (fun g => [(0, .pointer (some ⟨kb, 0, none⟩)), (4, .pointer (some ⟨b4, 0, none⟩)), (7, .slice g.2.1 (128 * m) g.2.2)])
    (fun g => .blk b4 (.cells #[.int .i64 0, .int .i64 0, .int .i64 0, .int .i64 0, .int .i64 0, .slice none 0 0] 159 (0, 0)) :: .row g.2.1 g.2.2 5 1 (bs (rowB rs.v (first + at_) m)) :: rdI rp g.1) (fun g => KRd rp rs m g.1 ∧ 128 * m ≤ g.2.2) ?_ ?_
  rotate_left
  · rintro ⟨r1, q⟩ ⟨hr1, hq⟩
    simp only at hr1 hq ⊢
    (repeat (first | refine WL.step (Yl.move rfl) rfl ?_ | refine WL.step (Yl.loadH Tryz.isAgg52 rfl (Has.out hkb) rfl) rfl ?_ | (refine WL.k_fld ?_; refine WL.step (Yl.fldN0 (i := 3) (o := 3) (by kernel_rfl) rfl) rfl ?_) | refine WL.step (Yl.nilCheck rfl) rfl ?_ | refine WC.seq ?_ | refine WC.region ?_))
    refine WL.call (g := 130) Tryz.call130 rfl (fun w0 st2 => rdecode_c ep q.1 (128 * m) q.2 (rowB rs.v (first + at_) m) w0 hrbm hq (by omega) (Rd.row (.tail _ (.head _)) w0 st2)) rfl fun v B hv => ?_
    obtain ⟨q2, uu, h1u, h2u, h3u, rfl, rfl⟩ := hv
    rw [List.singleton_append]
    (repeat (first | refine WL.step (Yl.move rfl) rfl ?_ | refine WL.step (Yl.extract rfl rfl) rfl ?_))
    refine WL.allocA Tryz.zeroValue159 rfl fun b11 => ?_
    refine WL.storeWhole (T := 159) (k := 6) Tryz.sizeOf159 rfl rfl rfl .here rfl rfl ?_
    (repeat (first | refine WL.step (Yl.move rfl) rfl ?_ | refine WL.step (Yl.assign rfl) rfl ?_ | (refine WL.k_load ?_; refine WL.step (Yl.loadAll (T := 159) (T' := 159) Tryz.isAgg159 Tryz.sizeOf159 rfl zH rfl) rfl ?_) | refine WL.step (Yl.eql rfl rfl) rfl ?_ | refine WC.seq ?_ | refine WC.region ?_ | refine WL.nil ?_ | refine WN.then_normal ?_))
    refine WL.storeWhole (T := 159) (k := 6) Tryz.sizeOf159 rfl rfl rfl (.there (.there .here)) rfl rfl ?_
    (repeat (first | refine WL.step (Yl.assign rfl) rfl ?_ | refine WL.nil ?_ | refine WN.then_normal ?_ | refine WC.ret ?_))
    exact WN.ret3CS rfl Tryz.isAgg159 Tryz.sizeOf159 rfl rfl rfl zH rfl ⟨_, r1, ⟨q2, uu, h1u, h2u, h3u, rfl, rfl⟩, hr1, rfl⟩ (.cons (.there (.there .here)) (.more (.more (.more (Part.refl _)))))
  refine WC.loop (α := Nat × RDS × (Option Addr × Nat)) (fun g => [(0, .pointer (some ⟨kb, 0, none⟩)), (1, .int .i64 (at_ : Int)), (4, .pointer (some ⟨b4, 0, none⟩)), (5, .int .i64 0), (6, .bool false), (7, .slice g.2.2.1 (128 * g.1) g.2.2.2), (8, .int .i64 ((at_ + g.1 : Nat) : Int))])
    (fun g => .blk b4 (.cells #[.int .i64 0, .int .i64 0, .int .i64 0, .int .i64 0, .int .i64 0, .slice none 0 0] 159 (0, 0)) :: .row g.2.2.1 g.2.2.2 5 1 (bs (rowB rs.v (first + at_) g.1)) :: rdI rp g.2.1)
    (fun g => g.1 ≤ m ∧ KRd rp rs g.1 g.2.1 ∧ 128 * g.1 ≤ g.2.2.2) (fun g => m - g.1) (0, rs, (none, 0)) zS (.cons .here (.free (Part.refl _))) ⟨Nat.zero_le _, ⟨ok, rfl, rfl, rfl⟩, Nat.le_refl _⟩ ?_
  rintro ⟨i, r1, q⟩ ⟨hi, hr1, hq⟩
  simp only at hi hr1 hq ⊢
  obtain ⟨r1ok, r1v, r1o, r1f⟩ := hr1
  by_cases h1 : at_ + i < min (at_ + 5) n
  · have hk : first + (at_ + i) < r1.v.d.length := by rw [r1v]; show _ < rs.d.length; omega
    have hrv : r1.v.read ((first + (at_ + i) : Nat) : Int) = ({ rs.v with rd := rs.v.rd + (i + 1) }, readR rs.v.d rs.v.F ((first + (at_ + i) : Nat) : Int)) := by
      rw [r1v]; exact rd_view rs.v i hup hwf (by show _ < rs.d.length; omega)
    have hrl := (readR_at hwf (show first + (at_ + i) < rs.v.d.length by show _ < rs.d.length; omega)).2.2
    have hro := (readR_at hwf (show first + (at_ + i) < rs.v.d.length by show _ < rs.d.length; omega)).2.1
    (repeat (first | refine WL.want rfl rfl rfl ?_ | refine WL.step (Yl.move rfl) rfl ?_ | refine WL.step (Yl.loadH Tryz.isAgg52 rfl (Has.out hkb) rfl) rfl ?_ | (refine WL.k_fld ?_; refine WL.step (Yl.fldN0 (i := 2) (o := 2) (by kernel_rfl) rfl) rfl ?_) | refine WL.step (Yl.pick_t rfl rfl rfl) rfl ?_ | refine WL.step (Yl.nilCheck rfl) rfl ?_ | (refine WL.k_bin .add ?_; refine WL.step (Yl.add64C (m := at_) rfl (by omega)) rfl ?_) | (refine WL.k_bin .lss ?_; refine WL.step (Yl.lssT rfl rfl (by omega)) rfl ?_) | refine WC.seq ?_ | refine WC.region ?_ | refine WL.nil ?_ | refine WN.then_normal ?_))
    refine WC.cond_true rfl rfl ?_
    (repeat (first | refine WC.seq ?_ | refine WN.then_normal ?_ | refine WC.block ?_ | refine WC.skip ?_))
    refine WC.regionH [] (by kernel_rfl) ?_
    (refine WH.order [0, 1, 2, 3, 4, 5, 6, 7, 8, 9] (by repeat (first | exact Part.nil | refine Part.cons zK ?_ | refine Part.free ?_)) (by kernel_rfl) ?_; (repeat (first | (refine WT.k_move rfl ?_; (refine WT.kn rfl ?_; refine WT.take rfl rfl (fun _ _ _ h => h) (Yl.move rfl) rfl (by kernel_rfl) (by kernel_rfl) ?_)) | (refine WT.k_load rfl ?_; (refine WT.kn rfl ?_; refine WT.take rfl rfl (fun _ _ _ h => h) (Yl.loadH Tryz.isAgg52 rfl (Has.out hkb) rfl) rfl (by kernel_rfl) (by kernel_rfl) ?_)) | (refine WT.k_fld rfl ?_; (refine WT.kn rfl ?_; first | refine WT.take rfl rfl (fun _ _ _ h => h) (Yl.fldN0 (i := 0) (o := 0) (by kernel_rfl) rfl) rfl (by kernel_rfl) (by kernel_rfl) ?_ | refine WT.take rfl rfl (fun _ _ _ h => h) (Yl.fldN0 (i := 1) (o := 1) (by kernel_rfl) rfl) rfl (by kernel_rfl) (by kernel_rfl) ?_)) | (refine WT.k_nilc rfl ?_; (refine WT.kn rfl ?_; refine WT.take rfl rfl (fun _ _ _ h => h) (Yl.nilCheck rfl) rfl (by kernel_rfl) (by kernel_rfl) ?_)) | (refine WT.k_bin .add rfl ?_; (refine WT.kn rfl ?_; refine WT.take rfl rfl (fun _ _ _ h => h) (Yl.add64N (m := first) (n := at_ + i) rfl rfl (by omega)) rfl (by kernel_rfl) (by kernel_rfl) ?_)))); refine WT.nil ?_)
    refine WH.only (i := 10) (by kernel_rfl) rfl ?_
    refine WL.callS (g := 129) (A0 := rdI rp r1) (B := [_, _]) (vs := [bptr rp.bd, .int .i64 ((first + (at_ + i) : Nat) : Int)]) (R := EdR rp r1 { rs.v with rd := rs.v.rd + (i + 1) } (readR rs.v.d rs.v.F ((first + (at_ + i) : Nat) : Int))) Tryz.call129 rfl (permK2 _ _ _) (fun w0 st2 st1 => by have := eread_r (p := rp) ((first + (at_ + i) : Nat) : Int) r1 w0 r1ok (fun y hy => ⟨(hO y (by rw [r1o, r1f] at hy; exact hy)).1, old_out st2 (permK2 _ _ _) (hO y (by rw [r1o, r1f] at hy; exact hy)).2⟩) (by have := congrArg DV.rd r1v; have h9 : r1.rd = rs.v.rd + i := this; omega) st1; rw [hrv] at this; exact this) rfl fun v C hv => ?_
    obtain ⟨ra, rc, hrc, rfl, r2, r2ok, hr2, r2o, r2f, rfl⟩ := hv
    refine WL.part (Part.perm (permK3 _ _ _ _)) ?_
    refine WL.nil (WN.nextH .nil ?_)
    (refine WH.order [11, 12, 13, 14, 15] (by repeat (first | exact Part.nil | refine Part.cons zK ?_ | refine Part.free ?_)) (by kernel_rfl) ?_; (repeat (first | (refine WT.k_move rfl ?_; (refine WT.kn rfl ?_; refine WT.take rfl rfl (fun _ _ _ h => h) (Yl.move rfl) rfl (by kernel_rfl) (by kernel_rfl) ?_)) | (refine WT.k_assign rfl ?_; (refine WT.kn rfl ?_; refine WT.take rfl rfl (fun _ _ _ h => h) (Yl.assign rfl) rfl (by kernel_rfl) (by kernel_rfl) ?_)) | (refine WT.k_extract rfl ?_; (refine WT.kn rfl ?_; refine WT.take rfl rfl (fun _ _ _ h => h) (Yl.extract rfl rfl) rfl (by kernel_rfl) (by kernel_rfl) ?_)))); refine WT.nil ?_)
    refine WH.done (by kernel_rfl) ?_
    (repeat (first | refine WL.step (Yl.move rfl) rfl ?_ | refine WC.region ?_ | refine WN.then_normal ?_))
    have hrb := rowB_len hwf (a := first + at_) (k := i) (by show _ ≤ rs.d.length; omega)
    rw [show first + (at_ + i) = first + at_ + i by omega] at hrl hro hrc ⊢
    refine WL.appendRow (n := 128 * i) (m := 128) (olds := bs (rowB rs.v (first + at_) i)) (news := bs (readR rs.v.d rs.v.F ((first + at_ + i : Nat) : Int)).1) Tryz.underlying23 elemU8 rfl (by rw [← hrl]; rfl) (.there .here) (by rw [bs_length, hrb, Nat.mul_one]) hq (Rd.row (a := ra) (cap := rc) (T := 5) (k := 1) (.tail _ (.tail _ (.head _)))) (by rw [bs_length, hrl]) (bs_one _) (by omega) (by simp only [maxLen]; omega) rfl fun q2 hq2 => ?_
    rw [show bs (rowB rs.v (first + at_) i) ++ bs (readR rs.v.d rs.v.F ((first + at_ + i : Nat) : Int)).1 = bs (rowB rs.v (first + at_) (i + 1)) by rw [rowB_succ, bs_append]]
    rw [show 128 * i + 128 = 128 * (i + 1) by omega] at hq2 ⊢
    (repeat (first | refine WL.step (Yl.move rfl) rfl ?_ | refine WL.step (Yl.assign rfl) rfl ?_ | (refine WL.k_bin .add ?_; refine WL.step (Yl.add64C (m := at_ + i) rfl (by omega)) rfl ?_) | refine WC.region ?_ | refine WL.nil ?_ | refine WN.then_normal ?_ | refine WN.block_normal ?_))
    exact WN.next (i + 1, r2, q2) ⟨by simp only; omega, ⟨r2ok, hr2, r2o.trans r1o, r2f.trans r1f⟩, hq2⟩ (by simp only; omega) zS (.cons (.there .here) (.cons .here (.more (Part.refl _))))
  · have hie : i = m := by omega
    subst hie
    by_cases hn : at_ + i < n
    · (repeat (first | refine WL.want rfl rfl rfl ?_ | refine WL.step (Yl.move rfl) rfl ?_ | refine WL.step (Yl.loadH Tryz.isAgg52 rfl (Has.out hkb) rfl) rfl ?_ | (refine WL.k_fld ?_; refine WL.step (Yl.fldN0 (i := 2) (o := 2) (by kernel_rfl) rfl) rfl ?_) | refine WL.step (Yl.pick_t rfl rfl rfl) rfl ?_ | refine WL.step (Yl.nilCheck rfl) rfl ?_ | (refine WL.k_bin .add ?_; refine WL.step (Yl.add64C (m := at_) rfl (by omega)) rfl ?_) | (refine WL.k_bin .lss ?_; first | refine WL.step (Yl.lssT (m := ((at_ + i : Nat) : Int)) (n := (n : Int)) rfl rfl (by omega)) rfl ?_ | refine WL.step (Yl.lssF rfl rfl (by omega)) rfl ?_) | refine WC.seq ?_ | refine WC.region ?_ | refine WL.nil ?_ | refine WN.then_normal ?_))
      refine WC.cond_false rfl rfl ?_
      (repeat (first | refine WC.exit ?_ | refine WN.then_exit ?_ | refine WN.block_here ?_))
      exact WN.join (r1, q) ⟨⟨r1ok, r1v, r1o, r1f⟩, hq⟩ zS (Part.refl _)
    · (repeat (first | refine WL.pass rfl rfl rfl rfl ?_ | refine WL.step (Yl.move rfl) rfl ?_ | refine WL.step (Yl.loadH Tryz.isAgg52 rfl (Has.out hkb) rfl) rfl ?_ | (refine WL.k_fld ?_; refine WL.step (Yl.fldN0 (i := 2) (o := 2) (by kernel_rfl) rfl) rfl ?_) | refine WL.step (Yl.pick_f rfl rfl rfl) rfl ?_ | refine WL.step (Yl.nilCheck rfl) rfl ?_ | (refine WL.k_bin .lss ?_; refine WL.step (Yl.lssF rfl rfl (by omega)) rfl ?_) | refine WC.seq ?_ | refine WC.region ?_ | refine WL.nil ?_ | refine WN.then_normal ?_))
      refine WC.cond_false rfl rfl ?_
      (repeat (first | refine WC.exit ?_ | refine WN.then_exit ?_ | refine WN.block_here ?_))
      exact WN.join (r1, q) ⟨⟨r1ok, r1v, r1o, r1f⟩, hq⟩ zS (Part.refl _)
end
end Go.Proofs.YtbkdjfgkebkknaaGreatDoor
