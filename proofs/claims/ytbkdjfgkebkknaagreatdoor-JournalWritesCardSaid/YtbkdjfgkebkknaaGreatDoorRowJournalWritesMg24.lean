import Derived.Test.YtbkdjfgkebkknaaGreatDoorRowJournalWritesMg23
import Derived.Test.YtbkdjfgkebkknaaGreatDoorRowJournalWritesMg2
import Derived.OpenShut
import Derived.Deep.Matrix
import Derived.Test.YtbkdjfgkebkknaaGreatDoorRowJournalWritesMg11
import Derived.Test.YtbkdjfgkebkknaaGreatDoorRows
import Derived.LaidMore
import Derived.LaidHandle
import Derived.MakeChecks
import Derived.FnData
import Derived.ProofKit
namespace Go.Proofs.YtbkdjfgkebkknaaGreatDoor
set_option linter.unusedVariables false
set_option linter.unusedSimpArgs false
open Go Go.RowKit
set_option maxRecDepth 100000
set_option maxHeartbeats 16000000
def wrj : JV := JV.new 5 50 1
attribute [local irreducible] WL WC WN Yl WH WQ WT WE WU WG WV
theorem lwrites_c (a : Option Addr) (n cap : Nat) (X : List Tr) (w : World) (hT : Tab w) (hl : X.length = n) (hc : n ≤ cap) (hcm : cap ≤ 9223372036854775807) (hr : CellsAt w a (trs X)) (hX : ∀ t ∈ X, t.Ok w) : Calls Tryz.prog 7 #[.slice a n cap] w (Gives (Val (.bool true)) w) := by
  have h6 : min n 6 ≤ 6 := Nat.min_le_right _ _
  have hn6 : min n 6 ≤ n := Nat.min_le_left _ _
  have st := St.start w
  refine enterG (args := [_]) Tryz.func7 Tryz.ntmps7 rfl rfl st ?_
  (repeat (first | refine WG.seq ?_ | refine WG.region (fun _ _ h => h) rfl ?_))
  refine WL.alloc (T := 4) Tryz.zeroValue4 rfl fun b2 => ?_
  rw [show (Value.bool false).cells = #[.bool false] from rfl]
  (repeat (first | refine WG.seq ?_ | refine WG.region (fun _ _ h => h) rfl ?_ | refine WL.nil ?_ | refine WN.g_then ?_))
  refine WL.call (g := 11) Tryz.call11 rfl (fun w0 st2 => dnew_c 60 w0 (by decide) (by decide)) rfl fun v1 B1 hv1 => ?_
  obtain ⟨dp, d0, d0ok, hd0, rfl, rfl⟩ := hv1
  refine WL.part (Part.perm (show List.Perm _ (HA.blk b2 (.cells #[.bool false] 4 (0, 0)) :: drI dp d0) from (permU (by intros; simp only [List.count_append, List.count_cons, List.count_nil]; omega)))) ?_
  have hd0 : d0.v = zeroV 60 := hd0
  have hwf0 : BkWf (zeroV 60).d (zeroV 60).F := by rw [← hd0]; exact wf_v d0ok
  have hl0 : (zeroV 60).d.length = 60 := List.length_replicate
  (repeat (first | refine WL.step (Yl.move rfl) rfl ?_ | refine WL.step (Yl.assign rfl) rfl ?_ | refine WL.step (Yl.extract rfl rfl) rfl ?_ | refine WG.seq ?_ | refine WG.region (fun _ _ h => h) rfl ?_ | refine WL.nil ?_ | refine WN.g_then ?_))
  refine WL.call (g := 12) Tryz.call12 rfl (fun w0 st2 => jnew_v 5 50 1 w0 (d0ok.at_ st2 (fun x h => by simp only [List.mem_cons, List.mem_append, h, true_or, or_true])) hd0 (by decide) (by decide) (by rw [hl0]; decide)) rfl fun v1 B1 hv1 => ?_
  obtain ⟨p, s0, s0ok, hs0, rfl, rfl⟩ := hv1
  refine WL.part (Part.perm (show List.Perm _ (HA.blk b2 (.cells #[.bool false] 4 (0, 0)) :: (drI dp d0 ++ jI dp.bd p s0)) from (permU (by intros; simp only [List.count_append, List.count_cons, List.count_nil]; omega)))) ?_
  have hs0 : s0.v = wrj := hs0
  have k0 : Jok (zeroV 60) wrj [] := jok_new ⟨rfl, rfl⟩ hwf0 (by rw [hl0]; decide) (by decide) (by decide) (zeroV_clean (by decide) (by decide))
  (repeat (first | refine WL.want rfl rfl rfl ?_ | refine WL.step (Yl.move rfl) rfl ?_ | refine WL.step (Yl.assign rfl) rfl ?_ | refine WL.step (Yl.extract rfl rfl) rfl ?_ | refine WL.step (Yl.pick_f rfl rfl rfl) rfl ?_ | refine WL.step (Yl.neqF rfl rfl rfl) rfl ?_ | refine WG.seq ?_ | refine WG.region (fun _ _ h => h) rfl ?_ | refine WL.nil ?_ | refine WN.g_then ?_))
  refine WG.cond_false rfl rfl ?_
  (repeat (first | refine WL.step (Yl.move rfl) rfl ?_ | refine WL.step (Yl.len (t := 22) Tryz.underlying22 rfl) rfl ?_ | refine WL.step (Yl.min2N (m := n) (n := 6) rfl rfl) rfl ?_ | (refine WL.k_slice ?_; refine WL.step (Yl.cutTo (t := 22) (hi := min n 6) Tryz.underlying22 Tryz.sizeOf25 rfl rfl (by omega)) rfl ?_) | refine WG.seq ?_ | refine WG.region (fun _ _ h => h) rfl ?_ | refine WL.nil ?_ | refine WN.g_then ?_ | refine WG.block ?_ | refine WG.skip ?_))
  rw [cutA_zero]
  refine WG.loop (α := Nat × List (List Pg) × DS × JS × List Nat) (fun g => [(2, .pointer (some ⟨b2, 0, none⟩)), (3, bptr dp.bd), (5, bptr p.bj), (39, .slice a (min n 6) cap), (40, .int .i64 ((min n 6 : Nat) : Int)), (41, .int .i64 (g.1 : Int))])
    (fun g => mA g.2.2.2.2 ++ (HA.blk b2 (.cells #[.bool false] 4 (0, 0)) :: (jI dp.bd p g.2.2.2.1 ++ drI dp g.2.2.1))) (fun g => g.2.2.2.2)
    (fun g => g.1 ≤ min n 6 ∧ g.2.2.1.Ok dp ∧ Jok g.2.2.1.v wrj g.2.1 ∧ g.2.2.2.1.Ok ∧ g.2.2.2.1.v = wrj.adds g.2.1 ∧ g.2.2.1.v.ops ≤ 22 * g.1 ∧ g.2.2.1.v.d.length = 60) (fun g => min n 6 - g.1) (0, [], d0, s0, []) rfl (by repeat (first | exact Sub.nil | refine Sub.cons rfl rfl ?_)) (Part.perm (permU (by intros; simp only [mA, List.map_nil, List.count_append, List.count_cons, List.count_nil]; omega))) ⟨Nat.zero_le _, d0ok, by simp only; rw [hd0]; exact k0, s0ok, hs0, by simp only; rw [hd0]; exact Nat.le_refl _, by simp only; rw [hd0]; exact hl0⟩ ?_
  rintro ⟨i, Ts, d, s, Ds⟩ ⟨hi, dok, hk, sok, hs, hops, hdl⟩
  simp only at hi dok hk sok hs hops hdl ⊢
  have hfit := hk.fit
  have htx := hk.tx
  have hfn : wrj.n = 50 := rfl
  obtain ⟨j1, j2, j3, j4, j5⟩ := adds_same Ts wrj
  (repeat (first | refine WL.step (Yl.lss rfl rfl) rfl ?_ | refine WG.seq ?_ | refine WG.region (fun _ _ h => h) rfl ?_ | refine WL.nil ?_ | refine WN.g_then ?_))
  refine WG.ite rfl (fun h1 => ?_) (fun h1 => ?_)
  · have hin : i < n := by omega
    obtain ⟨t, ht⟩ : ∃ t, X[i]? = some t := ⟨X[i]'(by omega), List.getElem?_eq_getElem (by omega)⟩
    have htm2 := List.mem_of_getElem? ht
    (repeat (first | (refine WL.k_load ?_; refine WL.step (Yl.loadEl t.cs Tryz.isAgg25 Tryz.sizeOf25 rfl (Rd.old hr) rfl (by simp [Tr.cs]) (tr_at ht)) rfl ?_) | (refine WL.k_idxa ?_; refine WL.step (Yl.indexAddr (t := 22) (j := i) Tryz.underlying22 Tryz.sizeOf25 rfl rfl (Rd.old hr) (trs_ne ht) (by omega)) rfl ?_) | refine WG.seq ?_ | refine WG.region (fun _ _ h => h) rfl ?_ | refine WN.g_then ?_ | refine WG.block ?_ | refine WG.skip ?_))
    refine WL.allocA Tryz.zeroValue25 rfl fun b8 => ?_
    refine WL.storeWhole (T := 25) (k := 2) Tryz.sizeOf25 rfl rfl rfl .here rfl rfl ?_
    rw [show t.cs.toArray = #[.slice t.a t.nos.length t.c, bv t.fill] from rfl]
    (repeat (first | (refine WL.k_load ?_; refine WL.step (Yl.loadAll (T := 25) (T' := 25) Tryz.isAgg25 Tryz.sizeOf25 rfl (by repeat (first | exact .head _ | refine .tail _ ?_)) rfl) rfl ?_) | refine WG.seq ?_ | refine WG.region (fun _ _ h => h) rfl ?_ | refine WL.nil ?_ | refine WN.g_then ?_))
    refine WL.call (g := 14) Tryz.call14 rfl (fun w0 st2 => tpages_c t w0 ((hX t htm2).keep st2.kept)) rfl fun v1 B1 hv1 => ?_
    obtain ⟨pa, pc, L, ZL, hpc, hLT, hLZ, rfl, rfl⟩ := hv1
    refine WL.part (Part.perm (show List.Perm _ (mA Ds ++ (HA.blk b2 (.cells #[.bool false] 4 (0, 0)) :: (jI dp.bd p s ++ (drI dp d ++ (HA.blk b8 (.cells #[.slice t.a t.nos.length t.c, bv t.fill] 25 (0, 0)) :: HA.row pa pc 106 2 (pgs L) :: ZL))))) from (permU (by intros; simp only [List.count_append, List.count_cons, List.count_nil]; omega)))) ?_
    obtain ⟨hpk, hLl⟩ := tp_ok hLT
    have hL4 : L.length ≤ 4 := by rw [hLl]; exact nosD_len _
    have hL0 : 1 ≤ L.length := List.length_pos_iff.2 (pchk_ok hpk).1
    (repeat (first | refine WL.step (Yl.move rfl) rfl ?_ | refine WL.step (Yl.assign rfl) rfl ?_ | refine WG.seq ?_ | refine WG.region (fun _ _ h => h) rfl ?_ | refine WL.nil ?_ | refine WN.g_then ?_))
    refine WL.call (g := 43) Tryz.call43 rfl (fun w0 st2 => dbank_c w0 (dok.at_ st2 (fun x h => by simp only [List.mem_cons, List.mem_append, h, true_or, or_true]))) rfl fun v1 B1 hv1 => ?_
    obtain ⟨bk1, da1, cap1, mb1, M1, c1, hcap1, hM1, rfl, rfl⟩ := hv1
    refine WL.part (Part.perm (show List.Perm _ (mA Ds ++ (HA.blk b2 (.cells #[.bool false] 4 (0, 0)) :: (jI dp.bd p s ++ (drI dp d ++ (HA.blk b8 (.cells #[.slice t.a t.nos.length t.c, bv t.fill] 25 (0, 0)) :: HA.row pa pc 106 2 (pgs L) :: (ZL ++ bankItems bk1 da1 cap1 mb1 d.d M1 c1)))))) from (permU (by intros; simp only [List.count_append, List.count_cons, List.count_nil]; omega)))) ?_
    (repeat (first | refine WL.step (Yl.move rfl) rfl ?_))
    refine WL.callV (g := 44) (v := .int .i64 (d.v.ops : Int)) Tryz.call44 rfl (fun w0 st2 => dops_c (p := dp) (s := d) w0 (dok.at_ st2 (fun x h => by simp only [List.mem_cons, List.mem_append, h, true_or, or_true]))) rfl ?_
    (repeat (first | refine WL.step (Yl.move rfl) rfl ?_))
    refine WL.callV (g := 36) (v := .int .i64 ((wrj.adds Ts).used : Int)) Tryz.call36 rfl (fun w0 st2 => jused_v (dp := dp) (wrj.adds Ts).used w0 (sok.at_ st2 (fun x h => by simp only [List.mem_cons, List.mem_append, h, true_or, or_true])) hs rfl) rfl ?_
    (repeat (first | refine WL.step (Yl.move rfl) rfl ?_ | refine WL.step (Yl.assign rfl) rfl ?_ | refine WG.seq ?_ | refine WG.region (fun _ _ h => h) rfl ?_ | refine WL.nil ?_ | refine WN.g_then ?_))
    by_cases hf : (wrj.adds Ts).used + 5 * L.length + 1 ≤ 50
    · obtain ⟨v2, e2, k2, l2, o2, r2, h2, g2, n2⟩ := hk.append hpk (by rw [hfn]; exact hf)
      have hu2 : (wrj.adds (Ts ++ [L])).used = (wrj.adds Ts).used + 5 * L.length + 1 := by rw [adds_snoc]; rfl
      have hp : List.Perm (mA Ds ++ (HA.blk b2 (.cells #[.bool false] 4 (0, 0)) :: (jI dp.bd p s ++ (drI dp d ++ (HA.blk b8 (.cells #[.slice t.a t.nos.length t.c, bv t.fill] 25 (0, 0)) :: HA.row pa pc 106 2 (pgs L) :: (ZL ++ bankItems bk1 da1 cap1 mb1 d.d M1 c1)))))) ((jI dp.bd p s ++ drI dp d) ++ (mA Ds ++ (HA.blk b2 (.cells #[.bool false] 4 (0, 0)) :: HA.blk b8 (.cells #[.slice t.a t.nos.length t.c, bv t.fill] 25 (0, 0)) :: HA.row pa pc 106 2 (pgs L) :: (ZL ++ bankItems bk1 da1 cap1 mb1 d.d M1 c1)))) := (permU (by intros; simp only [List.count_append, List.count_cons, List.count_nil]; omega))
      refine WL.callS (g := 16) (A0 := jI dp.bd p s ++ drI dp d) (B := mA Ds ++ (HA.blk b2 (.cells #[.bool false] 4 (0, 0)) :: HA.blk b8 (.cells #[.slice t.a t.nos.length t.c, bv t.fill] 25 (0, 0)) :: HA.row pa pc 106 2 (pgs L) :: (ZL ++ bankItems bk1 da1 cap1 mb1 d.d M1 c1))) (vs := [bptr p.bj, .slice pa L.length pc]) (R := JAppV dp p (v2, wrj.adds (Ts ++ [L]), 0)) Tryz.call16 rfl hp (fun w0 st2 st1 => jappend_v pa L.length pc L w0 _ dok rfl sok hs e2 (show d.v.ops < _ by omega) rfl (by omega) (row_out st2 hp (show HA.row pa pc 106 2 (pgs L) ∈ _ by simp only [List.mem_cons, List.mem_append, true_or, or_true])) (fun q hq => inf_out (hLZ q hq) (fun x h => by simp only [List.mem_cons, List.mem_append, h, true_or, or_true]) st2 hp) (old_out st2 hp hT.o) st1) rfl fun v C hv => ?_
      clear hp
      obtain ⟨rfl, d2, s2, d2ok, hd2, s2ok, hs2, rfl⟩ := hv
      simp only at hd2 hs2
      refine WL.part (Part.perm (show List.Perm _ (mA Ds ++ (HA.blk b2 (.cells #[.bool false] 4 (0, 0)) :: (jI dp.bd p s2 ++ (drI dp d2 ++ (HA.blk b8 (.cells #[.slice t.a t.nos.length t.c, bv t.fill] 25 (0, 0)) :: HA.row pa pc 106 2 (pgs L) :: (ZL ++ bankItems bk1 da1 cap1 mb1 d.d M1 c1)))))) from (permU (by intros; simp only [List.count_append, List.count_cons, List.count_nil]; omega)))) ?_
      (repeat (first | refine WL.step (Yl.move rfl) rfl ?_ | refine WL.step (Yl.assign rfl) rfl ?_ | refine WL.step (Yl.eql rfl rfl) rfl ?_ | refine WG.seq ?_ | refine WG.region (fun _ _ h => h) rfl ?_ | refine WL.nil ?_ | refine WN.g_then ?_))
      refine WG.cond_false rfl rfl ?_
      (repeat (first | refine WL.want rfl rfl rfl ?_ | refine WL.step (Yl.move rfl) rfl ?_ | refine WL.step (Yl.neqF rfl rfl rfl) rfl ?_ | refine WG.seq ?_ | refine WG.region (fun _ _ h => h) rfl ?_ | refine WN.g_then ?_ | refine WG.skip ?_))
      refine WL.callV (g := 44) (v := .int .i64 ((d.v.ops + (5 * L.length + 2) : Nat) : Int)) Tryz.call44 rfl (fun w0 st2 => by have := dops_c (p := dp) (s := d2) w0 (d2ok.at_ st2 (fun x h => by simp only [List.mem_cons, List.mem_append, h, true_or, or_true])); rw [show d2.ops = d.v.ops + (5 * L.length + 2) from (congrArg DV.ops hd2).trans o2] at this; exact this) rfl ?_
      (repeat (first | refine WL.want rfl rfl rfl ?_ | refine WL.step (Yl.move rfl) rfl ?_ | refine WL.step (Yl.pick_f rfl rfl rfl) rfl ?_ | refine WL.step (Yl.len (t := 37) Tryz.underlying37 rfl) rfl ?_ | (refine WL.k_bin .mul ?_; refine WL.step (Yl.mulC64 (m := L.length) rfl (by omega)) rfl ?_) | (refine WL.k_bin .add ?_; first | refine WL.step (Yl.add64C (m := 5 * L.length) rfl (by omega)) rfl ?_ | refine WL.step (Yl.add64N (m := d.v.ops) (n := 5 * L.length + 2) rfl rfl (by omega)) rfl ?_) | refine WL.step (Yl.neqF rfl rfl rfl) rfl ?_))
      refine WL.callV (g := 36) (v := .int .i64 (((wrj.adds Ts).used + 5 * L.length + 1 : Nat) : Int)) Tryz.call36 rfl (fun w0 st2 => jused_v (dp := dp) ((wrj.adds Ts).used + 5 * L.length + 1) w0 (s2ok.at_ st2 (fun x h => by simp only [List.mem_cons, List.mem_append, h, true_or, or_true])) hs2 hu2) rfl ?_
      (repeat (first | refine WL.want rfl rfl rfl ?_ | refine WL.step (Yl.move rfl) rfl ?_ | refine WL.step (Yl.pick_f rfl rfl rfl) rfl ?_ | refine WL.step (Yl.len (t := 37) Tryz.underlying37 rfl) rfl ?_ | (refine WL.k_bin .mul ?_; refine WL.step (Yl.mulC64 (m := L.length) rfl (by omega)) rfl ?_) | (refine WL.k_bin .add ?_; first | refine WL.step (Yl.add64N (m := (wrj.adds Ts).used) (n := 5 * L.length) rfl rfl (by omega)) rfl ?_ | refine WL.step (Yl.add64C (m := (wrj.adds Ts).used + 5 * L.length) rfl (by omega)) rfl ?_) | refine WL.step (Yl.neqF rfl rfl rfl) rfl ?_ | refine WL.nil ?_ | refine WN.g_then ?_))
      refine WG.cond_false rfl rfl ?_
      (repeat (first | refine WL.step (Yl.move rfl) rfl ?_ | refine WG.seq ?_ | refine WG.region (fun _ _ h => h) rfl ?_ | refine WN.g_then ?_ | refine WG.skip ?_))
      refine WL.call (g := 43) Tryz.call43 rfl (fun w0 st2 => dbank_c w0 (d2ok.at_ st2 (fun x h => by simp only [List.mem_cons, List.mem_append, h, true_or, or_true]))) rfl fun v1 B1 hv1 => ?_
      obtain ⟨bk2, da2, cap2, mb2, M2, c2, hcap2, hM2, rfl, rfl⟩ := hv1
      refine WL.part (Part.perm (show List.Perm _ (mA Ds ++ (HA.blk b2 (.cells #[.bool false] 4 (0, 0)) :: (jI dp.bd p s2 ++ (drI dp d2 ++ (HA.blk b8 (.cells #[.slice t.a t.nos.length t.c, bv t.fill] 25 (0, 0)) :: HA.row pa pc 106 2 (pgs L) :: (ZL ++ (bankItems bk1 da1 cap1 mb1 d.d M1 c1 ++ bankItems bk2 da2 cap2 mb2 d2.d M2 c2))))))) from (permU (by intros; simp only [List.count_append, List.count_cons, List.count_nil]; omega)))) ?_
      (repeat (first | refine WL.want rfl rfl rfl ?_ | refine WL.step (Yl.move rfl) rfl ?_ | refine WL.step (Yl.assign rfl) rfl ?_ | refine WL.step (Yl.pick_f rfl rfl rfl) rfl ?_ | (refine WL.k_bin .eql ?_; refine WL.step (Yl.eqlPN (by kernel_rfl) rfl) rfl ?_) | refine WG.seq ?_ | refine WG.region (fun _ _ h => h) rfl ?_ | refine WL.nil ?_ | refine WN.g_then ?_))
      refine WG.cond_false rfl rfl ?_
      (repeat (first | refine WL.step (Yl.move rfl) rfl ?_ | refine WG.seq ?_ | refine WG.region (fun _ _ h => h) rfl ?_ | refine WN.g_then ?_ | refine WG.skip ?_))
      refine WL.drops (D := HA.blk b8 (.cells #[.slice t.a t.nos.length t.c, bv t.fill] 25 (0, 0)) :: HA.row pa pc 106 2 (pgs L) :: ZL) (B := mA Ds ++ (HA.blk b2 (.cells #[.bool false] 4 (0, 0)) :: (jI dp.bd p s2 ++ (drI dp d2 ++ (bankItems bk1 da1 cap1 mb1 d.d M1 c1 ++ bankItems bk2 da2 cap2 mb2 d2.d M2 c2))))) (permU (by intros; simp only [List.count_append, List.count_cons, List.count_nil]; omega)) ?_
      refine WL.call (g := 45) Tryz.call45 rfl (fun w0 st2 => bdirty_c (some ⟨bk2, 0, none⟩) w0) rfl fun v1 B1 hv1 => ?_
      obtain ⟨bx, rfl, rfl⟩ := hv1
      refine WL.part (Part.perm (show List.Perm _ (mA Ds ++ (HA.blk b2 (.cells #[.bool false] 4 (0, 0)) :: (jI dp.bd p s2 ++ (drI dp d2 ++ (bankItems bk1 da1 cap1 mb1 d.d M1 c1 ++ (bankItems bk2 da2 cap2 mb2 d2.d M2 c2 ++ ([HA.blk bx (.cells #[.pointer (some ⟨bk2, 0, none⟩)] 70 (0, 0))]))))))) from (permU (by intros; simp only [List.count_append, List.count_cons, List.count_nil]; omega)))) ?_
      have hbk : ∀ {bk cap mb c : Nat} {da : Option Addr} {dd : List (List UInt8)} {FF : Nat → Option (List UInt8)} {M : List (Nat × List UInt8 × Nat)} {B : List HA}, BkWf dd FF → dd.length ≤ cap → MapIs dd.length FF M c → (∀ x ∈ bankItems bk da cap mb dd M c, x ∈ B) → ∀ {S : List Nat} {v w' : World}, St v S B w' → BankAt w' bk da cap mb dd FF := fun h1 h2 h3 h4 _ _ _ s => BankAt.of h1 h2 h3 (h4 _ (.head _)) (h4 _ (.tail _ (.head _))) (h4 _ (.tail _ (.tail _ (.head _)))) s
      have hl60 : d2.d.length = 60 := by have := congrArg (fun v => v.d.length) hd2; exact this.trans (l2.trans hdl)
      have hdirty : dirtyOf d2.d.length d2.F = [] := List.filter_eq_nil_iff.2 fun k hkk => by
        have hF : d2.F = v2.F := congrArg DV.F hd2
        have := List.mem_range.1 hkk
        rw [hF, n2 k (by omega)]; simp
      (repeat (first | refine WL.nil ?_ | refine WN.g_then ?_ | refine WG.block ?_))
      refine WG.rangeZ (enc := fun x : Sec d2.d.length => secv x) (S := AllOf d2.d.length []) (Sp := PartOf d2.d.length []) (lb := [.pointer (some ⟨bx, 0, none⟩)]) rfl Tryz.call96 rfl
        (fun w0 st2 => by
          have := (hbk (bk := bk2) (cap := cap2) (mb := mb2) (c := c2) (da := da2) (dd := d2.d) (FF := d2.F) (M := M2) (wf_v d2ok) hcap2 hM2 (fun x h => by simp only [List.mem_cons, List.mem_append, h, true_or, or_true]) st2).dirty w0 ⟨rfl, rfl, rfl, Nat.le_refl _, fun _ _ _ => rfl⟩ bx (st2.holds _ (show HA.blk bx (.cells #[.pointer (some ⟨bk2, 0, none⟩)] 70 (0, 0)) ∈ _ by simp only [List.mem_cons, List.mem_append, true_or, or_true])) w0.heap.size (Nat.le_refl _)
          rw [hdirty] at this
          exact this) fun D1 => ?_
      rw [show mark D1 :: mD Ds = mD (D1 :: Ds) from rfl]
      have hout : ∀ k, k < 60 → (k < 5 + (wrj.adds Ts).used ∨ 5 + ((wrj.adds Ts).used + 5 * L.length + 1) ≤ k) → secV d.v k = secV d2.v k := fun k h3 h4 => by rw [hd2]; exact (g2 k (by omega) h4).symm
      have hinn : ∀ k, 5 + (wrj.adds Ts).used ≤ k → k < 5 + ((wrj.adds Ts).used + 5 * L.length + 1) → secV d.v k ≠ secV d2.v k := fun k h3 h4 he => by
        obtain ⟨j, rfl⟩ : ∃ j, k = 5 + (wrj.adds Ts).used + j := ⟨k - (5 + (wrj.adds Ts).used), by omega⟩
        have hjl : j < (trP wrj.ep ((wrj.adds Ts).tx + 1) L).length := by rw [trP_len]; omega
        have e1 := h2 j hjl
        obtain ⟨dd, hdd, e3⟩ := trP_stamp (ep := wrj.ep) (tx := (wrj.adds Ts).tx + 1) (by decide) (by omega) (by omega) (pchk_ok hpk).1 (pchk_ok hpk).2 (by omega) _ (getD_mem (d := []) hjl)
        have hc := hk.clean ((wrj.adds Ts).used + j) (by omega) (by omega)
        rw [show wrj.first + ((wrj.adds Ts).used + j) = 5 + (wrj.adds Ts).used + j from (Nat.add_assoc _ _ _).symm, he, hd2, show 5 + (wrj.adds Ts).used + j = wrj.first + (wrj.adds Ts).used + j from rfl, e1, e3] at hc
        have hu := Frm.unst_stamp (n := wrj.ep) (by decide) hdd []
        rw [List.append_nil] at hu
        exact hc (by rw [hu])
      (repeat (first | refine WL.step (Yl.move rfl) rfl ?_ | refine WG.seq ?_ | refine WG.region (fun _ _ h => h) rfl ?_ | refine WL.nil ?_ | refine WN.g_then ?_ | refine WG.block ?_ | refine WN.g_bnormal ?_))
      refine WG.loop (α := Nat) (fun k => [(2, .pointer (some ⟨b2, 0, none⟩)), (3, bptr dp.bd), (5, bptr p.bj), (39, .slice a (min n 6) cap), (40, .int .i64 ((min n 6 : Nat) : Int)), (41, .int .i64 (i : Int)), (10, bptr bk1), (12, .int .i64 ((wrj.adds Ts).used : Int)), (14, bptr bk2), (103, .int .i64 (k : Int))])
        (fun _ => mA (D1 :: Ds) ++ (HA.blk b2 (.cells #[.bool false] 4 (0, 0)) :: (jI dp.bd p s2 ++ (drI dp d2 ++ (bankItems bk1 da1 cap1 mb1 d.d M1 c1 ++ bankItems bk2 da2 cap2 mb2 d2.d M2 c2))))) (fun _ => D1 :: Ds) (fun k => k ≤ 60) (fun k => 60 - k) 0 rfl (by repeat (first | exact Sub.nil | refine Sub.cons rfl rfl ?_)) (part_to (D := [HA.blk bx (.cells #[.pointer (some ⟨bk2, 0, none⟩)] 70 (0, 0))]) (permU (by intros; simp only [mA, List.map_cons, List.count_append, List.count_cons, List.count_nil]; omega))) (Nat.zero_le _) ?_
      intro k hk60
      (repeat (first | refine WL.step (Yl.lss rfl rfl) rfl ?_ | refine WG.seq ?_ | refine WG.region (fun _ _ h => h) rfl ?_ | refine WL.nil ?_ | refine WN.g_then ?_))
      refine WG.ite rfl (fun h5 => ?_) (fun h5 => ?_)
      · have hk6 : k < 60 := by omega
        have r1 : readR d.d d.F (k : Int) = (secV d.v k, 0) := by have := readR_at (wf_v dok) (k := k) (by omega); exact Prod.ext this.1 this.2.1
        have r3 : readR d2.d d2.F (k : Int) = (secV d2.v k, 0) := by have := readR_at (wf_v d2ok) (k := k) (show k < d2.d.length by omega); exact Prod.ext this.1 this.2.1
        (repeat (first | refine WL.step (Yl.move rfl) rfl ?_ | refine WL.step (Yl.assign rfl) rfl ?_ | refine WG.seq ?_ | refine WG.region (fun _ _ h => h) rfl ?_ | refine WL.nil ?_ | refine WN.g_then ?_ | refine WG.block ?_ | refine WG.skip ?_))
        refine WL.callR (g := 46) Tryz.call46 rfl (fun w0 st2 => by have := bread_c (k : Int) w0 (hbk (bk := bk1) (cap := cap1) (mb := mb1) (c := c1) (da := da1) (dd := d.d) (FF := d.F) (M := M1) (wf_v dok) hcap1 hM1 (fun x h => by simp only [List.mem_cons, List.mem_append, h, true_or, or_true]) st2); rw [r1] at this; exact this) rfl fun q1 hq1 => ?_
        (repeat (first | refine WL.step (Yl.move rfl) rfl ?_ | refine WL.step (Yl.assign rfl) rfl ?_ | refine WL.step (Yl.extract rfl rfl) rfl ?_ | refine WG.seq ?_ | refine WG.region (fun _ _ h => h) rfl ?_ | refine WL.nil ?_ | refine WN.g_then ?_))
        refine WL.callR (g := 46) Tryz.call46 rfl (fun w0 st2 => by have := bread_c (k : Int) w0 (hbk (bk := bk2) (cap := cap2) (mb := mb2) (c := c2) (da := da2) (dd := d2.d) (FF := d2.F) (M := M2) (wf_v d2ok) hcap2 hM2 (fun x h => by simp only [List.mem_cons, List.mem_append, h, true_or, or_true]) st2); rw [r3] at this; exact this) rfl fun q2 hq2 => ?_
        (repeat (first | refine WL.want rfl rfl rfl ?_ | refine WL.step (Yl.move rfl) rfl ?_ | refine WL.step (Yl.assign rfl) rfl ?_ | refine WL.step (Yl.extract rfl rfl) rfl ?_ | refine WL.step (Yl.pick_f rfl rfl rfl) rfl ?_ | refine WL.step (Yl.neqF rfl rfl rfl) rfl ?_ | refine WG.seq ?_ | refine WG.region (fun _ _ h => h) rfl ?_ | refine WL.nil ?_ | refine WN.g_then ?_))
        by_cases hA : 5 + (wrj.adds Ts).used ≤ k
        · by_cases hB : k < 5 + ((wrj.adds Ts).used + 5 * L.length + 1)
          · refine WL.callV (g := 47) (v := .bool false) Tryz.call47 rfl (fun w0 st2 => by have := bequal_c q1.1 q2.1 (secV d.v k).length (secV d2.v k).length q1.2 q2.2 (secV d.v k) (secV d2.v k) w0 rfl rfl (Rd.row (.tail _ (.head _)) w0 st2) (Rd.row (.head _) w0 st2); rw [decide_eq_false (hinn k hA hB)] at this; exact this) rfl ?_
            (repeat (first | refine WL.want rfl rfl rfl ?_ | refine WL.step (Yl.move rfl) rfl ?_ | (refine WL.k_bin .add ?_; refine WL.step (Yl.addC64 (m := (wrj.adds Ts).used) rfl (by omega)) rfl ?_) | (refine WL.k_bin .geq ?_; refine WL.step (Yl.geqT rfl rfl (by omega)) rfl ?_)))
            refine WL.callV (g := 36) (v := .int .i64 (((wrj.adds Ts).used + 5 * L.length + 1 : Nat) : Int)) Tryz.call36 rfl (fun w0 st2 => jused_v (dp := dp) ((wrj.adds Ts).used + 5 * L.length + 1) w0 (s2ok.at_ st2 (fun x h => by simp only [List.mem_cons, List.mem_append, h, true_or, or_true])) hs2 hu2) rfl ?_
            (repeat (first | refine WL.want rfl rfl rfl ?_ | (refine WL.k_pick ?_; first | refine WL.step (Yl.pick_t rfl rfl rfl) rfl ?_ | refine WL.step (Yl.pick_f rfl rfl rfl) rfl ?_) | (refine WL.k_bin .add ?_; refine WL.step (Yl.addC64 (m := (wrj.adds Ts).used + 5 * L.length + 1) rfl (by omega)) rfl ?_) | (refine WL.k_bin .lss ?_; refine WL.step (Yl.lssT rfl rfl (by omega)) rfl ?_) | refine WL.step (Yl.eqlB (t := 4) (p := false) (q := true) Tryz.underlying4 rfl rfl) rfl ?_ | refine WL.nil ?_ | refine WN.g_then ?_))
            refine WG.cond_false rfl rfl ?_
            (repeat (first | refine WL.step (Yl.move rfl) rfl ?_ | (refine WL.k_bin .add ?_; refine WL.step (Yl.add64C rfl (by omega)) rfl ?_) | refine WG.region (fun _ _ h => h) rfl ?_ | refine WL.nil ?_ | refine WN.g_then ?_ | refine WG.skip ?_ | refine WN.g_bnormal ?_))
            exact WN.gnextM (k + 1) (show k + 1 ≤ 60 by omega) (show 60 - (k + 1) < 60 - k by omega) rfl (by repeat (first | exact Sub.nil | refine Sub.cons rfl rfl ?_)) (.more (.more (Part.refl _)))
          · refine WL.callV (g := 47) (v := .bool true) Tryz.call47 rfl (fun w0 st2 => by have := bequal_c q1.1 q2.1 (secV d.v k).length (secV d2.v k).length q1.2 q2.2 (secV d.v k) (secV d2.v k) w0 rfl rfl (Rd.row (.tail _ (.head _)) w0 st2) (Rd.row (.head _) w0 st2); rw [decide_eq_true (hout k hk6 (.inr (by omega)))] at this; exact this) rfl ?_
            (repeat (first | refine WL.want rfl rfl rfl ?_ | refine WL.step (Yl.move rfl) rfl ?_ | (refine WL.k_bin .add ?_; refine WL.step (Yl.addC64 (m := (wrj.adds Ts).used) rfl (by omega)) rfl ?_) | (refine WL.k_bin .geq ?_; refine WL.step (Yl.geqT rfl rfl (by omega)) rfl ?_)))
            refine WL.callV (g := 36) (v := .int .i64 (((wrj.adds Ts).used + 5 * L.length + 1 : Nat) : Int)) Tryz.call36 rfl (fun w0 st2 => jused_v (dp := dp) ((wrj.adds Ts).used + 5 * L.length + 1) w0 (s2ok.at_ st2 (fun x h => by simp only [List.mem_cons, List.mem_append, h, true_or, or_true])) hs2 hu2) rfl ?_
            (repeat (first | refine WL.want rfl rfl rfl ?_ | (refine WL.k_pick ?_; first | refine WL.step (Yl.pick_t rfl rfl rfl) rfl ?_ | refine WL.step (Yl.pick_f rfl rfl rfl) rfl ?_) | (refine WL.k_bin .add ?_; refine WL.step (Yl.addC64 (m := (wrj.adds Ts).used + 5 * L.length + 1) rfl (by omega)) rfl ?_) | (refine WL.k_bin .lss ?_; refine WL.step (Yl.lssF rfl rfl (by omega)) rfl ?_) | refine WL.step (Yl.eqlB (t := 4) (p := true) (q := false) Tryz.underlying4 rfl rfl) rfl ?_ | refine WL.nil ?_ | refine WN.g_then ?_))
            refine WG.cond_false rfl rfl ?_
            (repeat (first | refine WL.step (Yl.move rfl) rfl ?_ | (refine WL.k_bin .add ?_; refine WL.step (Yl.add64C rfl (by omega)) rfl ?_) | refine WG.region (fun _ _ h => h) rfl ?_ | refine WL.nil ?_ | refine WN.g_then ?_ | refine WG.skip ?_ | refine WN.g_bnormal ?_))
            exact WN.gnextM (k + 1) (show k + 1 ≤ 60 by omega) (show 60 - (k + 1) < 60 - k by omega) rfl (by repeat (first | exact Sub.nil | refine Sub.cons rfl rfl ?_)) (.more (.more (Part.refl _)))
        · refine WL.callV (g := 47) (v := .bool true) Tryz.call47 rfl (fun w0 st2 => by have := bequal_c q1.1 q2.1 (secV d.v k).length (secV d2.v k).length q1.2 q2.2 (secV d.v k) (secV d2.v k) w0 rfl rfl (Rd.row (.tail _ (.head _)) w0 st2) (Rd.row (.head _) w0 st2); rw [decide_eq_true (hout k hk6 (.inl (by omega)))] at this; exact this) rfl ?_
          (repeat (first | (refine WL.kG ?_; first | refine WL.want rfl rfl rfl ?_ | refine WL.pass rfl rfl rfl rfl ?_) | refine WL.step (Yl.move rfl) rfl ?_ | refine WL.step (Yl.pick_f rfl rfl rfl) rfl ?_ | (refine WL.k_bin .add ?_; refine WL.step (Yl.addC64 (m := (wrj.adds Ts).used) rfl (by omega)) rfl ?_) | (refine WL.k_bin .geq ?_; refine WL.step (Yl.geqF rfl rfl (by omega)) rfl ?_) | refine WL.step (Yl.eqlB (t := 4) (p := true) (q := false) Tryz.underlying4 rfl rfl) rfl ?_ | refine WL.nil ?_ | refine WN.g_then ?_))
          refine WG.cond_false rfl rfl ?_
          (repeat (first | refine WL.step (Yl.move rfl) rfl ?_ | (refine WL.k_bin .add ?_; refine WL.step (Yl.add64C rfl (by omega)) rfl ?_) | refine WG.region (fun _ _ h => h) rfl ?_ | refine WL.nil ?_ | refine WN.g_then ?_ | refine WG.skip ?_ | refine WN.g_bnormal ?_))
          exact WN.gnextM (k + 1) (show k + 1 ≤ 60 by omega) (show 60 - (k + 1) < 60 - k by omega) rfl (by repeat (first | exact Sub.nil | refine Sub.cons rfl rfl ?_)) (.more (.more (Part.refl _)))
      · (repeat (first | refine WL.step (Yl.move rfl) rfl ?_ | (refine WL.k_bin .add ?_; refine WL.step (Yl.add64C rfl (by omega)) rfl ?_) | refine WG.region (fun _ _ h => h) rfl ?_ | refine WL.nil ?_ | refine WN.g_then ?_ | refine WG.exit ?_ | refine WN.g_exit ?_ | refine WN.g_bnormal ?_ | refine WN.g_bhere ?_))
        refine WN.drops (D := bankItems bk1 da1 cap1 mb1 d.d M1 c1 ++ bankItems bk2 da2 cap2 mb2 d2.d M2 c2) (B := mA (D1 :: Ds) ++ (HA.blk b2 (.cells #[.bool false] 4 (0, 0)) :: (jI dp.bd p s2 ++ drI dp d2))) (permU (by intros; simp only [List.count_append, List.count_cons, List.count_nil]; omega)) ?_
        exact WN.gnextM (i + 1, Ts ++ [L], d2, s2, D1 :: Ds) ⟨by simp only; omega, d2ok, by simp only; rw [hd2]; exact k2, s2ok, hs2, by simp only; rw [hd2]; omega, hl60⟩ (by simp only; omega) rfl (by repeat (first | exact Sub.nil | refine Sub.cons rfl rfl ?_)) (Part.refl _)
    · have hp : List.Perm (mA Ds ++ (HA.blk b2 (.cells #[.bool false] 4 (0, 0)) :: (jI dp.bd p s ++ (drI dp d ++ (HA.blk b8 (.cells #[.slice t.a t.nos.length t.c, bv t.fill] 25 (0, 0)) :: HA.row pa pc 106 2 (pgs L) :: (ZL ++ bankItems bk1 da1 cap1 mb1 d.d M1 c1)))))) ((jI dp.bd p s ++ drI dp d) ++ (mA Ds ++ (HA.blk b2 (.cells #[.bool false] 4 (0, 0)) :: HA.blk b8 (.cells #[.slice t.a t.nos.length t.c, bv t.fill] 25 (0, 0)) :: HA.row pa pc 106 2 (pgs L) :: (ZL ++ bankItems bk1 da1 cap1 mb1 d.d M1 c1)))) := (permU (by intros; simp only [List.count_append, List.count_cons, List.count_nil]; omega))
      refine WL.callS (g := 16) (A0 := jI dp.bd p s ++ drI dp d) (B := mA Ds ++ (HA.blk b2 (.cells #[.bool false] 4 (0, 0)) :: HA.blk b8 (.cells #[.slice t.a t.nos.length t.c, bv t.fill] 25 (0, 0)) :: HA.row pa pc 106 2 (pgs L) :: (ZL ++ bankItems bk1 da1 cap1 mb1 d.d M1 c1))) (vs := [bptr p.bj, .slice pa L.length pc]) (R := JAppV dp p (d.v, wrj.adds Ts, 4)) Tryz.call16 rfl hp (fun w0 st2 st1 => jappend_v pa L.length pc L w0 _ dok rfl sok hs (japp_full hpk (fun h => hf (by have := (fitN_iff hL0).1 h; rwa [j2, hfn] at this))) (show d.v.ops < _ by omega) rfl (by omega) (row_out st2 hp (show HA.row pa pc 106 2 (pgs L) ∈ _ by simp only [List.mem_cons, List.mem_append, true_or, or_true])) (fun q hq => inf_out (hLZ q hq) (fun x h => by simp only [List.mem_cons, List.mem_append, h, true_or, or_true]) st2 hp) (old_out st2 hp hT.o) st1) rfl fun v C hv => ?_
      clear hp
      obtain ⟨rfl, d2, s2, d2ok, hd2, s2ok, hs2, rfl⟩ := hv
      simp only at hd2 hs2
      refine WL.part (Part.perm (show List.Perm _ (mA Ds ++ (HA.blk b2 (.cells #[.bool false] 4 (0, 0)) :: (jI dp.bd p s2 ++ (drI dp d2 ++ (HA.blk b8 (.cells #[.slice t.a t.nos.length t.c, bv t.fill] 25 (0, 0)) :: HA.row pa pc 106 2 (pgs L) :: (ZL ++ bankItems bk1 da1 cap1 mb1 d.d M1 c1)))))) from (permU (by intros; simp only [List.count_append, List.count_cons, List.count_nil]; omega)))) ?_
      (repeat (first | refine WL.step (Yl.move rfl) rfl ?_ | refine WL.step (Yl.assign rfl) rfl ?_ | refine WL.step (Yl.eqlT rfl rfl rfl) rfl ?_ | refine WG.seq ?_ | refine WG.region (fun _ _ h => h) rfl ?_ | refine WL.nil ?_ | refine WN.g_then ?_))
      refine WG.cond_true rfl rfl ?_
      (repeat (first | refine WL.step (Yl.move rfl) rfl ?_ | refine WG.seq ?_ | refine WG.region (fun _ _ h => h) rfl ?_))
      refine WL.callV (g := 44) (v := .int .i64 (d.v.ops : Int)) Tryz.call44 rfl (fun w0 st2 => by have := dops_c (p := dp) (s := d2) w0 (d2ok.at_ st2 (fun x h => by simp only [List.mem_cons, List.mem_append, h, true_or, or_true])); rw [show d2.ops = d.v.ops from congrArg DV.ops hd2] at this; exact this) rfl ?_
      (repeat (first | refine WL.want rfl rfl rfl ?_ | refine WL.step (Yl.move rfl) rfl ?_ | refine WL.step (Yl.neqF rfl rfl rfl) rfl ?_))
      refine WL.callV (g := 36) (v := .int .i64 ((wrj.adds Ts).used : Int)) Tryz.call36 rfl (fun w0 st2 => jused_v (dp := dp) (wrj.adds Ts).used w0 (s2ok.at_ st2 (fun x h => by simp only [List.mem_cons, List.mem_append, h, true_or, or_true])) hs2 rfl) rfl ?_
      (repeat (first | refine WL.want rfl rfl rfl ?_ | refine WL.step (Yl.move rfl) rfl ?_ | refine WL.step (Yl.pick_f rfl rfl rfl) rfl ?_ | refine WL.step (Yl.neqF rfl rfl rfl) rfl ?_ | refine WL.nil ?_ | refine WN.g_then ?_))
      refine WG.cond_false rfl rfl ?_
      (repeat (first | refine WL.step (Yl.move rfl) rfl ?_ | (refine WL.k_bin .add ?_; refine WL.step (Yl.add64C rfl (by omega)) rfl ?_) | refine WG.region (fun _ _ h => h) rfl ?_ | refine WL.nil ?_ | refine WN.g_then ?_ | refine WG.skip ?_ | refine WG.exit ?_ | refine WN.g_exit ?_ | refine WN.g_bhere ?_))
      refine WN.drops (D := HA.blk b8 (.cells #[.slice t.a t.nos.length t.c, bv t.fill] 25 (0, 0)) :: HA.row pa pc 106 2 (pgs L) :: (ZL ++ bankItems bk1 da1 cap1 mb1 d.d M1 c1)) (B := mA Ds ++ (HA.blk b2 (.cells #[.bool false] 4 (0, 0)) :: (jI dp.bd p s2 ++ drI dp d2))) (permU (by intros; simp only [List.count_append, List.count_cons, List.count_nil]; omega)) ?_
      exact WN.gnextM (i + 1, Ts, d2, s2, Ds) ⟨by simp only; omega, d2ok, by simp only; rw [hd2]; exact hk, s2ok, hs2, by simp only; rw [hd2]; omega, by simp only; rw [hd2]; exact hdl⟩ (by simp only; omega) rfl (by repeat (first | exact Sub.nil | refine Sub.cons rfl rfl ?_)) (Part.refl _)
  · (repeat (first | refine WG.seq ?_ | refine WG.region (fun _ _ h => h) rfl ?_ | refine WN.g_then ?_ | refine WG.exit ?_ | refine WN.g_exit ?_ | refine WN.g_bhere ?_))
    refine WL.part (Part.perm (show List.Perm _ (HA.blk b2 (.cells #[.bool false] 4 (0, 0)) :: (mA Ds ++ (jI dp.bd p s ++ drI dp d))) from (permU (by intros; simp only [List.count_append, List.count_cons, List.count_nil]; omega)))) ?_
    refine WL.callV (g := 23) (v := .bool true) Tryz.call23 rfl (fun w0 st2 => works35_c w0 (hT.keep st2.kept)) rfl ?_
    refine WL.storeAt (T := 4) Tryz.sizeOf4 rfl rfl rfl .here rfl ?_
    simp only [List.setIfInBounds_toArray, List.set_cons_zero]
    (repeat (first | refine WL.nil ?_ | refine WN.g_then ?_ | refine WG.ret ?_))
    refine WN.drops (D := []) (B := mA Ds ++ (HA.blk b2 (.cells #[.bool true] 4 (0, 0)) :: (jI dp.bd p s ++ drI dp d))) (permU (by intros; simp only [List.count_append, List.count_cons, List.count_nil]; omega)) ?_
    exact WN.ret1CMs Ds (b := b2) (T := 4) (T' := 4) (fr := (0, 0)) (cs := #[.bool true]) rfl Tryz.isAgg4 rfl (.head _) rfl ⟨rfl, rfl⟩ .nil
end Go.Proofs.YtbkdjfgkebkknaaGreatDoor
namespace Go.Proofs.YtbkdjfgkebkknaaGreatDoor
set_option linter.unusedVariables false
set_option linter.unusedSimpArgs false
open Go Go.RowKit
theorem good {w w' : World} {e : Ending} (h : Gives (Val (.bool true)) w e w') : e = .returned (.bool true) ∧ Below w.heap.size w w' := by
  obtain ⟨v, B, rfl, ⟨rfl, rfl⟩, s⟩ := h
  exact ⟨rfl, s.below⟩
theorem wf_u8 {n : Int} (h : (Lit.int .u8 n).wf = true) : 0 ≤ n ∧ n < 256 := by
  simp [Lit.wf, IntKind.min, IntKind.max, IntKind.signed, IntKind.bits] at h; omega
theorem wf_byte {n : Int} (h : (Lit.int .u8 n).wf = true) : ∃ c : UInt8, n = (c.toNat : Int) := by
  have := wf_u8 h
  have e := UInt8.toNat_ofNat_of_lt' (show n.toNat < UInt8.size by simp only [UInt8.size]; omega)
  exact ⟨UInt8.ofNat n.toNat, by rw [e]; omega⟩
theorem bytes_in {w : World} {a : Option Addr} {len cap : Nat} {zs : List Int}
    (h : (a = none ∧ len = 0 ∧ cap = 0 ∧ zs = []) ∨ ∃ x, a = some x ∧ len ≤ cap ∧ cap ≤ maxLen ∧ zs.length = cap ∧ (∀ i, i < zs.length → w.cell? (x.add i) = some (.int .u8 (zs.getD i 0))) ∧ ∀ n ∈ zs, (Lit.int .u8 n).wf = true) :
    ∃ l : List UInt8, l.length = len ∧ len ≤ cap ∧ cap ≤ 9223372036854775807 ∧ CellsAt w a (bs l) := by
  rcases h with ⟨rfl, rfl, rfl, rfl⟩ | ⟨x, rfl, hl, hm, hz, hc, hw⟩
  · exact ⟨[], rfl, Nat.le_refl _, by omega, .nil _ _⟩
  · refine ⟨(zs.take len).map fun n => UInt8.ofNat n.toNat, by simp; omega, hl, by simpa [maxLen] using hm, ?_⟩
    by_cases h0 : len = 0
    · subst h0; exact .inl (by simp [bs])
    · have hx := hc 0 (by rw [hz]; omega)
      obtain ⟨b, off, spot⟩ := x
      have hspot : spot = none := by simpa [Addr.add] using World.cell?_spot hx
      subst hspot
      refine .inr ⟨b, off, rfl, fun i v hv => ?_⟩
      have hi : i < len := by
        have := (List.getElem?_eq_some_iff.1 hv).1
        simp [bs] at this; omega
      have hiz : i < zs.length := by rw [hz]; omega
      have hci := hc i hiz
      have ea : (⟨b, off, none⟩ : Addr).add i = ⟨b, off + i, none⟩ := by unfold Addr.add; split <;> simp_all
      rw [ea] at hci
      rw [hci, ← hv]
      have hwf := wf_u8 (hw zs[i] (List.getElem_mem hiz))
      simp only [bs, List.map_map, List.getElem?_map, List.getElem?_take, hi, if_true, List.getElem?_eq_getElem hiz, Option.map_some, Function.comp, bv, List.getD_eq_getElem?_getD, Option.getD_some]
      have e := UInt8.toNat_ofNat_of_lt' (show zs[i].toNat < UInt8.size by simp only [UInt8.size]; omega)
      rw [e]
      congr 2; omega
def Deep (w : World) (a : Option Addr) (n : Nat) (vs : List Value) : Prop :=
  vs.length = n ∧ n ≤ 9223372036854775807 ∧ CellsAt w a vs ∧ ∀ (i : Nat) (v : Value), vs[i]? = some v → ∃ (b : Option Addr) (m c : Nat) (l : List UInt8), v = Value.slice b m c ∧ l.length = m ∧ m ≤ c ∧ c ≤ 9223372036854775807 ∧ CellsAt w b (bs l)
end Go.Proofs.YtbkdjfgkebkknaaGreatDoor
namespace Go.Proofs.YtbkdjfgkebkknaaGreatDoor
set_option linter.unusedVariables false
set_option linter.unusedSimpArgs false
open Go Go.RowKit Go.ChangeShapes Go.WideShapes Go.ChangeAt
theorem arr_struct_int {H : Type} {enc : TypeId × Value → H} {P : Program} {w : World} {base : Nat} {sp : Nat → Bool} {held : Bool} {fuel : Nat} {t e : TypeId} {n : Nat} {fs : Array Field} {cs : List Value} {ds : List (DataW H)} {p : List MemPlace}
    (ht : P.underlying t = some (.array n e)) (he : P.underlying e = some (.struct fs)) (h : DataW.trod enc P w base sp held fuel t cs = some (.agg ds, p)) (i j : Nat) {rs : List (DataW H)} {fd : Field} {z : Int} {k : Nat} (hk : P.cellsOf e = k)
    (hin : i < n) (hi : ds[i]? = some (.agg rs)) (hf : fs[j]? = some fd) (hj : rs[j]? = some (.lit (.int .i64 z))) (hu : P.underlying fd.type = some (.int .i64)) (hc : P.cellsOf fd.type = 1) (hofs : fd.offset < k) : cs[i * k + fd.offset]? = some (.int .i64 z) := by
  subst hk
  obtain ⟨xs, m, _, hx, _, hn, hel⟩ := DataW.trod_array ht h
  have hlt : i < xs.length := by omega
  have h1 := hel i hin
  rw [List.getElem?_eq_getElem hlt] at h1
  have hds : (xs[i]).1 = .agg rs := by
    have : ds = xs.map (·.1) := by have := congrArg (fun q : DataW H × List MemPlace => match q.1 with | .agg l => l | _ => []) hx; exact this
    rw [this, List.getElem?_map, List.getElem?_eq_getElem hlt] at hi
    exact Option.some.inj hi
  obtain ⟨ys, m2, _, hy, _, hny, hf2⟩ := DataW.trod_struct he h1
  have h2 := hf2 j fd hf
  have hjl : j < ys.length := by
    rw [hny]; exact (Array.getElem?_eq_some_iff.1 hf).1
  rw [List.getElem?_eq_getElem hjl] at h2
  have hrs : (ys[j]).1 = .lit (.int .i64 z) := by
    have h3 := congrArg (fun q : DataW H × List MemPlace => q.1) hy
    simp only at h3
    rw [hds] at h3
    have h4 : rs = ys.map (·.1) := by injection h3
    rw [h4, List.getElem?_map, List.getElem?_eq_getElem hjl] at hj
    exact Option.some.inj hj
  obtain ⟨z', hcs, hz, _⟩ := DataW.trod_int hu h2
  have hz' : z' = z := by
    have h3 := congrArg (fun q : DataW H × List MemPlace => q.1) hz
    simp only at h3
    rw [hrs] at h3
    injection h3 with h3; injection h3 with _ h3; exact h3.symm
  subst hz'
  rw [hc] at hcs
  have h5 := congrArg (fun l : List Value => l[0]?) hcs
  simp only [List.getElem?_cons_zero, List.getElem?_take, List.getElem?_drop, Nat.add_zero] at h5
  rw [if_pos (by decide), if_pos hofs] at h5
  exact h5
theorem gKinds : Tryz.prog.globalNamed "tempo/frame.kinds" = some 0 := by kernel_rfl
theorem tKinds : (Tryz.prog.globals[0]?).map (·.type) = some 212 := by kernel_rfl
theorem cKind : Tryz.prog.cellsOf 211 = 5 := by kernel_rfl
theorem cInt : Tryz.prog.cellsOf 3 = 1 := by kernel_rfl
abbrev laidKinds : List (String × DataW Unit) := [("tempo/frame.kinds", Rows.laid_tempo_frame_kinds)]
theorem tab_of {W : World} (h : laidMetH Tryz.prog laidKinds W) : Tab W := by
  rw [MakeChecks.laidMetH_plain _ _ _ (by kernel_rfl)] at h
  obtain ⟨ps, ⟨g0, t0, cs0, f0, p0, q0, hg0, ht0, hv0, hd0, _⟩, _, _⟩ := h
  obtain rfl := Option.some.inj (gKinds.symm.trans hg0)
  obtain rfl := Option.some.inj (tKinds.symm.trans ht0)
  unfold Rows.laid_tempo_frame_kinds at hd0
  have key := fun i j {rs fd z} => arr_struct_int (rs := rs) (fd := fd) (z := z) Tryz.underlying212 Tryz.underlying211 hd0 i j cKind
  refine .inr ⟨0, 0, rfl, fun k v hk => ?_⟩
  rw [Nat.zero_add, World.var?_cell hg0 hv0]
  have hc : ∀ (i j : Nat) (z : Int), cs0.toList[i * 5 + j]? = some (.int .i64 z) → tabCells[i * 5 + j]? = some (.int .i64 z) → k = i * 5 + j → cs0[k]? = some v := fun i j z h1 h2 e => by
    subst e
    rw [h2] at hk
    obtain rfl := Option.some.inj hk
    simpa using h1
  have hlen : k < 15 := by
    have := (List.getElem?_eq_some_iff.1 hk).1
    exact this
  rcases (show k = 0 ∨ k = 1 ∨ k = 2 ∨ k = 3 ∨ k = 4 ∨ k = 5 ∨ k = 6 ∨ k = 7 ∨ k = 8 ∨ k = 9 ∨ k = 10 ∨ k = 11 ∨ k = 12 ∨ k = 13 ∨ k = 14 by omega) with e | e | e | e | e | e | e | e | e | e | e | e | e | e | e
  · exact hc 0 0 _ (key 0 0 (by decide) rfl rfl rfl Tryz.underlying3 cInt (by decide)) rfl e
  · exact hc 0 1 _ (key 0 1 (by decide) rfl rfl rfl Tryz.underlying3 cInt (by decide)) rfl e
  · exact hc 0 2 _ (key 0 2 (by decide) rfl rfl rfl Tryz.underlying3 cInt (by decide)) rfl e
  · exact hc 0 3 _ (key 0 3 (by decide) rfl rfl rfl Tryz.underlying3 cInt (by decide)) rfl e
  · exact hc 0 4 _ (key 0 4 (by decide) rfl rfl rfl Tryz.underlying3 cInt (by decide)) rfl e
  · exact hc 1 0 _ (key 1 0 (by decide) rfl rfl rfl Tryz.underlying3 cInt (by decide)) rfl e
  · exact hc 1 1 _ (key 1 1 (by decide) rfl rfl rfl Tryz.underlying3 cInt (by decide)) rfl e
  · exact hc 1 2 _ (key 1 2 (by decide) rfl rfl rfl Tryz.underlying3 cInt (by decide)) rfl e
  · exact hc 1 3 _ (key 1 3 (by decide) rfl rfl rfl Tryz.underlying3 cInt (by decide)) rfl e
  · exact hc 1 4 _ (key 1 4 (by decide) rfl rfl rfl Tryz.underlying3 cInt (by decide)) rfl e
  · exact hc 2 0 _ (key 2 0 (by decide) rfl rfl rfl Tryz.underlying3 cInt (by decide)) rfl e
  · exact hc 2 1 _ (key 2 1 (by decide) rfl rfl rfl Tryz.underlying3 cInt (by decide)) rfl e
  · exact hc 2 2 _ (key 2 2 (by decide) rfl rfl rfl Tryz.underlying3 cInt (by decide)) rfl e
  · exact hc 2 3 _ (key 2 3 (by decide) rfl rfl rfl Tryz.underlying3 cInt (by decide)) rfl e
  · exact hc 2 4 _ (key 2 4 (by decide) rfl rfl rfl Tryz.underlying3 cInt (by decide)) rfl e
theorem door_met (os : Os) (args : Array Value) : laidMetH Tryz.prog laidKinds ((World.doorLaid Tryz.prog 400 os).forCall (fun _ _ => 0) ⟨#[], args, []⟩).memory :=
  laidMetH_of_parts3 (fuel := 8) (laidMet_of_run' 8 (by kernel_rfl) (by kernel_rfl)) (by kernel_rfl) (by kernel_rfl)
end Go.Proofs.YtbkdjfgkebkknaaGreatDoor
namespace Go.Proofs.YtbkdjfgkebkknaaGreatDoor
set_option linter.unusedVariables false
set_option linter.unusedSimpArgs false
open Go Go.RowKit Go.ChangeShapes Go.WideShapes Go.ChangeAt
set_option maxRecDepth 100000
section
variable {H : Type} {enc : TypeId × Value → H} {W : World} {base : Nat} {held : Bool} {m : Nat} {x : DataW H × List MemPlace}
theorem bytes_of {v : Value} (h : DataW.trod enc Tryz.prog W base (fun _ => true) held m 23 [v] = some x) : ∃ (a : Option Addr) (c : Nat) (l : List UInt8), v = .slice a l.length c ∧ l.length ≤ c ∧ c ≤ 9223372036854775807 ∧ CellsAt W a (bs l) := by
  rcases open_ints Tryz.underlying23 Tryz.underlying5 (by kernel_rfl) h with ⟨hcs, _⟩ | ⟨b, l, c, zs, hcs, _, hl, hm, hz, _, hcell, hwz⟩
  · obtain rfl : v = .slice none 0 0 := by injection hcs
    exact ⟨none, 0, [], rfl, Nat.le_refl _, by decide, .inl rfl⟩
  · obtain rfl : v = .slice (some b) l c := by injection hcs
    obtain ⟨l', h1, h2, h3, h4⟩ := bytes_in (w := W) (a := some b) (len := l) (cap := c) (zs := zs) (.inr ⟨_, rfl, hl, hm, by simpa using hz, hcell, hwz⟩)
    subst h1
    exact ⟨some b, c, l', rfl, h2, h3, h4⟩
theorem trans_in {cs : List Value} (h : DataW.trod enc Tryz.prog W base (fun _ => true) held m 25 cs = some x) : ∃ t : Tr, cs = t.cs ∧ t.Ok W := by
  obtain ⟨xs, k, _, _, hsz, hxs, hf⟩ := DataW.trod_struct Tryz.underlying25 h
  have hl2 : cs.length = 2 := by rw [hsz]; kernel_rfl
  match cs, hl2, xs, hxs, hf with
  | [v0, v1], _, [x0, x1], _, hf =>
    have f0 := hf 0 _ rfl
    have f1 := hf 1 _ rfl
    obtain ⟨a, c, l, rfl, h1, h2, h3⟩ := bytes_of (show DataW.trod enc Tryz.prog W base _ held k 23 [v0] = some x0 from f0)
    obtain ⟨z, e1, _, w1⟩ := DataW.trod_int Tryz.underlying5 (show DataW.trod enc Tryz.prog W base _ held k 5 [v1] = some x1 from f1)
    obtain rfl : v1 = .int .u8 z := by injection e1
    obtain ⟨y, rfl⟩ := wf_byte w1
    exact ⟨⟨a, c, l, y⟩, rfl, h1, h2, h3⟩
theorem transes_in {a : Option Addr} {n cap : Nat} (h : DataW.trod enc Tryz.prog W base (fun _ => true) held m 22 [.slice a n cap] = some x) :
    ∃ X : List Tr, X.length = n ∧ n ≤ cap ∧ cap ≤ 9223372036854775807 ∧ CellsAt W a (trs X) ∧ ∀ t ∈ X, t.Ok W := by
  rcases DataW.trod_slice Tryz.underlying22 h with ⟨hcs, _⟩ | ⟨b, len, cap', elems, rest, k, _, hcs, _, _, hl, hm, hlen, hel, _, _⟩
  · injection hcs with e1
    injection e1 with e1 e2 e3
    subst e1 e2 e3
    exact ⟨[], rfl, Nat.le_refl _, by decide, .inl rfl, fun t ht => by cases ht⟩
  · injection hcs with e1
    injection e1 with e1 e2 e3
    subst e1 e2 e3
    have hc2 : Tryz.prog.cellsOf 25 = 2 := by kernel_rfl
    have key : ∀ i : Nat, ∃ t : Tr, i < n → t.Ok W ∧ W.cells? base (b.add (i * 2)) 2 = some t.cs := fun i => by
      by_cases hi : i < n
      · have h1 := hel i hi
        rw [hc2, List.getElem?_eq_getElem (by omega), Option.bind_eq_some_iff] at h1
        obtain ⟨cs', h2, h3⟩ := h1
        obtain ⟨t, rfl, ht⟩ := trans_in h3
        exact ⟨t, fun _ => ⟨ht, h2⟩⟩
      · exact ⟨⟨none, 0, [], 0⟩, fun h => absurd h hi⟩
    obtain ⟨f, hf⟩ := Classical.axiomOfChoice key
    refine ⟨(List.range n).map f, by simp, hl, by simpa [maxLen] using hm, ?_, fun t ht => ?_⟩
    · by_cases h0 : n = 0
      · subst h0; exact .inl rfl
      obtain ⟨_, _, hat⟩ := World.cells?_some (hf 0 (by omega)).2
      have hx := (hat 0 (by decide)).trans (show (f 0).cs[0]? = some (.slice (f 0).a (f 0).nos.length (f 0).c) from rfl)
      obtain ⟨b, off, spot⟩ := b
      have hspot : spot = none := by simpa [Addr.add] using World.cell?_spot hx
      subst hspot
      refine .inr ⟨b, off, rfl, fun i v hv => ?_⟩
      have hln : (trs ((List.range n).map f)).length = n * 2 := by
        have := flatM_len (f := Tr.cs) (k := 2) (fun _ => rfl) ((List.range n).map f)
        rw [List.length_map, List.length_range] at this
        exact this
      have hi := (List.getElem?_eq_some_iff.1 hv).1
      rw [hln] at hi
      have hq : i / 2 < n := by omega
      have hX : ((List.range n).map f)[i / 2]? = some (f (i / 2)) := by rw [List.getElem?_map, List.getElem?_range hq]; rfl
      obtain ⟨_, _, hat2⟩ := World.cells?_some (hf (i / 2) hq).2
      have e2 := hat2 (i % 2) (Nat.mod_lt _ (by decide))
      have e3 : (f (i / 2)).cs[i % 2]? = some v := by
        rw [← tr_at hX, List.getElem?_take_of_lt (show i % 2 < (f (i / 2)).cs.length from Nat.mod_lt _ (by decide)), List.getElem?_drop, ← hv]
        congr 1; omega
      rw [e3] at e2
      have ea : ∀ x y : Nat, (⟨b, x, none⟩ : Addr).add y = ⟨b, x + y, none⟩ := fun x y => by unfold Addr.add; split <;> simp_all
      rw [ea, ea] at e2
      rw [← e2]
      congr 2; omega
    · obtain ⟨i, hi, rfl⟩ := List.mem_map.1 ht
      exact (hf i (List.mem_range.1 hi)).1
end
end Go.Proofs.YtbkdjfgkebkknaaGreatDoor
