import Derived.Test.YtbkdjfgkebkknaaGreatDoorRowJournalRefusesMg24
import Derived.Test.YtbkdjfgkebkknaaGreatDoorRowJournalRefusesMg7
import Derived.Test.YtbkdjfgkebkknaaGreatDoorRowJournalRefusesMg10
namespace Go.Proofs.YtbkdjfgkebkknaaGreatDoor
set_option linter.unusedVariables false
set_option linter.unusedSimpArgs false
open Go Go.RowKit
set_option maxRecDepth 100000
set_option maxHeartbeats 16000000
def rj : JV := JV.new 0 30 1
def rT (b : Option Addr) : List Pg := [⟨1, ⟨b, 512, List.replicate 512 1⟩⟩]
theorem rT_ok (b : Option Addr) : pchk (rT b) = 0 := by simp [rT, pchk, pchkF]
theorem rT_cs (b : Option Addr) : flat [Value.agg #[.int .i64 1, .slice b 512 512]] = pgs (rT b) := by
  simp only [pgs, rT, List.flatMap_cons, List.flatMap_nil, Pg.cs, Sl.v, List.length_replicate]; rfl
def InR (Z : List HA) (s : Sl) : Prop := ∃ c T, HA.row s.a c T 1 (bs s.l) ∈ Z
theorem InR.mono {Z Z' : List HA} {s : Sl} (h : InR Z s) (hz : ∀ x ∈ Z, x ∈ Z') : InR Z' s := by obtain ⟨c, T, hm⟩ := h; exact ⟨c, T, hz _ hm⟩
theorem InR.out {w0 w : World} {S : List Nat} {A A0 B Z : List HA} {s : Sl} (h : InR Z s) (hz : ∀ x ∈ Z, x ∈ B) (st : St w0 S A w) (hp : A.Perm (A0 ++ B)) : CellsOut w (A0.filterMap HA.foot) s.a (bs s.l) := by obtain ⟨c, T, hm⟩ := h; exact row_out st hp (hz _ hm)
def onb (k : Nat) : Int × List UInt8 := ((k : Int), List.replicate 512 2)
def oP (k : Nat) : Pg := ⟨(k : Int), ⟨none, 512, List.replicate 512 2⟩⟩
theorem ones_nb (n : Nat) : ((List.range n).map oP).map Pg.nb = (List.range n).map onb := by rw [List.map_map]; rfl
theorem ones_ok {L : List Pg} (h : L.map Pg.nb = (List.range 6).map onb) : pchk L = 0 := by
  rw [pchk_nb (h.trans (ones_nb 6).symm)]; decide +kernel
theorem ones_late {L : List Pg} {a : Option Addr} (h : L.map Pg.nb = (List.range 6).map onb) : pchk (L ++ [⟨5, ⟨a, 512, List.replicate 512 2⟩⟩]) ≠ 0 := by
  rw [pchk_nb (M := (List.range 6).map oP ++ [oP 5]) (by rw [List.map_append, List.map_append, h, ones_nb]; rfl)]; decide +kernel
theorem ones_one {L : List Pg} (h : L.map Pg.nb = (List.range 6).map onb) : pchk (L.take 1) = 0 := by
  rw [pchk_nb (M := ((List.range 6).map oP).take 1) (by rw [List.map_take, List.map_take, h, ones_nb])]; decide +kernel
attribute [local irreducible] WL WC WN Yl WH WQ WT WE WU WG WV
theorem lref5_c (t : Tr) (what : UInt8) (far : Nat) (w : World) (hT : Tab w) (hfar : far < 65536) (ht : t.Ok w) : Calls Tryz.prog 9 #[t.v, .int .u8 (what.toNat : Int), .int .u16 (far : Int)] w (Gives (Val (.bool true)) w) := by
  refine enter (args := [.agg #[.slice t.a t.nos.length t.c, bv t.fill], _, _]) Tryz.func9 Tryz.ntmps9 rfl rfl ?_
  (repeat (first | refine WC.seq ?_ | refine WC.region ?_))
  refine WL.boxA rfl rfl fun b3 => ?_
  (repeat (first | refine WL.step (Yl.assign rfl) rfl ?_ | refine WC.seq ?_ | refine WC.region ?_ | refine WL.nil ?_ | refine WN.then_normal ?_))
  refine WL.call (g := 11) Tryz.call11 rfl (fun w0 st2 => dnew_c 30 w0 (by decide) (by decide)) rfl fun v1 B1 hv1 => ?_
  obtain ⟨dp, d0, d0ok, hd0, rfl, rfl⟩ := hv1
  refine WL.part (Part.perm (show List.Perm _ (HA.blk b3 (.cells #[.slice t.a t.nos.length t.c, bv t.fill] 25 (0, 0)) :: drI dp d0) from (permU (by intros; simp only [List.count_append, List.count_cons, List.count_nil]; omega)))) ?_
  have hd0 : d0.v = zeroV 30 := hd0
  have hwf0 : BkWf (zeroV 30).d (zeroV 30).F := by rw [← hd0]; exact wf_v d0ok
  have hl0 : (zeroV 30).d.length = 30 := List.length_replicate
  (repeat (first | refine WL.step (Yl.move rfl) rfl ?_ | refine WL.step (Yl.assign rfl) rfl ?_ | refine WL.step (Yl.extract rfl rfl) rfl ?_ | refine WC.seq ?_ | refine WC.region ?_ | refine WL.nil ?_ | refine WN.then_normal ?_))
  refine WL.call (g := 12) Tryz.call12 rfl (fun w0 st2 => jnew_v 0 30 1 w0 (d0ok.at_ st2 (fun x h => by simp only [List.mem_cons, List.mem_append, h, true_or, or_true])) hd0 (by decide) (by decide) (by rw [hl0]; decide)) rfl fun v1 B1 hv1 => ?_
  obtain ⟨p, s0, s0ok, hs0, rfl, rfl⟩ := hv1
  refine WL.part (Part.perm (show List.Perm _ (HA.blk b3 (.cells #[.slice t.a t.nos.length t.c, bv t.fill] 25 (0, 0)) :: (drI dp d0 ++ jI dp.bd p s0)) from (permU (by intros; simp only [List.count_append, List.count_cons, List.count_nil]; omega)))) ?_
  have hs0 : s0.v = rj := hs0
  have k0 : Jok (zeroV 30) rj [] := jok_new ⟨rfl, rfl⟩ hwf0 (by rw [hl0]; decide) (by decide) (by decide) (zeroV_clean (by decide) (by decide))
  (repeat (first | refine WL.want rfl rfl rfl ?_ | refine WL.step (Yl.move rfl) rfl ?_ | refine WL.step (Yl.assign rfl) rfl ?_ | refine WL.step (Yl.extract rfl rfl) rfl ?_ | refine WL.step (Yl.pick_f rfl rfl rfl) rfl ?_ | refine WL.step (Yl.neqF rfl rfl rfl) rfl ?_ | refine WC.seq ?_ | refine WC.region ?_ | refine WL.nil ?_ | refine WN.then_normal ?_))
  refine WL.call (g := 53) Tryz.call53 rfl (fun w0 st2 => full_w 1 w0) rfl fun v1 B1 hv1 => ?_
  obtain ⟨a1, c1, hc1, rfl, rfl⟩ := hv1
  refine WL.part (Part.perm (show List.Perm _ (HA.blk b3 (.cells #[.slice t.a t.nos.length t.c, bv t.fill] 25 (0, 0)) :: (drI dp d0 ++ (jI dp.bd p s0 ++ ([HA.row a1 c1 5 1 (bs (List.replicate 512 1))])))) from (permU (by intros; simp only [List.count_append, List.count_cons, List.count_nil]; omega)))) ?_
  (repeat (first | refine WL.want rfl rfl rfl ?_ | refine WL.step (Yl.build (ps := [(0, .const (.int .i64 1)), (1, .tmp 43)]) (vs := [(0, .int .i64 1), (1, .slice a1 512 512)]) rfl (buildPg _ _ _ _)) rfl ?_))
  refine WL.lit (t := 37) (vs := [.agg #[.int .i64 1, .slice a1 512 512]]) Tryz.underlying37 elemPg rfl rfl rfl (fun u hu => by simp at hu; rcases hu with rfl; rfl) rfl fun b4 => ?_
  rw [rT_cs]
  refine WL.part (Part.perm (show List.Perm _ (HA.blk b3 (.cells #[.slice t.a t.nos.length t.c, bv t.fill] 25 (0, 0)) :: (drI dp d0 ++ (jI dp.bd p s0 ++ (HA.row a1 c1 5 1 (bs (List.replicate 512 1)) :: [HA.row (some ⟨b4, 0, none⟩) 1 106 2 (pgs (rT a1))])))) from (permU (by intros; simp only [List.count_append, List.count_cons, List.count_nil]; omega)))) ?_
  obtain ⟨v1, e1, k1, l1, o1, r1, _⟩ := k0.append (rT_ok a1) (by show 0 + 5 * 1 + 1 ≤ 30; decide)
  have e1 : japp (zeroV 30) rj (rT a1) = (v1, rj.adds [rT a1], 0) := e1
  have k1 : Jok v1 rj [rT a1] := k1
  have r1 : v1.rd = 0 := r1
  have o1 : v1.ops = 7 := o1
  have l1 : v1.d.length = 30 := l1.trans hl0
  (repeat (first | refine WL.want rfl rfl rfl ?_))
  have hp : List.Perm (HA.blk b3 (.cells #[.slice t.a t.nos.length t.c, bv t.fill] 25 (0, 0)) :: (drI dp d0 ++ (jI dp.bd p s0 ++ (HA.row a1 c1 5 1 (bs (List.replicate 512 1)) :: [HA.row (some ⟨b4, 0, none⟩) 1 106 2 (pgs (rT a1))])))) ((jI dp.bd p s0 ++ drI dp d0) ++ (HA.blk b3 (.cells #[.slice t.a t.nos.length t.c, bv t.fill] 25 (0, 0)) :: HA.row a1 c1 5 1 (bs (List.replicate 512 1)) :: [HA.row (some ⟨b4, 0, none⟩) 1 106 2 (pgs (rT a1))])) := (permU (by intros; simp only [List.count_append, List.count_cons, List.count_nil]; omega))
  refine WL.callS (g := 16) (A0 := jI dp.bd p s0 ++ drI dp d0) (B := HA.blk b3 (.cells #[.slice t.a t.nos.length t.c, bv t.fill] 25 (0, 0)) :: HA.row a1 c1 5 1 (bs (List.replicate 512 1)) :: [HA.row (some ⟨b4, 0, none⟩) 1 106 2 (pgs (rT a1))]) (vs := [bptr p.bj, .slice (some ⟨b4, 0, none⟩) 1 1]) (R := JAppV dp p (v1, rj.adds [rT a1], 0)) Tryz.call16 rfl hp (fun w0 st2 st1 => jappend_v (some ⟨b4, 0, none⟩) 1 1 (rT a1) w0 _ d0ok hd0 s0ok hs0 e1 (by decide) rfl (by decide) (row_out st2 hp (show HA.row (some ⟨b4, 0, none⟩) 1 106 2 (pgs (rT a1)) ∈ _ by simp only [List.mem_cons, List.mem_append, true_or, or_true])) (fun q hq => by simp only [rT, List.mem_cons, List.not_mem_nil, or_false] at hq; subst hq; exact row_out st2 hp (show HA.row a1 c1 5 1 (bs (List.replicate 512 1)) ∈ _ by simp only [List.mem_cons, List.mem_append, true_or, or_true])) (old_out st2 hp hT.o) st1) rfl fun v C hv => ?_
  clear hp
  obtain ⟨rfl, d1, s1, d1ok, hd1, s1ok, hs1, rfl⟩ := hv
  simp only at hd1 hs1
  refine WL.part (Part.perm (show List.Perm _ (HA.blk b3 (.cells #[.slice t.a t.nos.length t.c, bv t.fill] 25 (0, 0)) :: (drI dp d1 ++ (jI dp.bd p s1 ++ (HA.row a1 c1 5 1 (bs (List.replicate 512 1)) :: [HA.row (some ⟨b4, 0, none⟩) 1 106 2 (pgs (rT a1))])))) from (permU (by intros; simp only [List.count_append, List.count_cons, List.count_nil]; omega)))) ?_
  refine WL.drops (D := HA.row a1 c1 5 1 (bs (List.replicate 512 1)) :: [HA.row (some ⟨b4, 0, none⟩) 1 106 2 (pgs (rT a1))]) (B := HA.blk b3 (.cells #[.slice t.a t.nos.length t.c, bv t.fill] 25 (0, 0)) :: (drI dp d1 ++ jI dp.bd p s1)) (permU (by intros; simp only [List.count_append, List.count_cons, List.count_nil]; omega)) ?_
  (repeat (first | refine WL.want rfl rfl rfl ?_ | refine WL.step (Yl.pick_f rfl rfl rfl) rfl ?_ | refine WL.step (Yl.neqF rfl rfl rfl) rfl ?_ | refine WL.nil ?_ | refine WN.then_normal ?_))
  refine WC.cond_false rfl rfl ?_
  (repeat (first | (refine WL.k_load ?_; refine WL.step (Yl.loadAll (T := 25) (T' := 25) Tryz.isAgg25 Tryz.sizeOf25 rfl (by repeat (first | exact .head _ | refine .tail _ ?_)) rfl) rfl ?_) | refine WC.seq ?_ | refine WC.region ?_ | refine WN.then_normal ?_ | refine WC.skip ?_))
  refine WL.call (g := 14) Tryz.call14 rfl (fun w0 st2 => tpages_c t w0 (ht.keep st2.kept)) rfl fun v1 B1 hv1 => ?_
  obtain ⟨pa, pc, L, ZL, hpc, hLT, hLZ, rfl, rfl⟩ := hv1
  refine WL.part (Part.perm (show List.Perm _ (HA.blk b3 (.cells #[.slice t.a t.nos.length t.c, bv t.fill] 25 (0, 0)) :: (drI dp d1 ++ (jI dp.bd p s1 ++ (HA.row pa pc 106 2 (pgs L) :: ZL)))) from (permU (by intros; simp only [List.count_append, List.count_cons, List.count_nil]; omega)))) ?_
  obtain ⟨hpk, hLl⟩ := tp_ok hLT
  have hL4 : L.length ≤ 4 := by rw [hLl]; exact nosD_len _
  have hL0 : 1 ≤ L.length := List.length_pos_iff.2 (pchk_ok hpk).1
  (repeat (first | refine WL.step (Yl.move rfl) rfl ?_ | refine WL.step (Yl.assign rfl) rfl ?_ | (refine WL.k_conv ?_; refine WL.step (Yl.conv64 (m := far) Tryz.underlying86 Tryz.underlying3 rfl (by omega)) rfl ?_) | refine WL.step (Yl.len (t := 37) Tryz.underlying37 rfl) rfl ?_ | (refine WL.k_bin .sub ?_; refine WL.step (Yl.sub64C (m := L.length) rfl (by omega) (by omega)) rfl ?_) | (refine WL.k_bin .rem ?_; refine WL.step (Yl.remC (m := what.toNat) rfl (by decide)) rfl ?_) | refine WL.step (Yl.eql rfl rfl) rfl ?_ | refine WC.seq ?_ | refine WC.region ?_ | refine WL.nil ?_ | refine WN.then_normal ?_ | refine WC.block ?_))
  obtain ⟨q0, hq0⟩ : ∃ q, L[0]? = some q := ⟨L[0]'(by omega), List.getElem?_eq_getElem (by omega)⟩
  obtain ⟨qk, hqk⟩ : ∃ q, L[L.length - 1]? = some q := ⟨L[L.length - 1]'(by omega), List.getElem?_eq_getElem (by omega)⟩
  have hqkm := List.mem_of_getElem? hqk
  refine WC.perm (show List.Perm _ (HA.row (pa) pc 106 2 (pgs L) :: HA.blk b3 (.cells #[.slice t.a t.nos.length t.c, bv t.fill] 25 (0, 0)) :: (ZL ++ (jI dp.bd p s1 ++ drI dp d1))) from (permU (by intros; simp only [List.count_append, List.count_cons, List.count_nil]; omega))) ?_
  refine WC.joinB (α := Option Addr × Nat × List Pg × List HA) (fun g => [(7, bptr dp.bd), (9, bptr p.bj), (11, .slice g.1 g.2.2.1.length g.2.1), (12, .int .i64 (far : Int))]) (fun g => .row g.1 g.2.1 106 2 (pgs g.2.2.1) :: (g.2.2.2 ++ (jI dp.bd p s1 ++ drI dp d1)))
    (fun g => pchk g.2.2.1 ≠ 0 ∧ g.2.2.1.length ≤ 100 ∧ g.2.2.1.length ≤ g.2.1 ∧ ∀ q ∈ g.2.2.1, InF g.2.2.2 q.s) ?_ ?_
  · refine WC.ite rfl (fun c0 => ?_) (fun c0 => ?_)
    · (repeat (first | refine WL.step (Yl.move rfl) rfl ?_ | (refine WL.k_fld ?_; refine WL.step (Yl.fldEl (i := 0) (o := 0) (by kernel_rfl) (Rd.row (show HA.row (pa) pc 106 2 (pgs L) ∈ _ by simp only [List.mem_cons, List.mem_append, true_or, or_true])) (pgs_ne hq0) rfl) rfl ?_) | (refine WL.k_bin .add ?_; refine WL.step (Yl.add64N (m := 4096) (n := far) rfl rfl (by omega)) rfl ?_) | (refine WL.k_idxa ?_; refine WL.step (Yl.indexAddr (t := 37) (j := L.length - 1) Tryz.underlying37 Tryz.sizeOf106 rfl rfl (Rd.row (show HA.row (pa) pc 106 2 (pgs L) ∈ _ by simp only [List.mem_cons, List.mem_append, true_or, or_true])) (pgs_ne hq0) (by omega)) rfl ?_) | refine WC.region ?_))
      refine WL.storeRow (T := 3) (a := pa) (vs := pgs L) (i := (L.length - 1) * 2) Tryz.sizeOf3 rfl rfl rfl .here (by rw [pgs_len]; omega) ?_
      rw [pgs_set_no hqk]
      obtain ⟨L2, hL2⟩ : ∃ l, l = L.set (L.length - 1) ⟨((4096 + far : Nat) : Int), qk.s⟩ := ⟨_, rfl⟩
      rw [← hL2]
      have hl2 : L2.length = L.length := by rw [hL2, List.length_set]
      have hin : ⟨((4096 + far : Nat) : Int), qk.s⟩ ∈ L2 := by rw [hL2]; exact mem_set' (by omega)
      have g1 : pchk L2 ≠ 0 := pchk_no fun h => by have := h.high _ hin; simp only at this; omega
      have g2 : L2.length ≤ 100 := by omega
      have g3 : L2.length ≤ pc := by omega
      have g4 : ∀ q ∈ L2, InF (ZL) q.s := by rw [hL2]; exact in_set hLZ (hLZ qk hqkm)
      refine WL.drops (D := [HA.blk b3 (.cells #[.slice t.a t.nos.length t.c, bv t.fill] 25 (0, 0))]) (B := HA.row (pa) pc 106 2 (pgs L2) :: (ZL ++ (jI dp.bd p s1 ++ drI dp d1))) (permU (by intros; simp only [List.count_append, List.count_cons, List.count_nil]; omega)) ?_
      rw [← hl2]
      refine WL.nil ?_
      refine WN.block_normal ?_
      refine (WN.join (pa, pc, L2, ZL) (show pchk L2 ≠ 0 ∧ L2.length ≤ 100 ∧ L2.length ≤ pc ∧ ∀ q ∈ L2, InF (ZL) q.s from ⟨g1, g2, g3, g4⟩) (by repeat (first | exact Sub.nil | refine Sub.cons rfl rfl ?_)) (Part.refl _))
    · (repeat (first | refine WL.step (Yl.assign rfl) rfl ?_ | refine WL.step (Yl.eql rfl rfl) rfl ?_ | refine WC.seq ?_ | refine WC.region ?_ | refine WL.nil ?_ | refine WN.then_normal ?_))
      refine WC.ite rfl (fun c1 => ?_) (fun c1 => ?_)
      · (repeat (first | refine WL.step (Yl.move rfl) rfl ?_ | (refine WL.k_fld ?_; refine WL.step (Yl.fldEl (i := 0) (o := 0) (by kernel_rfl) (Rd.row (show HA.row (pa) pc 106 2 (pgs L) ∈ _ by simp only [List.mem_cons, List.mem_append, true_or, or_true])) (pgs_ne hq0) rfl) rfl ?_) | (refine WL.k_bin .sub ?_; refine WL.step (Yl.sub64 (m := -1) (n := (far : Int)) rfl rfl (by omega)) rfl ?_) | (refine WL.k_idxa ?_; refine WL.step (Yl.indexAddr (t := 37) (j := 0) Tryz.underlying37 Tryz.sizeOf106 rfl rfl (Rd.row (show HA.row (pa) pc 106 2 (pgs L) ∈ _ by simp only [List.mem_cons, List.mem_append, true_or, or_true])) (pgs_ne hq0) (by omega)) rfl ?_) | refine WC.region ?_))
        refine WL.storeRow (T := 3) (a := pa) (vs := pgs L) (i := (0) * 2) Tryz.sizeOf3 rfl rfl rfl .here (by rw [pgs_len]; omega) ?_
        rw [pgs_set_no hq0]
        obtain ⟨L2, hL2⟩ : ∃ l, l = L.set (0) ⟨-1 - (far : Int), q0.s⟩ := ⟨_, rfl⟩
        rw [← hL2]
        have hl2 : L2.length = L.length := by rw [hL2, List.length_set]
        have hin : ⟨-1 - (far : Int), q0.s⟩ ∈ L2 := by rw [hL2]; exact mem_set' (by omega)
        have g1 : pchk L2 ≠ 0 := pchk_no fun h => by have := h.low _ hin; simp only at this; omega
        have g2 : L2.length ≤ 100 := by omega
        have g3 : L2.length ≤ pc := by omega
        have g4 : ∀ q ∈ L2, InF (ZL) q.s := by rw [hL2]; exact in_set hLZ (hLZ q0 (List.mem_of_getElem? hq0))
        refine WL.drops (D := [HA.blk b3 (.cells #[.slice t.a t.nos.length t.c, bv t.fill] 25 (0, 0))]) (B := HA.row (pa) pc 106 2 (pgs L2) :: (ZL ++ (jI dp.bd p s1 ++ drI dp d1))) (permU (by intros; simp only [List.count_append, List.count_cons, List.count_nil]; omega)) ?_
        rw [← hl2]
        refine WL.nil ?_
        refine WN.block_normal ?_
        refine (WN.join (pa, pc, L2, ZL) (show pchk L2 ≠ 0 ∧ L2.length ≤ 100 ∧ L2.length ≤ pc ∧ ∀ q ∈ L2, InF (ZL) q.s from ⟨g1, g2, g3, g4⟩) (by repeat (first | exact Sub.nil | refine Sub.cons rfl rfl ?_)) (Part.refl _))
      · (repeat (first | refine WL.step (Yl.assign rfl) rfl ?_ | refine WL.step (Yl.eql rfl rfl) rfl ?_ | refine WC.seq ?_ | refine WC.region ?_ | refine WL.nil ?_ | refine WN.then_normal ?_))
        refine WC.ite rfl (fun c2 => ?_) (fun c2 => ?_)
        · (repeat (first | refine WL.step (Yl.move rfl) rfl ?_ | (refine WL.k_load ?_; refine WL.step (Yl.loadEl qk.cs Tryz.isAgg106 Tryz.sizeOf106 rfl (Rd.row (show HA.row (pa) pc 106 2 (pgs L) ∈ _ by simp only [List.mem_cons, List.mem_append, true_or, or_true])) rfl (by simp [Pg.cs]) (pg_at hqk)) rfl ?_) | (refine WL.k_idxa ?_; refine WL.step (Yl.indexAddr (t := 37) (j := L.length - 1) Tryz.underlying37 Tryz.sizeOf106 rfl rfl (Rd.row (show HA.row (pa) pc 106 2 (pgs L) ∈ _ by simp only [List.mem_cons, List.mem_append, true_or, or_true])) (pgs_ne hq0) (by omega)) rfl ?_) | refine WC.region ?_))
          refine WL.lit (t := 37) (vs := [.agg qk.cs.toArray]) Tryz.underlying37 elemPg rfl rfl rfl (fun u hu => by simp at hu; subst hu; rfl) rfl fun b6 => ?_
          rw [show flat [Value.agg qk.cs.toArray] = pgs [qk] from rfl]
          skip
          refine WL.appendRow (t := 37) (n := L.length) (m := 1) (olds := pgs L) (news := pgs [qk]) Tryz.underlying37 elemPg rfl rfl (.there .here) (pgs_len L) hpc (Rd.row (.head _)) rfl (pgs_one _) (by omega) (by simp only [maxLen]; omega) rfl fun q2 hq2 => ?_
          rw [← pgs_app]
          (repeat (first | refine WL.step (Yl.assign rfl) rfl ?_))
          obtain ⟨L2, hL2⟩ : ∃ l, l = L ++ [qk] := ⟨_, rfl⟩
          rw [← hL2]
          have hl2 : L2.length = L.length + 1 := by rw [hL2, List.length_append]; rfl
          have g1 : pchk L2 ≠ 0 := pchk_no fun h => by have := h.inc; rw [hL2, List.pairwise_append] at this; have := this.2.2 qk hqkm qk (.head _); omega
          have g2 : L2.length ≤ 100 := by omega
          have g3 : L2.length ≤ q2.2 := by omega
          have g4 : ∀ q ∈ L2, InF (ZL) q.s := by rw [hL2]; intro q hq; rcases List.mem_append.1 hq with hq | hq; exact hLZ q hq; rw [List.mem_singleton.1 hq]; exact hLZ qk hqkm
          refine WL.drops (D := [HA.row (some ⟨b6, 0, none⟩) 1 106 2 (pgs [qk]), HA.blk b3 (.cells #[.slice t.a t.nos.length t.c, bv t.fill] 25 (0, 0))]) (B := HA.row (q2.1) q2.2 106 2 (pgs L2) :: (ZL ++ (jI dp.bd p s1 ++ drI dp d1))) (permU (by intros; simp only [List.count_append, List.count_cons, List.count_nil]; omega)) ?_
          rw [← hl2]
          refine WL.nil ?_
          refine WN.block_normal ?_
          refine (WN.join (q2.1, q2.2, L2, ZL) (show pchk L2 ≠ 0 ∧ L2.length ≤ 100 ∧ L2.length ≤ q2.2 ∧ ∀ q ∈ L2, InF (ZL) q.s from ⟨g1, g2, g3, g4⟩) (by repeat (first | exact Sub.nil | refine Sub.cons rfl rfl ?_)) (Part.refl _))
        · (repeat (first | refine WL.step (Yl.assign rfl) rfl ?_ | refine WL.step (Yl.eql rfl rfl) rfl ?_ | refine WC.seq ?_ | refine WC.region ?_ | refine WL.nil ?_ | refine WN.then_normal ?_))
          refine WC.ite rfl (fun c3 => ?_) (fun c3 => ?_)
          · (repeat (first | refine WL.step (Yl.move rfl) rfl ?_ | (refine WL.k_bin .rem ?_; refine WL.step (Yl.remC (m := far) rfl (by decide)) rfl ?_) | (refine WL.k_bin .add ?_; refine WL.step (Yl.add64N (m := 513) (n := far % 100) rfl rfl (by omega)) rfl ?_) | refine WC.region ?_))
            refine WL.make (t := 23) (m := 513 + far % 100) (n := 513 + far % 100) Tryz.underlying23 elemU8 rfl rfl rfl (Nat.le_refl _) (by omega) (by simp only [maxLen]; omega) rfl fun b7 => ?_
            rw [show List.replicate (513 + far % 100) (Value.int .u8 0) = bs (List.replicate (513 + far % 100) 0) by simp [bs, bv], show Value.slice (some ⟨b7, 0, none⟩) (513 + far % 100) (513 + far % 100) = Sl.v ⟨some ⟨b7, 0, none⟩, 513 + far % 100, List.replicate (513 + far % 100) 0⟩ by simp [Sl.v]]
            (repeat (first | (refine WL.k_fld ?_; refine WL.step (Yl.fldEl (i := 1) (o := 1) (by kernel_rfl) (Rd.row (show HA.row (pa) pc 106 2 (pgs L) ∈ _ by simp only [List.mem_cons, List.mem_append, true_or, or_true])) (pgs_ne hq0) rfl) rfl ?_) | (refine WL.k_idxa ?_; refine WL.step (Yl.indexAddr (t := 37) (j := L.length - 1) Tryz.underlying37 Tryz.sizeOf106 rfl rfl (Rd.row (show HA.row (pa) pc 106 2 (pgs L) ∈ _ by simp only [List.mem_cons, List.mem_append, true_or, or_true])) (pgs_ne hq0) (by omega)) rfl ?_)))
            refine WL.storeRow (T := 23) (a := pa) (vs := pgs L) (i := (L.length - 1) * 2 + 1) Tryz.sizeOf23 rfl rfl rfl (.there .here) (by rw [pgs_len]; omega) ?_
            rw [pgs_set_data hqk]
            obtain ⟨L2, hL2⟩ : ∃ l, l = L.set (L.length - 1) ⟨qk.no, ⟨some ⟨b7, 0, none⟩, 513 + far % 100, List.replicate (513 + far % 100) 0⟩⟩ := ⟨_, rfl⟩
            rw [← hL2]
            have hl2 : L2.length = L.length := by rw [hL2, List.length_set]
            have hin : ⟨qk.no, ⟨some ⟨b7, 0, none⟩, 513 + far % 100, List.replicate (513 + far % 100) 0⟩⟩ ∈ L2 := by rw [hL2]; exact mem_set' (by omega)
            have g1 : pchk L2 ≠ 0 := pchk_no fun h => by have := h.len _ hin; simp only [List.length_replicate] at this; omega
            have g2 : L2.length ≤ 100 := by omega
            have g3 : L2.length ≤ pc := by omega
            have g4 : ∀ q ∈ L2, InF (HA.row (some ⟨b7, 0, none⟩) (513 + far % 100) 5 1 (bs (List.replicate (513 + far % 100) 0)) :: ZL) q.s := by rw [hL2]; exact in_set (fun x hx => (hLZ x hx).mono fun y hy => .tail _ hy) (.inr ⟨by simp, _, .head _⟩)
            refine WL.drops (D := [HA.blk b3 (.cells #[.slice t.a t.nos.length t.c, bv t.fill] 25 (0, 0))]) (B := HA.row (pa) pc 106 2 (pgs L2) :: ((HA.row (some ⟨b7, 0, none⟩) (513 + far % 100) 5 1 (bs (List.replicate (513 + far % 100) 0)) :: ZL) ++ (jI dp.bd p s1 ++ drI dp d1))) (permU (by intros; simp only [List.count_append, List.count_cons, List.count_nil]; omega)) ?_
            rw [← hl2]
            refine WL.nil ?_
            refine WN.block_normal ?_
            refine (WN.join (pa, pc, L2, HA.row (some ⟨b7, 0, none⟩) (513 + far % 100) 5 1 (bs (List.replicate (513 + far % 100) 0)) :: ZL) (show pchk L2 ≠ 0 ∧ L2.length ≤ 100 ∧ L2.length ≤ pc ∧ ∀ q ∈ L2, InF (HA.row (some ⟨b7, 0, none⟩) (513 + far % 100) 5 1 (bs (List.replicate (513 + far % 100) 0)) :: ZL) q.s from ⟨g1, g2, g3, g4⟩) (by repeat (first | exact Sub.nil | refine Sub.cons rfl rfl ?_)) (Part.refl _))
          · (repeat (first | refine WL.step (Yl.assign rfl) rfl ?_ | refine WL.step (Yl.eql rfl rfl) rfl ?_ | refine WC.seq ?_ | refine WC.region ?_ | refine WL.nil ?_ | refine WN.then_normal ?_))
            refine WC.ite rfl (fun c4 => ?_) (fun c4 => ?_)
            · (repeat (first | refine WL.step (Yl.move rfl) rfl ?_ | (refine WL.k_bin .rem ?_; refine WL.step (Yl.remC (m := far) rfl (by decide)) rfl ?_) | refine WC.region ?_))
              refine WL.make (t := 23) (m := far % 512) (n := far % 512) Tryz.underlying23 elemU8 rfl rfl rfl (Nat.le_refl _) (by omega) (by simp only [maxLen]; omega) rfl fun b7 => ?_
              rw [show List.replicate (far % 512) (Value.int .u8 0) = bs (List.replicate (far % 512) 0) by simp [bs, bv], show Value.slice (some ⟨b7, 0, none⟩) (far % 512) (far % 512) = Sl.v ⟨some ⟨b7, 0, none⟩, far % 512, List.replicate (far % 512) 0⟩ by simp [Sl.v]]
              (repeat (first | (refine WL.k_fld ?_; refine WL.step (Yl.fldEl (i := 1) (o := 1) (by kernel_rfl) (Rd.row (show HA.row (pa) pc 106 2 (pgs L) ∈ _ by simp only [List.mem_cons, List.mem_append, true_or, or_true])) (pgs_ne hq0) rfl) rfl ?_) | (refine WL.k_idxa ?_; refine WL.step (Yl.indexAddr (t := 37) (j := 0) Tryz.underlying37 Tryz.sizeOf106 rfl rfl (Rd.row (show HA.row (pa) pc 106 2 (pgs L) ∈ _ by simp only [List.mem_cons, List.mem_append, true_or, or_true])) (pgs_ne hq0) (by omega)) rfl ?_)))
              refine WL.storeRow (T := 23) (a := pa) (vs := pgs L) (i := (0) * 2 + 1) Tryz.sizeOf23 rfl rfl rfl (.there .here) (by rw [pgs_len]; omega) ?_
              rw [pgs_set_data hq0]
              obtain ⟨L2, hL2⟩ : ∃ l, l = L.set (0) ⟨q0.no, ⟨some ⟨b7, 0, none⟩, far % 512, List.replicate (far % 512) 0⟩⟩ := ⟨_, rfl⟩
              rw [← hL2]
              have hl2 : L2.length = L.length := by rw [hL2, List.length_set]
              have hin : ⟨q0.no, ⟨some ⟨b7, 0, none⟩, far % 512, List.replicate (far % 512) 0⟩⟩ ∈ L2 := by rw [hL2]; exact mem_set' (by omega)
              have g1 : pchk L2 ≠ 0 := pchk_no fun h => by have := h.len _ hin; simp only [List.length_replicate] at this; omega
              have g2 : L2.length ≤ 100 := by omega
              have g3 : L2.length ≤ pc := by omega
              have g4 : ∀ q ∈ L2, InF (HA.row (some ⟨b7, 0, none⟩) (far % 512) 5 1 (bs (List.replicate (far % 512) 0)) :: ZL) q.s := by rw [hL2]; exact in_set (fun x hx => (hLZ x hx).mono fun y hy => .tail _ hy) (.inr ⟨by simp, _, .head _⟩)
              refine WL.drops (D := [HA.blk b3 (.cells #[.slice t.a t.nos.length t.c, bv t.fill] 25 (0, 0))]) (B := HA.row (pa) pc 106 2 (pgs L2) :: ((HA.row (some ⟨b7, 0, none⟩) (far % 512) 5 1 (bs (List.replicate (far % 512) 0)) :: ZL) ++ (jI dp.bd p s1 ++ drI dp d1))) (permU (by intros; simp only [List.count_append, List.count_cons, List.count_nil]; omega)) ?_
              rw [← hl2]
              refine WL.nil ?_
              refine WN.block_normal ?_
              refine (WN.join (pa, pc, L2, HA.row (some ⟨b7, 0, none⟩) (far % 512) 5 1 (bs (List.replicate (far % 512) 0)) :: ZL) (show pchk L2 ≠ 0 ∧ L2.length ≤ 100 ∧ L2.length ≤ pc ∧ ∀ q ∈ L2, InF (HA.row (some ⟨b7, 0, none⟩) (far % 512) 5 1 (bs (List.replicate (far % 512) 0)) :: ZL) q.s from ⟨g1, g2, g3, g4⟩) (by repeat (first | exact Sub.nil | refine Sub.cons rfl rfl ?_)) (Part.refl _))
            · (repeat (first | refine WL.step (Yl.assign rfl) rfl ?_ | refine WC.region ?_ | refine WL.nil ?_ | refine WN.block_normal ?_))
              exact WN.join (none, 0, [], ZL) (show pchk [] ≠ 0 ∧ 0 ≤ 100 ∧ 0 ≤ 0 ∧ ∀ q ∈ ([] : List Pg), InF ZL q.s from ⟨by decide, by decide, by decide, fun q h => by cases h⟩) (by repeat (first | exact Sub.nil | refine Sub.cons rfl rfl ?_)) (.free (.more (.more (Part.refl _))))
  · rintro ⟨a2, c2, L2, Z2⟩ ⟨g1, g2, g3, g4⟩
    simp only at g1 g2 g3 g4 ⊢
    (repeat (first | refine WC.seq ?_ | refine WC.region ?_))
    refine WL.makeK (us := ZP) (m := 6) (n := 6) Tryz.underlying37 elemPg rfl rfl rfl (Nat.le_refl _) (by decide) (by decide) rfl fun b8 => ?_
    (repeat (first | refine WL.step (Yl.move rfl) rfl ?_ | refine WL.step (Yl.assign rfl) rfl ?_ | refine WL.step (Yl.len (t := 37) Tryz.underlying37 rfl) rfl ?_ | refine WC.seq ?_ | refine WC.region ?_ | refine WL.nil ?_ | refine WN.then_normal ?_ | refine WC.block ?_))
    refine WC.loop (α := Nat × List Pg × List HA) (fun g => [(7, bptr dp.bd), (9, bptr p.bj), (11, .slice a2 L2.length c2), (12, .int .i64 (far : Int)), (14, .slice (some ⟨b8, 0, none⟩) 6 6), (102, .int .i64 6), (103, .int .i64 (g.1 : Int))])
      (fun g => .row (some ⟨b8, 0, none⟩) 6 106 2 (pgs g.2.1 ++ (List.replicate (6 - g.1) ZP).flatten) :: (g.2.2 ++ (HA.row a2 c2 106 2 (pgs L2) :: (Z2 ++ (jI dp.bd p s1 ++ drI dp d1)))))
      (fun g => g.1 ≤ 6 ∧ g.2.1.map Pg.nb = (List.range g.1).map onb ∧ ∀ q ∈ g.2.1, InR g.2.2 q.s) (fun g => 6 - g.1) (0, [], []) (by repeat (first | exact Sub.nil | refine Sub.cons rfl rfl ?_)) (Part.refl _) ⟨Nat.zero_le _, rfl, fun q h => by cases h⟩ ?_
    rintro ⟨i, Mn, Zm⟩ ⟨hi, hMn, hZm⟩
    simp only at hi hMn hZm ⊢
    have hml : Mn.length = i := by have := congrArg List.length hMn; rwa [List.length_map, List.length_map, List.length_range] at this
    (repeat (first | refine WL.step (Yl.lss rfl rfl) rfl ?_ | refine WC.seq ?_ | refine WC.region ?_ | refine WL.nil ?_ | refine WN.then_normal ?_))
    refine WC.ite rfl (fun h1 => ?_) (fun h1 => ?_)
    · have hi6 : i < 6 := by omega
      (repeat (first | refine WL.step (Yl.move rfl) rfl ?_ | refine WL.step (Yl.assign rfl) rfl ?_ | refine WC.seq ?_ | refine WC.region ?_ | refine WL.nil ?_ | refine WN.then_normal ?_ | refine WC.block ?_ | refine WC.skip ?_))
      refine WL.call (g := 53) Tryz.call53 rfl (fun w0 st2 => full_w 2 w0) rfl fun v1 B1 hv1 => ?_
      obtain ⟨a3, c3, hc3, rfl, rfl⟩ := hv1
      refine WL.part (Part.perm (show List.Perm _ (HA.row (some ⟨b8, 0, none⟩) 6 106 2 (pgs Mn ++ (List.replicate (6 - i) ZP).flatten) :: (Zm ++ (HA.row a2 c2 106 2 (pgs L2) :: (Z2 ++ (jI dp.bd p s1 ++ (drI dp d1 ++ ([HA.row a3 c3 5 1 (bs (List.replicate 512 2))]))))))) from (permU (by intros; simp only [List.count_append, List.count_cons, List.count_nil]; omega)))) ?_
      have hne : pgs Mn ++ (List.replicate (6 - i) ZP).flatten ≠ [] := fun e => by
        have := congrArg List.length e
        obtain ⟨k, hk⟩ : ∃ k, 6 - i = k + 1 := ⟨6 - i - 1, by omega⟩
        rw [hk, List.replicate_succ, List.flatten_cons, List.length_append, List.length_append] at this
        simp [ZP] at this
      (repeat (first | refine WL.step (Yl.build (ps := [(0, .tmp 108), (1, .tmp 109)]) (vs := [(0, .int .i64 (i : Int)), (1, .slice a3 512 512)]) rfl (buildPg _ _ _ _)) rfl ?_ | (refine WL.k_idxa ?_; refine WL.step (Yl.indexAddr (t := 37) (j := i) Tryz.underlying37 Tryz.sizeOf106 rfl rfl (Rd.row (show HA.row (some ⟨b8, 0, none⟩) 6 106 2 (pgs Mn ++ (List.replicate (6 - i) ZP).flatten) ∈ _ by simp only [List.mem_cons, List.mem_append, true_or, or_true])) hne (by omega)) rfl ?_)))
      obtain ⟨q, hq⟩ : ∃ q : Pg, q = ⟨(i : Int), ⟨a3, 512, List.replicate 512 2⟩⟩ := ⟨_, rfl⟩
      have hqc : q.cs = [.int .i64 (i : Int), .slice a3 512 512] := by rw [hq]; simp [Pg.cs, Sl.v]
      refine WL.storeRowEl (a := some ⟨b8, 0, none⟩) (vs := pgs Mn ++ (List.replicate (6 - i) ZP).flatten) (us := q.cs) (i := i * 2) (by rw [hqc]; exact Tryz.sizeOf106) rfl rfl (by rw [hqc]; rfl) (by rw [hqc]; intro u hu; simp at hu; rcases hu with rfl | rfl <;> rfl) .here (by rw [hqc]; exact Nat.zero_lt_succ _) (by rw [hqc, List.length_append, pgs_len, hml]; obtain ⟨k, hk⟩ : ∃ k, 6 - i = k + 1 := ⟨6 - i - 1, by omega⟩; rw [hk, List.replicate_succ, List.flatten_cons, List.length_append]; show i * 2 + 2 ≤ i * 2 + (2 + _); omega) ?_
      rw [ones_step hml hi6]
      (repeat (first | refine WL.step (Yl.move rfl) rfl ?_ | (refine WL.k_bin .add ?_; refine WL.step (Yl.add64C rfl (by omega)) rfl ?_) | refine WC.region ?_ | refine WL.nil ?_ | refine WN.then_normal ?_ | refine WN.block_normal ?_))
      exact WN.next (i + 1, Mn ++ [q], HA.row a3 c3 5 1 (bs (List.replicate 512 2)) :: Zm) ⟨by simp only; omega, by simp only; rw [List.map_append, hMn, List.range_succ, List.map_append, hq]; rfl, fun x hx => by
        rcases List.mem_append.1 hx with hx | hx
        · exact (hZm x hx).mono fun y hy => .tail _ hy
        · rw [List.mem_singleton.1 hx, hq]; exact ⟨_, _, .head _⟩⟩ (by simp only; omega) (by repeat (first | exact Sub.nil | refine Sub.cons rfl rfl ?_)) (Part.perm (permU (by intros; simp only [List.count_append, List.count_cons, List.count_nil]; omega)))
    · obtain rfl : i = 6 := by omega
      rw [Nat.sub_self, List.replicate_zero, List.flatten_nil, List.append_nil]
      have hm0 := ones_ok hMn
      (repeat (first | refine WL.step (Yl.move rfl) rfl ?_ | refine WC.seq ?_ | refine WC.region ?_ | refine WN.then_normal ?_ | refine WC.exit ?_ | refine WN.then_exit ?_ | refine WN.block_here ?_))
      refine WL.callR (g := 54) Tryz.call54 rfl (fun w0 st2 => pclone_c b8 0 6 6 Mn w0 hml (by decide) (Rd.row (show HA.row (some ⟨b8, 0, none⟩) 6 106 2 (pgs Mn) ∈ _ by simp only [List.mem_cons, List.mem_append, true_or, or_true]) w0 st2)) rfl fun q1 hq1 => ?_
      refine WL.part (Part.perm (show List.Perm _ (HA.row (some ⟨b8, 0, none⟩) 6 106 2 (pgs Mn) :: (Zm ++ (HA.row a2 c2 106 2 (pgs L2) :: (Z2 ++ (jI dp.bd p s1 ++ (drI dp d1 ++ ([HA.row q1.1 q1.2 106 2 (pgs Mn)]))))))) from (permU (by intros; simp only [List.count_append, List.count_cons, List.count_nil]; omega)))) ?_
      skip
      refine WL.call (g := 53) Tryz.call53 rfl (fun w0 st2 => full_w 2 w0) rfl fun v1 B1 hv1 => ?_
      obtain ⟨a5, c5, hc5, rfl, rfl⟩ := hv1
      refine WL.part (Part.perm (show List.Perm _ (HA.row (some ⟨b8, 0, none⟩) 6 106 2 (pgs Mn) :: (Zm ++ (HA.row a2 c2 106 2 (pgs L2) :: (Z2 ++ (jI dp.bd p s1 ++ (drI dp d1 ++ (HA.row q1.1 q1.2 106 2 (pgs Mn) :: [HA.row a5 c5 5 1 (bs (List.replicate 512 2))]))))))) from (permU (by intros; simp only [List.count_append, List.count_cons, List.count_nil]; omega)))) ?_
      (repeat (first | refine WL.step (Yl.build (ps := [(0, .const (.int .i64 5)), (1, .tmp 115)]) (vs := [(0, .int .i64 5), (1, .slice a5 512 512)]) rfl (buildPg _ _ _ _)) rfl ?_))
      refine WL.lit (t := 37) (vs := [.agg #[.int .i64 5, .slice a5 512 512]]) Tryz.underlying37 elemPg rfl rfl rfl (fun u hu => by simp at hu; subst hu; rfl) rfl fun b9 => ?_
      rw [show flat [Value.agg #[.int .i64 5, .slice a5 512 512]] = pgs [⟨5, ⟨a5, 512, List.replicate 512 2⟩⟩] by simp [flat, pgs, Pg.cs, Sl.v, Value.cells]]
      refine WL.part (Part.perm (show List.Perm _ (HA.row q1.1 q1.2 106 2 (pgs Mn) :: HA.row (some ⟨b8, 0, none⟩) 6 106 2 (pgs Mn) :: (Zm ++ (HA.row a2 c2 106 2 (pgs L2) :: (Z2 ++ (jI dp.bd p s1 ++ (drI dp d1 ++ (HA.row a5 c5 5 1 (bs (List.replicate 512 2)) :: [HA.row (some ⟨b9, 0, none⟩) 1 106 2 (pgs [⟨5, ⟨a5, 512, List.replicate 512 2⟩⟩])]))))))) from (permU (by intros; simp only [List.count_append, List.count_cons, List.count_nil]; omega)))) ?_
      skip
      refine WL.appendRow (t := 37) (n := 6) (m := 1) (olds := pgs Mn) (news := pgs [⟨5, ⟨a5, 512, List.replicate 512 2⟩⟩]) Tryz.underlying37 elemPg rfl rfl .here (by rw [pgs_len, hml]) hq1 (Rd.row (show HA.row (some ⟨b9, 0, none⟩) 1 106 2 (pgs [⟨5, ⟨a5, 512, List.replicate 512 2⟩⟩]) ∈ _ by simp only [List.mem_cons, List.mem_append, true_or, or_true])) rfl (pgs_one _) (by decide) (by decide) rfl fun q3 hq3 => ?_
      rw [← pgs_app]
      have hlate := ones_late (a := a5) hMn
      obtain ⟨L5, hL5⟩ : ∃ l, l = Mn ++ [⟨5, ⟨a5, 512, List.replicate 512 2⟩⟩] := ⟨_, rfl⟩
      rw [← hL5] at hlate ⊢
      have hl5 : L5.length = 7 := by rw [hL5, List.length_append, hml]; rfl
      have hin5 : ∀ q ∈ L5, InR (HA.row a5 c5 5 1 (bs (List.replicate 512 2)) :: Zm) q.s := fun q hq => by
        rw [hL5] at hq
        rcases List.mem_append.1 hq with hq | hq
        · exact (hZm q hq).mono fun y hy => .tail _ hy
        · rw [List.mem_singleton.1 hq]; exact ⟨_, _, .head _⟩
      (repeat (first | refine WL.step (Yl.move rfl) rfl ?_ | refine WL.step (Yl.assign rfl) rfl ?_ | refine WC.seq ?_ | refine WC.region ?_ | refine WL.nil ?_ | refine WN.then_normal ?_))
      refine WL.drops (D := [HA.row (some ⟨b9, 0, none⟩) 1 106 2 (pgs [⟨5, ⟨a5, 512, List.replicate 512 2⟩⟩])]) (B := HA.row q3.1 q3.2 106 2 (pgs L5) :: HA.row (some ⟨b8, 0, none⟩) 6 106 2 (pgs Mn) :: (Zm ++ (HA.row a2 c2 106 2 (pgs L2) :: (Z2 ++ (jI dp.bd p s1 ++ (drI dp d1 ++ ([HA.row a5 c5 5 1 (bs (List.replicate 512 2))]))))))) (permU (by intros; simp only [List.count_append, List.count_cons, List.count_nil]; omega)) ?_
      refine WL.callV (g := 44) (v := .int .i64 7) Tryz.call44 rfl (fun w0 st2 => by have := dops_c (p := dp) (s := d1) w0 (d1ok.at_ st2 (fun x h => by simp only [List.mem_cons, List.mem_append, h, true_or, or_true])); rw [show d1.ops = 7 from (congrArg DV.ops hd1).trans o1] at this; exact this) rfl ?_
      (repeat (first | refine WL.step (Yl.move rfl) rfl ?_ | refine WL.step (Yl.assign rfl) rfl ?_ | refine WC.seq ?_ | refine WC.region ?_ | refine WL.nil ?_ | refine WN.then_normal ?_))
      have hp : List.Perm (HA.row q3.1 q3.2 106 2 (pgs L5) :: HA.row (some ⟨b8, 0, none⟩) 6 106 2 (pgs Mn) :: (Zm ++ (HA.row a2 c2 106 2 (pgs L2) :: (Z2 ++ (jI dp.bd p s1 ++ (drI dp d1 ++ ([HA.row a5 c5 5 1 (bs (List.replicate 512 2))]))))))) ((jI dp.bd p s1 ++ drI dp d1) ++ (HA.row q3.1 q3.2 106 2 (pgs L5) :: HA.row (some ⟨b8, 0, none⟩) 6 106 2 (pgs Mn) :: (Zm ++ (HA.row a2 c2 106 2 (pgs L2) :: (Z2 ++ ([HA.row a5 c5 5 1 (bs (List.replicate 512 2))])))))) := (permU (by intros; simp only [List.count_append, List.count_cons, List.count_nil]; omega))
      refine WL.callS (g := 16) (A0 := jI dp.bd p s1 ++ drI dp d1) (B := HA.row q3.1 q3.2 106 2 (pgs L5) :: HA.row (some ⟨b8, 0, none⟩) 6 106 2 (pgs Mn) :: (Zm ++ (HA.row a2 c2 106 2 (pgs L2) :: (Z2 ++ ([HA.row a5 c5 5 1 (bs (List.replicate 512 2))]))))) (vs := [bptr p.bj, .slice (a2) L2.length (c2)]) (R := JAppV dp p (v1, rj.adds [rT a1], 2)) Tryz.call16 rfl hp (fun w0 st2 st1 => jappend_v (a2) L2.length (c2) (L2) w0 _ d1ok hd1 s1ok hs1 (japp_arg g1) (show v1.ops < _ by rw [o1]; decide) rfl (by omega) (row_out st2 hp (show HA.row a2 c2 106 2 (pgs L2) ∈ _ by simp only [List.mem_cons, List.mem_append, true_or, or_true])) (fun q hq => inf_out (g4 q hq) (fun x h => by simp only [List.mem_cons, List.mem_append, h, true_or, or_true]) st2 hp) (old_out st2 hp hT.o) st1) rfl fun v C hv => ?_
      clear hp
      obtain ⟨rfl, d2, s2, d2ok, hd2, s2ok, hs2, rfl⟩ := hv
      simp only at hd2 hs2
      refine WL.part (Part.perm (show List.Perm _ (HA.row q3.1 q3.2 106 2 (pgs L5) :: HA.row (some ⟨b8, 0, none⟩) 6 106 2 (pgs Mn) :: (Zm ++ (HA.row a2 c2 106 2 (pgs L2) :: (Z2 ++ (jI dp.bd p s2 ++ (drI dp d2 ++ ([HA.row a5 c5 5 1 (bs (List.replicate 512 2))]))))))) from (permU (by intros; simp only [List.count_append, List.count_cons, List.count_nil]; omega)))) ?_
      (repeat (first | refine WL.want rfl rfl rfl ?_ | refine WL.step (Yl.move rfl) rfl ?_ | refine WL.step (Yl.neqF rfl rfl rfl) rfl ?_))
      have hp : List.Perm (HA.row q3.1 q3.2 106 2 (pgs L5) :: HA.row (some ⟨b8, 0, none⟩) 6 106 2 (pgs Mn) :: (Zm ++ (HA.row a2 c2 106 2 (pgs L2) :: (Z2 ++ (jI dp.bd p s2 ++ (drI dp d2 ++ ([HA.row a5 c5 5 1 (bs (List.replicate 512 2))]))))))) ((jI dp.bd p s2 ++ drI dp d2) ++ (HA.row q3.1 q3.2 106 2 (pgs L5) :: HA.row (some ⟨b8, 0, none⟩) 6 106 2 (pgs Mn) :: (Zm ++ (HA.row a2 c2 106 2 (pgs L2) :: (Z2 ++ ([HA.row a5 c5 5 1 (bs (List.replicate 512 2))])))))) := (permU (by intros; simp only [List.count_append, List.count_cons, List.count_nil]; omega))
      refine WL.callS (g := 16) (A0 := jI dp.bd p s2 ++ drI dp d2) (B := HA.row q3.1 q3.2 106 2 (pgs L5) :: HA.row (some ⟨b8, 0, none⟩) 6 106 2 (pgs Mn) :: (Zm ++ (HA.row a2 c2 106 2 (pgs L2) :: (Z2 ++ ([HA.row a5 c5 5 1 (bs (List.replicate 512 2))]))))) (vs := [bptr p.bj, .slice (some ⟨b8, 0, none⟩) 6 (6)]) (R := JAppV dp p (v1, rj.adds [rT a1], 4)) Tryz.call16 rfl hp (fun w0 st2 st1 => jappend_v (some ⟨b8, 0, none⟩) 6 (6) (Mn) w0 _ d2ok hd2 s2ok hs2 (japp_full hm0 (fun h => by have := (fitN_iff (j := rj.adds [rT a1]) (k := Mn.length) (by omega)).1 h; have hu : (rj.adds [rT a1]).used = 6 := rfl; have hn : (rj.adds [rT a1]).n = 30 := rfl; omega)) (show v1.ops < _ by rw [o1]; decide) hml (by decide) (row_out st2 hp (show HA.row (some ⟨b8, 0, none⟩) 6 106 2 (pgs Mn) ∈ _ by simp only [List.mem_cons, List.mem_append, true_or, or_true])) (fun q hq => (hZm q hq).out (fun x h => by simp only [List.mem_cons, List.mem_append, h, true_or, or_true]) st2 hp) (old_out st2 hp hT.o) st1) rfl fun v C hv => ?_
      clear hp
      obtain ⟨rfl, d3, s3, d3ok, hd3, s3ok, hs3, rfl⟩ := hv
      simp only at hd3 hs3
      refine WL.part (Part.perm (show List.Perm _ (HA.row q3.1 q3.2 106 2 (pgs L5) :: HA.row (some ⟨b8, 0, none⟩) 6 106 2 (pgs Mn) :: (Zm ++ (HA.row a2 c2 106 2 (pgs L2) :: (Z2 ++ (jI dp.bd p s3 ++ (drI dp d3 ++ ([HA.row a5 c5 5 1 (bs (List.replicate 512 2))]))))))) from (permU (by intros; simp only [List.count_append, List.count_cons, List.count_nil]; omega)))) ?_
      (repeat (first | refine WL.want rfl rfl rfl ?_ | refine WL.step (Yl.move rfl) rfl ?_ | refine WL.step (Yl.pick_f rfl rfl rfl) rfl ?_ | refine WL.step (Yl.neqF rfl rfl rfl) rfl ?_))
      have hp : List.Perm (HA.row q3.1 q3.2 106 2 (pgs L5) :: HA.row (some ⟨b8, 0, none⟩) 6 106 2 (pgs Mn) :: (Zm ++ (HA.row a2 c2 106 2 (pgs L2) :: (Z2 ++ (jI dp.bd p s3 ++ (drI dp d3 ++ ([HA.row a5 c5 5 1 (bs (List.replicate 512 2))]))))))) ((jI dp.bd p s3 ++ drI dp d3) ++ (HA.row q3.1 q3.2 106 2 (pgs L5) :: HA.row (some ⟨b8, 0, none⟩) 6 106 2 (pgs Mn) :: (Zm ++ (HA.row a2 c2 106 2 (pgs L2) :: (Z2 ++ ([HA.row a5 c5 5 1 (bs (List.replicate 512 2))])))))) := (permU (by intros; simp only [List.count_append, List.count_cons, List.count_nil]; omega))
      refine WL.callS (g := 16) (A0 := jI dp.bd p s3 ++ drI dp d3) (B := HA.row q3.1 q3.2 106 2 (pgs L5) :: HA.row (some ⟨b8, 0, none⟩) 6 106 2 (pgs Mn) :: (Zm ++ (HA.row a2 c2 106 2 (pgs L2) :: (Z2 ++ ([HA.row a5 c5 5 1 (bs (List.replicate 512 2))]))))) (vs := [bptr p.bj, .slice (q3.1) 7 (q3.2)]) (R := JAppV dp p (v1, rj.adds [rT a1], 2)) Tryz.call16 rfl hp (fun w0 st2 st1 => jappend_v (q3.1) 7 (q3.2) (L5) w0 _ d3ok hd3 s3ok hs3 (japp_arg hlate) (show v1.ops < _ by rw [o1]; decide) hl5 (by decide) (row_out st2 hp (show HA.row q3.1 q3.2 106 2 (pgs L5) ∈ _ by simp only [List.mem_cons, List.mem_append, true_or, or_true])) (fun q hq => (hin5 q hq).out (fun x h => by rcases List.mem_cons.1 h with rfl | h <;> simp only [List.mem_cons, List.mem_append, h, true_or, or_true]) st2 hp) (old_out st2 hp hT.o) st1) rfl fun v C hv => ?_
      clear hp
      obtain ⟨rfl, d4, s4, d4ok, hd4, s4ok, hs4, rfl⟩ := hv
      simp only at hd4 hs4
      refine WL.part (Part.perm (show List.Perm _ (HA.row q3.1 q3.2 106 2 (pgs L5) :: HA.row (some ⟨b8, 0, none⟩) 6 106 2 (pgs Mn) :: (Zm ++ (HA.row a2 c2 106 2 (pgs L2) :: (Z2 ++ (jI dp.bd p s4 ++ (drI dp d4 ++ ([HA.row a5 c5 5 1 (bs (List.replicate 512 2))]))))))) from (permU (by intros; simp only [List.count_append, List.count_cons, List.count_nil]; omega)))) ?_
      (repeat (first | refine WL.want rfl rfl rfl ?_ | refine WL.step (Yl.move rfl) rfl ?_ | refine WL.step (Yl.pick_f rfl rfl rfl) rfl ?_ | refine WL.step (Yl.neqF rfl rfl rfl) rfl ?_))
      refine WL.callV (g := 44) (v := .int .i64 7) Tryz.call44 rfl (fun w0 st2 => by have := dops_c (p := dp) (s := d4) w0 (d4ok.at_ st2 (fun x h => by simp only [List.mem_cons, List.mem_append, h, true_or, or_true])); rw [show d4.ops = 7 from (congrArg DV.ops hd4).trans o1] at this; exact this) rfl ?_
      (repeat (first | refine WL.want rfl rfl rfl ?_ | refine WL.step (Yl.move rfl) rfl ?_ | refine WL.step (Yl.pick_f rfl rfl rfl) rfl ?_ | refine WL.step (Yl.neqF rfl rfl rfl) rfl ?_))
      refine WL.callV (g := 36) (v := .int .i64 6) Tryz.call36 rfl (fun w0 st2 => jused_v (dp := dp) 6 w0 (s4ok.at_ st2 (fun x h => by simp only [List.mem_cons, List.mem_append, h, true_or, or_true])) hs4 rfl) rfl ?_
      (repeat (first | refine WL.want rfl rfl rfl ?_ | refine WL.step (Yl.pick_f rfl rfl rfl) rfl ?_ | refine WL.step (Yl.neqF rfl rfl rfl) rfl ?_ | refine WL.nil ?_ | refine WN.then_normal ?_))
      refine WC.cond_false rfl rfl ?_
      (repeat (first | refine WL.step (Yl.move rfl) rfl ?_ | refine WC.seq ?_ | refine WC.region ?_ | refine WN.then_normal ?_ | refine WC.skip ?_))
      refine WL.drops (D := HA.row q3.1 q3.2 106 2 (pgs L5) :: [HA.row a5 c5 5 1 (bs (List.replicate 512 2))]) (B := HA.row (some ⟨b8, 0, none⟩) 6 106 2 (pgs Mn) :: (Zm ++ (HA.row a2 c2 106 2 (pgs L2) :: (Z2 ++ (jI dp.bd p s4 ++ drI dp d4))))) (permU (by intros; simp only [List.count_append, List.count_cons, List.count_nil]; omega)) ?_
      refine WL.lit (t := 61) (vs := [.int .i64 0]) Tryz.underlying61 elemZ rfl rfl rfl (fun u hu => by simp at hu; subst hu; rfl) rfl fun b10 => ?_
      rw [show flat [Value.int .i64 0] = zcells [0] from rfl]
      refine WL.part (Part.perm (show List.Perm _ (HA.row (some ⟨b8, 0, none⟩) 6 106 2 (pgs Mn) :: (Zm ++ (HA.row a2 c2 106 2 (pgs L2) :: (Z2 ++ (jI dp.bd p s4 ++ (drI dp d4 ++ ([HA.row (some ⟨b10, 0, none⟩) 1 3 1 (zcells [0])]))))))) from (permU (by intros; simp only [List.count_append, List.count_cons, List.count_nil]; omega)))) ?_
      have harm : v1.arm 0 [0] = (v1.crash [0], 0) := by rw [DV.arm, if_pos (by decide), if_pos rfl, if_neg (by rw [k1.calm.up]; decide)]
      obtain ⟨v2, hv2⟩ : ∃ v, v = v1.crash [0] := ⟨_, rfl⟩
      have hdn : v2.down = true := by rw [hv2]; rfl
      have o2 : v2.ops = 7 := by rw [hv2]; exact o1
      have r2 : v2.rd = 0 := by rw [hv2]; exact r1
      have l2 : v2.d.length = 30 := by rw [hv2]; exact (crash_wf [0] k1.wf).2.trans l1
      rw [← hv2] at harm
      (repeat (first | refine WL.step (Yl.build (ps := [(1, .tmp 149)]) (vs := [(1, .slice (some ⟨b10, 0, none⟩) 1 1)]) rfl (buildPl1 _ _ _)) rfl ?_))
      have hp : List.Perm (HA.row (some ⟨b8, 0, none⟩) 6 106 2 (pgs Mn) :: (Zm ++ (HA.row a2 c2 106 2 (pgs L2) :: (Z2 ++ (jI dp.bd p s4 ++ (drI dp d4 ++ ([HA.row (some ⟨b10, 0, none⟩) 1 3 1 (zcells [0])]))))))) ((drI dp d4) ++ (HA.row (some ⟨b8, 0, none⟩) 6 106 2 (pgs Mn) :: (Zm ++ (HA.row a2 c2 106 2 (pgs L2) :: (Z2 ++ (jI dp.bd p s4 ++ ([HA.row (some ⟨b10, 0, none⟩) 1 3 1 (zcells [0])]))))))) := (permU (by intros; simp only [List.count_append, List.count_cons, List.count_nil]; omega))
      refine WL.callS (g := 48) (A0 := drI dp d4) (B := HA.row (some ⟨b8, 0, none⟩) 6 106 2 (pgs Mn) :: (Zm ++ (HA.row a2 c2 106 2 (pgs L2) :: (Z2 ++ (jI dp.bd p s4 ++ ([HA.row (some ⟨b10, 0, none⟩) 1 3 1 (zcells [0])])))))) (vs := [bptr dp.bd, .agg #[.int .i64 0, .slice (some ⟨b10, 0, none⟩) 1 1]]) (R := DrV dp v2 0) Tryz.call48 rfl hp (fun w0 st2 st1 => by have := darm_r (p := dp) 0 (some ⟨b10, 0, none⟩) 1 1 [0] d4 w0 d4ok rfl (by decide) (row_out st2 hp (show HA.row (some ⟨b10, 0, none⟩) 1 3 1 (zcells [0]) ∈ _ by simp only [List.mem_cons, List.mem_append, true_or, or_true])) st1; rw [hd4, harm] at this; exact this) rfl fun v C hv => ?_
      clear hp
      obtain ⟨rfl, d5, d5ok, hd5, rfl⟩ := hv
      refine WL.part (Part.perm (show List.Perm _ (HA.row (some ⟨b8, 0, none⟩) 6 106 2 (pgs Mn) :: (Zm ++ (HA.row a2 c2 106 2 (pgs L2) :: (Z2 ++ (jI dp.bd p s4 ++ (drI dp d5 ++ ([HA.row (some ⟨b10, 0, none⟩) 1 3 1 (zcells [0])]))))))) from (permU (by intros; simp only [List.count_append, List.count_cons, List.count_nil]; omega)))) ?_
      (repeat (first | refine WL.step (Yl.neqF rfl rfl rfl) rfl ?_ | refine WL.nil ?_ | refine WN.then_normal ?_))
      refine WC.cond_false rfl rfl ?_
      (repeat (first | refine WL.step (Yl.move rfl) rfl ?_ | refine WC.seq ?_ | refine WC.region ?_ | refine WN.then_normal ?_ | refine WC.skip ?_))
      refine WL.drops (D := [HA.row (some ⟨b10, 0, none⟩) 1 3 1 (zcells [0])]) (B := HA.row (some ⟨b8, 0, none⟩) 6 106 2 (pgs Mn) :: (Zm ++ (HA.row a2 c2 106 2 (pgs L2) :: (Z2 ++ (jI dp.bd p s4 ++ drI dp d5))))) (permU (by intros; simp only [List.count_append, List.count_cons, List.count_nil]; omega)) ?_
      have hp : List.Perm (HA.row (some ⟨b8, 0, none⟩) 6 106 2 (pgs Mn) :: (Zm ++ (HA.row a2 c2 106 2 (pgs L2) :: (Z2 ++ (jI dp.bd p s4 ++ drI dp d5))))) ((jI dp.bd p s4 ++ drI dp d5) ++ (HA.row (some ⟨b8, 0, none⟩) 6 106 2 (pgs Mn) :: (Zm ++ (HA.row a2 c2 106 2 (pgs L2) :: Z2)))) := (permU (by intros; simp only [List.count_append, List.count_cons, List.count_nil]; omega))
      refine WL.callS (g := 33) (A0 := jI dp.bd p s4 ++ drI dp d5) (B := HA.row (some ⟨b8, 0, none⟩) 6 106 2 (pgs Mn) :: (Zm ++ (HA.row a2 c2 106 2 (pgs L2) :: Z2))) (vs := [bptr p.bj, .int .i64 1]) (R := JGetV dp p s4 (v2) ([], false, 11)) Tryz.call33 rfl hp (fun w0 st2 st1 => jget_v (1) w0 ([], false, 11) d5ok hd5 s4ok hs4 (by rw [jget, if_neg (by decide), if_pos hdn]) (show 0 + 30 ≤ v2.d.length by omega) k1.fc.le (by rw [r2]; decide) (old_out st2 hp hT.o) st1) rfl fun v C hv => ?_
      clear hp
      obtain ⟨z6, u6, d6, m6, hz6, hu6, rfl, d6ok, hd6, hm6, rfl⟩ := hv
      refine WL.part (Part.perm (show List.Perm _ (HA.row (some ⟨b8, 0, none⟩) 6 106 2 (pgs Mn) :: (Zm ++ (HA.row a2 c2 106 2 (pgs L2) :: (Z2 ++ (jI dp.bd p s4 ++ (drI dp d6 ++ ([HA.row z6.1 z6.2 5 1 (bs u6)]))))))) from (permU (by intros; simp only [List.count_append, List.count_cons, List.count_nil]; omega)))) ?_
      refine WL.drops (D := [HA.row z6.1 z6.2 5 1 (bs u6)]) (B := HA.row (some ⟨b8, 0, none⟩) 6 106 2 (pgs Mn) :: (Zm ++ (HA.row a2 c2 106 2 (pgs L2) :: (Z2 ++ (jI dp.bd p s4 ++ drI dp d6))))) (permU (by intros; simp only [List.count_append, List.count_cons, List.count_nil]; omega)) ?_
      (repeat (first | refine WL.step (Yl.move rfl) rfl ?_ | refine WL.step (Yl.assign rfl) rfl ?_ | refine WL.step (Yl.extract rfl rfl) rfl ?_ | (refine WL.k_bin .add ?_; refine WL.step (Yl.add64N (m := 4096) (n := far) rfl rfl (by omega)) rfl ?_) | refine WC.seq ?_ | refine WC.region ?_ | refine WL.nil ?_ | refine WN.then_normal ?_))
      have hd6 : d6.v = { v2 with rd := v2.rd + m6 } := hd6
      have hp : List.Perm (HA.row (some ⟨b8, 0, none⟩) 6 106 2 (pgs Mn) :: (Zm ++ (HA.row a2 c2 106 2 (pgs L2) :: (Z2 ++ (jI dp.bd p s4 ++ drI dp d6))))) ((jI dp.bd p s4 ++ drI dp d6) ++ (HA.row (some ⟨b8, 0, none⟩) 6 106 2 (pgs Mn) :: (Zm ++ (HA.row a2 c2 106 2 (pgs L2) :: Z2)))) := (permU (by intros; simp only [List.count_append, List.count_cons, List.count_nil]; omega))
      refine WL.callS (g := 33) (A0 := jI dp.bd p s4 ++ drI dp d6) (B := HA.row (some ⟨b8, 0, none⟩) 6 106 2 (pgs Mn) :: (Zm ++ (HA.row a2 c2 106 2 (pgs L2) :: Z2))) (vs := [bptr p.bj, .int .i64 ((4096 + far : Nat) : Int)]) (R := JGetV dp p s4 ({ v2 with rd := v2.rd + m6 }) ([], false, 3)) Tryz.call33 rfl hp (fun w0 st2 st1 => jget_v (((4096 + far : Nat) : Int)) w0 ([], false, 3) d6ok hd6 s4ok hs4 (by rw [jget, if_pos (by omega)]) (show 0 + 30 ≤ v2.d.length by omega) k1.fc.le (show v2.rd + m6 < _ by omega) (old_out st2 hp hT.o) st1) rfl fun v C hv => ?_
      clear hp
      obtain ⟨z7, u7, d7, m7, hz7, hu7, rfl, d7ok, hd7, hm7, rfl⟩ := hv
      refine WL.part (Part.perm (show List.Perm _ (HA.row (some ⟨b8, 0, none⟩) 6 106 2 (pgs Mn) :: (Zm ++ (HA.row a2 c2 106 2 (pgs L2) :: (Z2 ++ (jI dp.bd p s4 ++ (drI dp d7 ++ ([HA.row z7.1 z7.2 5 1 (bs u7)]))))))) from (permU (by intros; simp only [List.count_append, List.count_cons, List.count_nil]; omega)))) ?_
      refine WL.drops (D := [HA.row z7.1 z7.2 5 1 (bs u7)]) (B := HA.row (some ⟨b8, 0, none⟩) 6 106 2 (pgs Mn) :: (Zm ++ (HA.row a2 c2 106 2 (pgs L2) :: (Z2 ++ (jI dp.bd p s4 ++ drI dp d7))))) (permU (by intros; simp only [List.count_append, List.count_cons, List.count_nil]; omega)) ?_
      (repeat (first | refine WL.step (Yl.move rfl) rfl ?_ | refine WL.step (Yl.assign rfl) rfl ?_ | refine WL.step (Yl.extract rfl rfl) rfl ?_ | (refine WL.k_bin .sub ?_; refine WL.step (Yl.sub64 (m := -1) (n := (far : Int)) rfl rfl (by omega)) rfl ?_) | refine WC.seq ?_ | refine WC.region ?_ | refine WL.nil ?_ | refine WN.then_normal ?_))
      have hd7 : d7.v = { v2 with rd := v2.rd + m6 + m7 } := hd7
      have hp : List.Perm (HA.row (some ⟨b8, 0, none⟩) 6 106 2 (pgs Mn) :: (Zm ++ (HA.row a2 c2 106 2 (pgs L2) :: (Z2 ++ (jI dp.bd p s4 ++ drI dp d7))))) ((jI dp.bd p s4 ++ drI dp d7) ++ (HA.row (some ⟨b8, 0, none⟩) 6 106 2 (pgs Mn) :: (Zm ++ (HA.row a2 c2 106 2 (pgs L2) :: Z2)))) := (permU (by intros; simp only [List.count_append, List.count_cons, List.count_nil]; omega))
      refine WL.callS (g := 33) (A0 := jI dp.bd p s4 ++ drI dp d7) (B := HA.row (some ⟨b8, 0, none⟩) 6 106 2 (pgs Mn) :: (Zm ++ (HA.row a2 c2 106 2 (pgs L2) :: Z2))) (vs := [bptr p.bj, .int .i64 (-1 - (far : Int))]) (R := JGetV dp p s4 ({ v2 with rd := v2.rd + m6 + m7 }) ([], false, 3)) Tryz.call33 rfl hp (fun w0 st2 st1 => jget_v ((-1 - (far : Int))) w0 ([], false, 3) d7ok hd7 s4ok hs4 (by rw [jget, if_pos (by omega)]) (show 0 + 30 ≤ v2.d.length by omega) k1.fc.le (show v2.rd + m6 + m7 < _ by omega) (old_out st2 hp hT.o) st1) rfl fun v C hv => ?_
      clear hp
      obtain ⟨z8, u8, d8, m8, hz8, hu8, rfl, d8ok, hd8, hm8, rfl⟩ := hv
      refine WL.part (Part.perm (show List.Perm _ (HA.row (some ⟨b8, 0, none⟩) 6 106 2 (pgs Mn) :: (Zm ++ (HA.row a2 c2 106 2 (pgs L2) :: (Z2 ++ (jI dp.bd p s4 ++ (drI dp d8 ++ ([HA.row z8.1 z8.2 5 1 (bs u8)]))))))) from (permU (by intros; simp only [List.count_append, List.count_cons, List.count_nil]; omega)))) ?_
      refine WL.drops (D := [HA.row z8.1 z8.2 5 1 (bs u8)]) (B := HA.row (some ⟨b8, 0, none⟩) 6 106 2 (pgs Mn) :: (Zm ++ (HA.row a2 c2 106 2 (pgs L2) :: (Z2 ++ (jI dp.bd p s4 ++ drI dp d8))))) (permU (by intros; simp only [List.count_append, List.count_cons, List.count_nil]; omega)) ?_
      (repeat (first | refine WL.step (Yl.move rfl) rfl ?_ | refine WL.step (Yl.assign rfl) rfl ?_ | refine WL.step (Yl.extract rfl rfl) rfl ?_ | refine WC.seq ?_ | refine WC.region ?_ | refine WL.nil ?_ | refine WN.then_normal ?_))
      have hd8 : d8.v = { v2 with rd := v2.rd + m6 + m7 + m8 } := hd8
      have hd4b := hd8
      have hp : List.Perm (HA.row (some ⟨b8, 0, none⟩) 6 106 2 (pgs Mn) :: (Zm ++ (HA.row a2 c2 106 2 (pgs L2) :: (Z2 ++ (jI dp.bd p s4 ++ drI dp d8))))) ((jI dp.bd p s4 ++ drI dp d8) ++ (HA.row (some ⟨b8, 0, none⟩) 6 106 2 (pgs Mn) :: (Zm ++ (HA.row a2 c2 106 2 (pgs L2) :: Z2)))) := (permU (by intros; simp only [List.count_append, List.count_cons, List.count_nil]; omega))
      refine WL.callS (g := 16) (A0 := jI dp.bd p s4 ++ drI dp d8) (B := HA.row (some ⟨b8, 0, none⟩) 6 106 2 (pgs Mn) :: (Zm ++ (HA.row a2 c2 106 2 (pgs L2) :: Z2))) (vs := [bptr p.bj, .slice (a2) L2.length (c2)]) (R := JAppV dp p ({ v2 with rd := v2.rd + m6 + m7 + m8 }, rj.adds [rT a1], 2)) Tryz.call16 rfl hp (fun w0 st2 st1 => jappend_v (a2) L2.length (c2) (L2) w0 _ d8ok hd8 s4ok hs4 (japp_arg g1) (show v2.ops < _ by rw [o2]; decide) rfl (by omega) (row_out st2 hp (show HA.row a2 c2 106 2 (pgs L2) ∈ _ by simp only [List.mem_cons, List.mem_append, true_or, or_true])) (fun q hq => inf_out (g4 q hq) (fun x h => by simp only [List.mem_cons, List.mem_append, h, true_or, or_true]) st2 hp) (old_out st2 hp hT.o) st1) rfl fun v C hv => ?_
      clear hp
      obtain ⟨rfl, d9, s9, d9ok, hd9, s9ok, hs9, rfl⟩ := hv
      simp only at hd9 hs9
      refine WL.part (Part.perm (show List.Perm _ (HA.row (some ⟨b8, 0, none⟩) 6 106 2 (pgs Mn) :: (Zm ++ (HA.row a2 c2 106 2 (pgs L2) :: (Z2 ++ (jI dp.bd p s9 ++ drI dp d9))))) from (permU (by intros; simp only [List.count_append, List.count_cons, List.count_nil]; omega)))) ?_
      (repeat (first | refine WL.want rfl rfl rfl ?_ | refine WL.step (Yl.move rfl) rfl ?_ | refine WL.step (Yl.eqlT rfl rfl rfl) rfl ?_))
      have hp : List.Perm (HA.row (some ⟨b8, 0, none⟩) 6 106 2 (pgs Mn) :: (Zm ++ (HA.row a2 c2 106 2 (pgs L2) :: (Z2 ++ (jI dp.bd p s9 ++ drI dp d9))))) ((jI dp.bd p s9 ++ drI dp d9) ++ (HA.row (some ⟨b8, 0, none⟩) 6 106 2 (pgs Mn) :: (Zm ++ (HA.row a2 c2 106 2 (pgs L2) :: Z2)))) := (permU (by intros; simp only [List.count_append, List.count_cons, List.count_nil]; omega))
      refine WL.callS (g := 16) (A0 := jI dp.bd p s9 ++ drI dp d9) (B := HA.row (some ⟨b8, 0, none⟩) 6 106 2 (pgs Mn) :: (Zm ++ (HA.row a2 c2 106 2 (pgs L2) :: Z2))) (vs := [bptr p.bj, .slice (some ⟨b8, 0, none⟩) 6 (6)]) (R := JAppV dp p ({ v2 with rd := v2.rd + m6 + m7 + m8 }, rj.adds [rT a1], 4)) Tryz.call16 rfl hp (fun w0 st2 st1 => jappend_v (some ⟨b8, 0, none⟩) 6 (6) (Mn) w0 _ d9ok hd9 s9ok hs9 (japp_full hm0 (fun h => by have := (fitN_iff (j := rj.adds [rT a1]) (k := Mn.length) (by omega)).1 h; have hu : (rj.adds [rT a1]).used = 6 := rfl; have hn : (rj.adds [rT a1]).n = 30 := rfl; omega)) (show v2.ops < _ by rw [o2]; decide) hml (by decide) (row_out st2 hp (show HA.row (some ⟨b8, 0, none⟩) 6 106 2 (pgs Mn) ∈ _ by simp only [List.mem_cons, List.mem_append, true_or, or_true])) (fun q hq => (hZm q hq).out (fun x h => by simp only [List.mem_cons, List.mem_append, h, true_or, or_true]) st2 hp) (old_out st2 hp hT.o) st1) rfl fun v C hv => ?_
      clear hp
      obtain ⟨rfl, d10, s10, d10ok, hd10, s10ok, hs10, rfl⟩ := hv
      simp only at hd10 hs10
      refine WL.part (Part.perm (show List.Perm _ (HA.row (some ⟨b8, 0, none⟩) 6 106 2 (pgs Mn) :: (Zm ++ (HA.row a2 c2 106 2 (pgs L2) :: (Z2 ++ (jI dp.bd p s10 ++ drI dp d10))))) from (permU (by intros; simp only [List.count_append, List.count_cons, List.count_nil]; omega)))) ?_
      (repeat (first | refine WL.want rfl rfl rfl ?_ | refine WL.step (Yl.move rfl) rfl ?_ | refine WL.step (Yl.pick_t rfl rfl rfl) rfl ?_ | refine WL.step (Yl.eqlT rfl rfl rfl) rfl ?_ | (refine WL.k_slice ?_; refine WL.step (Yl.cutTo (t := 37) (hi := 1) Tryz.underlying37 Tryz.sizeOf106 rfl rfl (by decide)) rfl ?_)))
      rw [cutA_zero]
      skip
      have hp : List.Perm (HA.row (some ⟨b8, 0, none⟩) 6 106 2 (pgs Mn) :: (Zm ++ (HA.row a2 c2 106 2 (pgs L2) :: (Z2 ++ (jI dp.bd p s10 ++ drI dp d10))))) ((jI dp.bd p s10 ++ drI dp d10) ++ (HA.row (some ⟨b8, 0, none⟩) 6 106 2 (pgs Mn) :: (Zm ++ (HA.row a2 c2 106 2 (pgs L2) :: Z2)))) := (permU (by intros; simp only [List.count_append, List.count_cons, List.count_nil]; omega))
      refine WL.callS (g := 16) (A0 := jI dp.bd p s10 ++ drI dp d10) (B := HA.row (some ⟨b8, 0, none⟩) 6 106 2 (pgs Mn) :: (Zm ++ (HA.row a2 c2 106 2 (pgs L2) :: Z2))) (vs := [bptr p.bj, .slice (some ⟨b8, 0, none⟩) 1 (6)]) (R := JAppV dp p ({ v2 with rd := v2.rd + m6 + m7 + m8 }, rj.adds [rT a1], 11)) Tryz.call16 rfl hp (fun w0 st2 st1 => jappend_v (some ⟨b8, 0, none⟩) 1 (6) (Mn.take 1) w0 _ d10ok hd10 s10ok hs10 (japp_down hdn (ones_one hMn) ((fitN_iff (j := rj.adds [rT a1]) (k := (Mn.take 1).length) (by rw [List.length_take, hml]; decide)).2 (by rw [List.length_take, hml]; show 6 + 5 * 1 + 1 ≤ 30; decide))) (show v2.ops < _ by rw [o2]; decide) (by rw [List.length_take, hml]; rfl) (by decide) (by rw [pgs_take]; exact (row_out st2 hp (show HA.row (some ⟨b8, 0, none⟩) 6 106 2 (pgs Mn) ∈ _ by simp only [List.mem_cons, List.mem_append, true_or, or_true])).take (1 * 2)) (fun q hq => (hZm q (List.mem_of_mem_take hq)).out (fun x h => by simp only [List.mem_cons, List.mem_append, h, true_or, or_true]) st2 hp) (old_out st2 hp hT.o) st1) rfl fun v C hv => ?_
      clear hp
      obtain ⟨rfl, d11, s11, d11ok, hd11, s11ok, hs11, rfl⟩ := hv
      simp only at hd11 hs11
      refine WL.part (Part.perm (show List.Perm _ (HA.row (some ⟨b8, 0, none⟩) 6 106 2 (pgs Mn) :: (Zm ++ (HA.row a2 c2 106 2 (pgs L2) :: (Z2 ++ (jI dp.bd p s11 ++ drI dp d11))))) from (permU (by intros; simp only [List.count_append, List.count_cons, List.count_nil]; omega)))) ?_
      (repeat (first | refine WL.want rfl rfl rfl ?_ | refine WL.step (Yl.move rfl) rfl ?_ | refine WL.step (Yl.pick_t rfl rfl rfl) rfl ?_ | refine WL.step (Yl.eqlT rfl rfl rfl) rfl ?_ | refine WL.step (Yl.len (t := 23) (n := 0) Tryz.underlying23 rfl) rfl ?_ | refine WL.step (Yl.not rfl) rfl ?_))
      refine WL.callV (g := 23) (v := .bool true) Tryz.call23 rfl (fun w0 st2 => works35_c w0 (hT.keep st2.kept)) rfl ?_
      (repeat (first | refine WL.step (Yl.assign rfl) rfl ?_ | refine WL.step (Yl.pick_t rfl rfl rfl) rfl ?_ | refine WL.nil ?_ | refine WN.then_normal ?_ | refine WC.ret ?_))
      exact WN.ret1 rfl rfl ⟨rfl, rfl⟩ .nil
end Go.Proofs.YtbkdjfgkebkknaaGreatDoor
