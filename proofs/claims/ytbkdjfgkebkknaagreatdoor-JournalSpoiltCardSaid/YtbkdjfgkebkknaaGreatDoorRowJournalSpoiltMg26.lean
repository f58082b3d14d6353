import Derived.Test.YtbkdjfgkebkknaaGreatDoorRowJournalSpoiltMg25
import Derived.Test.YtbkdjfgkebkknaaGreatDoorRowJournalSpoiltMg7
namespace Go.Proofs.YtbkdjfgkebkknaaGreatDoor
set_option linter.unusedVariables false
set_option linter.unusedSimpArgs false
open Go Go.RowKit
set_option maxRecDepth 100000
set_option maxHeartbeats 16000000
def swj : JV := JV.new 5 50 1
def stc (x : Nat × Nat × Nat) : List Value := [.map (some x.1), .int .i64 (x.2.1 : Int), .int .i64 (x.2.2 : Int)]
def stcs (SX : List (Nat × Nat × Nat)) : List Value := SX.flatMap stc
theorem stcs_len (SX : List (Nat × Nat × Nat)) : (stcs SX).length = SX.length * 3 := flatM_len (f := stc) (k := 3) (fun _ => rfl) SX
theorem stc_at {SX : List (Nat × Nat × Nat)} {i : Nat} {x : Nat × Nat × Nat} (h : SX[i]? = some x) : ((stcs SX).drop (i * 3)).take (stc x).length = stc x := flatM_at (f := stc) (k := 3) (fun _ => rfl) h
theorem stcs_one (SX : List (Nat × Nat × Nat)) : ∀ u ∈ stcs SX, u.oneCell' = true := fun u h => by
  obtain ⟨q, _, hq⟩ := List.mem_flatMap.1 h
  simp only [stc, List.mem_cons, List.not_mem_nil, or_false] at hq
  rcases hq with rfl | rfl | rfl <;> rfl
theorem elemSt : ElemT Tryz.prog 35 (.agg #[.map none, .int .i64 0, .int .i64 0]) 3 24 := ElemT.of (by kernel_rfl) rfl (by decide)
structure SXok (Ts : List (List Pg)) (Z : List HA) (SX : List (Nat × Nat × Nat)) : Prop where
  len : SX.length = Ts.length
  at_ : ∀ (r : Nat) (x : Nat × Nat × Nat), SX[r]? = some x → x.2.1 = (swj.adds (Ts.take r)).used ∧ x.2.2 = (swj.adds (Ts.take r)).tx ∧ ∃ M c, MapIs 4096 (FS (Ts.take r)) M c ∧ HA.blk x.1 (mobj encQ M c) ∈ Z
theorem SXok.nil (Z : List HA) : SXok [] Z [] := ⟨rfl, fun r x h => by simp at h⟩
theorem SXok.snoc {Ts : List (List Pg)} {Z Z' : List HA} {SX : List (Nat × Nat × Nat)} (h : SXok Ts Z SX) (L : List Pg) {bm u t c : Nat} {M : List (Nat × Sl × Nat)} (hu : u = (swj.adds Ts).used) (ht : t = (swj.adds Ts).tx) (hM : MapIs 4096 (FS Ts) M c) (hm : HA.blk bm (mobj encQ M c) ∈ Z') (hz : ∀ x ∈ Z, x ∈ Z') : SXok (Ts ++ [L]) Z' (SX ++ [(bm, u, t)]) := by
  refine ⟨by rw [List.length_append, List.length_append, h.len]; rfl, fun r x hr => ?_⟩
  by_cases hlt : r < SX.length
  · rw [List.getElem?_append_left hlt] at hr
    rw [List.take_append_of_le_length (by rw [← h.len]; omega)]
    obtain ⟨h1, h2, M', c', h3, h4⟩ := h.at_ r x hr
    exact ⟨h1, h2, M', c', h3, hz _ h4⟩
  · have hrl : r = SX.length := by have := (List.getElem?_eq_some_iff.1 hr).1; rw [List.length_append] at this; simp only [List.length_singleton] at this; omega
    subst hrl
    rw [List.getElem?_append_right (Nat.le_refl _), Nat.sub_self] at hr
    simp only [List.getElem?_cons_zero, Option.some.injEq] at hr
    subst hr
    rw [h.len, List.take_left]
    exact ⟨hu, ht, M, c, hM, hm⟩
theorem adds_le (j : JV) (A B : List (List Pg)) : (j.adds A).used ≤ (j.adds (A ++ B)).used := by
  rw [JV.adds, JV.adds, List.foldl_append]; exact (adds_same B _).2.2.2.1
theorem spo_r {Ts : List (List Pg)} {Z : List HA} {SX : List (Nat × Nat × Nat)} (h : SXok Ts Z SX) {Rs : List (List Pg)} {T : List Pg} {Us : List (List Pg)} (hT : Ts = Rs ++ T :: Us) {k r : Nat} {xx : Nat × Nat × Nat} (h1 : (swj.adds Rs).used ≤ k) (h2 : k < ((swj.adds Rs).add T).used)
    (hxr : SX[r]? = some xx) (hxu : r = 0 ∨ xx.2.1 ≤ k) (hxo : ∀ r' x', r < r' → r' < SX.length → SX[r']? = some x' → k < x'.2.1) : Ts.take r = Rs := by
  have hl := h.len
  have hTl : Ts.length = Rs.length + (Us.length + 1) := by rw [hT, List.length_append, List.length_cons]
  have hr := (List.getElem?_eq_some_iff.1 hxr).1
  rcases Nat.lt_trichotomy r Rs.length with hlt | he | hgt
  · obtain ⟨x', hx'⟩ : ∃ x, SX[Rs.length]? = some x := ⟨SX[Rs.length]'(by omega), List.getElem?_eq_getElem (by omega)⟩
    have h3 := hxo _ _ hlt (by omega) hx'
    have e := (h.at_ _ _ hx').1
    rw [hT, List.take_left] at e
    omega
  · rw [he, hT, List.take_left]
  · have hu : xx.2.1 ≤ k := by rcases hxu with h9 | h9; omega; exact h9
    have e := (h.at_ _ _ hxr).1
    obtain ⟨m, hm⟩ : ∃ m, r = Rs.length + 1 + m := ⟨r - Rs.length - 1, by omega⟩
    have e2 : Ts.take r = (Rs ++ [T]) ++ Us.take m := by
      have e3 : Ts = (Rs ++ [T]) ++ Us := by rw [hT]; simp
      have e4 : r = (Rs ++ [T]).length + m := by rw [List.length_append, List.length_singleton]; exact hm
      rw [e3, e4, List.take_length_add_append]
    rw [e2] at e
    have h4 := adds_le swj (Rs ++ [T]) (Us.take m)
    rw [adds_snoc] at h4
    omega
theorem xor_bv5 (a b : UInt8) : Value.int .u8 ((a.toNat ^^^ b.toNat : Nat) : Int) = bv (a ^^^ b) := by unfold bv; rw [UInt8.toNat_xor]
attribute [local irreducible] WL WC WN Yl WH WQ WT WE WU WG WV
theorem lspoilt_c (a : Option Addr) (n cap : Nat) (X : List Tr) (at_ : Nat) (how : UInt8) (w : World) (hT : Tab w) (hat : at_ < 65536) (hl : X.length = n) (hc : n ≤ cap) (hcm : cap ≤ 9223372036854775807) (hr : CellsAt w a (trs X)) (hX : ∀ t ∈ X, t.Ok w) : Calls Tryz.prog 6 #[.slice a n cap, .int .u16 (at_ : Int), .int .u8 (how.toNat : Int)] w (Gives (Val (.bool true)) w) := by
  have h6 : min n 6 ≤ 6 := Nat.min_le_right _ _
  have hn6 : min n 6 ≤ n := Nat.min_le_left _ _
  refine enter (args := [_, _, _]) Tryz.func6 Tryz.ntmps6 rfl rfl ?_
  (repeat (first | refine WL.step (Yl.assign rfl) rfl ?_ | refine WC.seq ?_ | refine WC.region ?_ | refine WL.nil ?_ | refine WN.then_normal ?_))
  refine WL.call (g := 11) Tryz.call11 rfl (fun w0 st2 => dnew_c 60 w0 (by decide) (by decide)) rfl fun v1 B1 hv1 => ?_
  obtain ⟨dp, d0, d0ok, hd0, rfl, rfl⟩ := hv1
  refine WL.part (Part.perm (show List.Perm _ (drI dp d0) from (permU (by intros; simp only [List.count_append, List.count_cons, List.count_nil]; omega)))) ?_
  have hd0 : d0.v = zeroV 60 := hd0
  have hwf0 : BkWf (zeroV 60).d (zeroV 60).F := by rw [← hd0]; exact wf_v d0ok
  have hl0 : (zeroV 60).d.length = 60 := List.length_replicate
  (repeat (first | refine WL.step (Yl.move rfl) rfl ?_ | refine WL.step (Yl.assign rfl) rfl ?_ | refine WL.step (Yl.extract rfl rfl) rfl ?_ | refine WC.seq ?_ | refine WC.region ?_ | refine WL.nil ?_ | refine WN.then_normal ?_))
  refine WL.call (g := 12) Tryz.call12 rfl (fun w0 st2 => jnew_v 5 50 1 w0 (d0ok.at_ st2 (fun x h => by simp only [List.mem_cons, List.mem_append, h, true_or, or_true])) hd0 (by decide) (by decide) (by rw [hl0]; decide)) rfl fun v1 B1 hv1 => ?_
  obtain ⟨p, s0, s0ok, hs0, rfl, rfl⟩ := hv1
  refine WL.part (Part.perm (show List.Perm _ (drI dp d0 ++ jI dp.bd p s0) from (permU (by intros; simp only [List.count_append, List.count_cons, List.count_nil]; omega)))) ?_
  have hs0 : s0.v = swj := hs0
  have k0 : Jok (zeroV 60) swj [] := jok_new ⟨rfl, rfl⟩ hwf0 (by rw [hl0]; decide) (by decide) (by decide) (zeroV_clean (by decide) (by decide))
  (repeat (first | refine WL.want rfl rfl rfl ?_ | refine WL.step (Yl.move rfl) rfl ?_ | refine WL.step (Yl.assign rfl) rfl ?_ | refine WL.step (Yl.extract rfl rfl) rfl ?_ | refine WL.step (Yl.pick_f rfl rfl rfl) rfl ?_ | refine WL.step (Yl.neqF rfl rfl rfl) rfl ?_ | refine WC.seq ?_ | refine WC.region ?_ | refine WL.nil ?_ | refine WN.then_normal ?_))
  refine WC.cond_false rfl rfl ?_
  (repeat (first | refine WL.step (Yl.assign rfl) rfl ?_ | refine WC.seq ?_ | refine WC.region ?_ | refine WL.nil ?_ | refine WN.then_normal ?_ | refine WC.skip ?_))
  refine WL.call (g := 13) Tryz.call13 rfl (fun w0 st2 => fresh_c w0) rfl fun v1 B1 hv1 => ?_
  obtain ⟨bm0, M0, c0, hM0, rfl, rfl⟩ := hv1
  refine WL.part (Part.perm (show List.Perm _ (drI dp d0 ++ (jI dp.bd p s0 ++ ([HA.blk bm0 (mobj encQ M0 c0)]))) from (permU (by intros; simp only [List.count_append, List.count_cons, List.count_nil]; omega)))) ?_
  refine WL.allocA Tryz.zeroValue35 rfl fun b12 => ?_
  refine WL.storeWhole (T := 35) (k := 3) Tryz.sizeOf35 rfl rfl rfl .here rfl rfl ?_
  refine WL.part (Part.perm (show List.Perm _ (HA.blk b12 (.cells #[.map (some bm0), .int .i64 ((0 : Nat) : Int), .int .i64 ((0 : Nat) : Int)] 35 (0, 0)) :: HA.blk bm0 (mobj encQ M0 c0) :: (jI dp.bd p s0 ++ drI dp d0)) from (permU (by intros; simp only [List.count_append, List.count_cons, List.count_nil]; omega)))) ?_
  (repeat (first | refine WL.step (Yl.move rfl) rfl ?_ | refine WL.step (Yl.len (t := 22) Tryz.underlying22 rfl) rfl ?_ | refine WL.step (Yl.min2N (m := n) (n := 6) rfl rfl) rfl ?_ | (refine WL.k_slice ?_; refine WL.step (Yl.cutTo (t := 22) (hi := min n 6) Tryz.underlying22 Tryz.sizeOf25 rfl rfl (by omega)) rfl ?_) | refine WC.seq ?_ | refine WC.region ?_ | refine WL.nil ?_ | refine WN.then_normal ?_ | refine WC.block ?_))
  rw [cutA_zero]
  refine WC.loop (α := Nat × List (List Pg) × DS × JS × Nat × List (Nat × Sl × Nat) × Nat × List HA × (Option Addr × Nat) × List (Nat × Nat × Nat))
    (fun g => match g with | (i, Ts, d, s, bm, M, c, Z, sa, SX) => [(1, .int .u16 (at_ : Int)), (2, .int .u8 (how.toNat : Int)), (7, bptr dp.bd), (9, bptr p.bj), (11, .slice sa.1 SX.length sa.2), (12, .pointer (some ⟨b12, 0, none⟩)), (42, .slice a (min n 6) cap), (43, .int .i64 ((min n 6 : Nat) : Int)), (44, .int .i64 (i : Int))])
    (fun g => match g with | (i, Ts, d, s, bm, M, c, Z, sa, SX) => HA.blk b12 (.cells #[.map (some bm), .int .i64 (((swj.adds Ts).used : Nat) : Int), .int .i64 (((swj.adds Ts).tx : Nat) : Int)] 35 (0, 0)) :: HA.row sa.1 sa.2 35 3 (stcs SX) :: .blk bm (mobj encQ M c) :: (Z ++ (jI dp.bd p s ++ drI dp d)))
    (fun g => match g with | (i, Ts, d, s, bm, M, c, Z, sa, SX) => i ≤ min n 6 ∧ d.Ok dp ∧ Jok d.v swj Ts ∧ s.Ok ∧ s.v = swj.adds Ts ∧ MapIs 4096 (FS Ts) M c ∧ d.v.ops ≤ 22 * i ∧ d.v.rd = 0 ∧ d.v.d.length = 60 ∧ SXok Ts Z SX ∧ SX.length ≤ i ∧ SX.length ≤ sa.2)
    (fun g => match g with | (i, Ts, d, s, bm, M, c, Z, sa, SX) => min n 6 - i) (0, [], d0, s0, bm0, M0, c0, [], (none, 0), []) (by show Sub _ [_, _, _, _, _, _, _, _, _]; (repeat (first | exact Sub.nil | refine Sub.cons rfl rfl ?_))) (.cons .here (.free (.cons .here (Part.refl _)))) ⟨Nat.zero_le _, d0ok, by rw [hd0]; exact k0, s0ok, hs0, hM0, by rw [hd0]; exact Nat.le_refl _, by rw [hd0]; rfl, by rw [hd0]; exact hl0, SXok.nil _, Nat.le_refl _, Nat.le_refl _⟩ ?_
  rintro ⟨i, Ts, d, s, bm, M, c, Z, sa, SX⟩ ⟨hi, dok, hk, sok, hs, hM, hops, hrd, hdl, hSX, hSi, hSc⟩
  simp only
  have hfit := hk.fit
  have htx := hk.tx
  have hfn : swj.n = 50 := rfl
  obtain ⟨j1, j2, j3, j4, j5⟩ := adds_same Ts swj
  (repeat (first | refine WL.step (Yl.lss rfl rfl) rfl ?_ | refine WC.seq ?_ | refine WC.region ?_ | refine WL.nil ?_ | refine WN.then_normal ?_))
  refine WC.ite rfl (fun h1 => ?_) (fun h1 => ?_)
  · have hin : i < n := by omega
    obtain ⟨t, ht⟩ : ∃ t, X[i]? = some t := ⟨X[i]'(by omega), List.getElem?_eq_getElem (by omega)⟩
    have htm2 := List.mem_of_getElem? ht
    (repeat (first | (refine WL.k_load ?_; refine WL.step (Yl.loadEl t.cs Tryz.isAgg25 Tryz.sizeOf25 rfl (Rd.old hr) rfl (by simp [Tr.cs]) (tr_at ht)) rfl ?_) | (refine WL.k_idxa ?_; refine WL.step (Yl.indexAddr (t := 22) (j := i) Tryz.underlying22 Tryz.sizeOf25 rfl rfl (Rd.old hr) (trs_ne ht) (by omega)) rfl ?_) | refine WC.seq ?_ | refine WC.region ?_ | refine WN.then_normal ?_ | refine WC.block ?_ | refine WC.skip ?_))
    refine WL.allocA Tryz.zeroValue25 rfl fun b14 => ?_
    refine WL.storeWhole (T := 25) (k := 2) Tryz.sizeOf25 rfl rfl rfl .here rfl rfl ?_
    rw [show t.cs.toArray = #[.slice t.a t.nos.length t.c, bv t.fill] from rfl]
    (repeat (first | (refine WL.k_load ?_; refine WL.step (Yl.loadAll (T := 25) (T' := 25) Tryz.isAgg25 Tryz.sizeOf25 rfl (by repeat (first | exact .head _ | refine .tail _ ?_)) rfl) rfl ?_) | refine WC.seq ?_ | refine WC.region ?_ | refine WL.nil ?_ | refine WN.then_normal ?_))
    refine WL.call (g := 14) Tryz.call14 rfl (fun w0 st2 => tpages_c t w0 ((hX t htm2).keep st2.kept)) rfl fun v1 B1 hv1 => ?_
    obtain ⟨pa, pc, L, ZL, hpc, hLT, hLZ, rfl, rfl⟩ := hv1
    refine WL.part (Part.perm (show List.Perm _ (HA.blk b12 (.cells #[.map (some bm), .int .i64 (((swj.adds Ts).used : Nat) : Int), .int .i64 (((swj.adds Ts).tx : Nat) : Int)] 35 (0, 0)) :: HA.row sa.1 sa.2 35 3 (stcs SX) :: HA.blk bm (mobj encQ M c) :: (Z ++ (jI dp.bd p s ++ (drI dp d ++ (HA.blk b14 (.cells #[.slice t.a t.nos.length t.c, bv t.fill] 25 (0, 0)) :: HA.row pa pc 106 2 (pgs L) :: ZL))))) from (permU (by intros; simp only [List.count_append, List.count_cons, List.count_nil]; omega)))) ?_
    obtain ⟨hpk, hLl⟩ := tp_ok hLT
    have hL4 : L.length ≤ 4 := by rw [hLl]; exact nosD_len _
    have hL0 : 1 ≤ L.length := List.length_pos_iff.2 (pchk_ok hpk).1
    (repeat (first | refine WL.step (Yl.move rfl) rfl ?_ | refine WL.step (Yl.assign rfl) rfl ?_ | refine WC.seq ?_ | refine WC.region ?_ | refine WL.nil ?_ | refine WN.then_normal ?_))
    by_cases hf : (swj.adds Ts).used + 5 * L.length + 1 ≤ 50
    · obtain ⟨v2, e2, k2, l2, o2, r2, h2, g2, n2⟩ := hk.append hpk (by rw [hfn]; exact hf)
      have hp : List.Perm (HA.blk b12 (.cells #[.map (some bm), .int .i64 (((swj.adds Ts).used : Nat) : Int), .int .i64 (((swj.adds Ts).tx : Nat) : Int)] 35 (0, 0)) :: HA.row sa.1 sa.2 35 3 (stcs SX) :: HA.blk bm (mobj encQ M c) :: (Z ++ (jI dp.bd p s ++ (drI dp d ++ (HA.blk b14 (.cells #[.slice t.a t.nos.length t.c, bv t.fill] 25 (0, 0)) :: HA.row pa pc 106 2 (pgs L) :: ZL))))) ((jI dp.bd p s ++ drI dp d) ++ (HA.blk b12 (.cells #[.map (some bm), .int .i64 (((swj.adds Ts).used : Nat) : Int), .int .i64 (((swj.adds Ts).tx : Nat) : Int)] 35 (0, 0)) :: HA.row sa.1 sa.2 35 3 (stcs SX) :: HA.blk bm (mobj encQ M c) :: (Z ++ (HA.blk b14 (.cells #[.slice t.a t.nos.length t.c, bv t.fill] 25 (0, 0)) :: HA.row pa pc 106 2 (pgs L) :: ZL)))) := (permU (by intros; simp only [List.count_append, List.count_cons, List.count_nil]; omega))
      refine WL.callS (A0 := jI dp.bd p s ++ drI dp d) (B := HA.blk b12 (.cells #[.map (some bm), .int .i64 (((swj.adds Ts).used : Nat) : Int), .int .i64 (((swj.adds Ts).tx : Nat) : Int)] 35 (0, 0)) :: HA.row sa.1 sa.2 35 3 (stcs SX) :: HA.blk bm (mobj encQ M c) :: (Z ++ (HA.blk b14 (.cells #[.slice t.a t.nos.length t.c, bv t.fill] 25 (0, 0)) :: HA.row pa pc 106 2 (pgs L) :: ZL))) (vs := [bptr p.bj, .slice pa L.length pc]) (R := JAppV dp p (v2, swj.adds (Ts ++ [L]), 0)) Tryz.call16 rfl hp (fun w0 st2 st1 => jappend_v pa L.length pc L w0 _ dok rfl sok hs e2 (show d.v.ops < _ by omega) rfl (by omega) (row_out st2 hp (show HA.row pa pc 106 2 (pgs L) ∈ _ by simp only [List.mem_cons, List.mem_append, true_or, or_true])) (fun q hq => inf_out (hLZ q hq) (fun x h => by simp only [List.mem_cons, List.mem_append, h, true_or, or_true]) st2 hp) (old_out st2 hp hT.o) st1) rfl fun v C hv => ?_
      clear hp
      obtain ⟨rfl, d2, s2, d2ok, hd2, s2ok, hs2, rfl⟩ := hv
      simp only at hd2 hs2
      refine WL.part (Part.perm (show List.Perm _ (HA.blk b12 (.cells #[.map (some bm), .int .i64 (((swj.adds Ts).used : Nat) : Int), .int .i64 (((swj.adds Ts).tx : Nat) : Int)] 35 (0, 0)) :: HA.row sa.1 sa.2 35 3 (stcs SX) :: HA.blk bm (mobj encQ M c) :: (Z ++ (jI dp.bd p s2 ++ (drI dp d2 ++ (HA.blk b14 (.cells #[.slice t.a t.nos.length t.c, bv t.fill] 25 (0, 0)) :: HA.row pa pc 106 2 (pgs L) :: ZL))))) from (permU (by intros; simp only [List.count_append, List.count_cons, List.count_nil]; omega)))) ?_
      (repeat (first | refine WL.step (Yl.eqlT rfl rfl rfl) rfl ?_ | refine WL.nil ?_ | refine WN.then_normal ?_))
      refine WC.cond_true rfl rfl ?_
      (repeat (first | refine WL.step (Yl.move rfl) rfl ?_ | (refine WL.k_load ?_; refine WL.step (Yl.loadAll (T := 35) (T' := 35) Tryz.isAgg35 Tryz.sizeOf35 rfl (by repeat (first | exact .head _ | refine .tail _ ?_)) rfl) rfl ?_) | refine WC.seq ?_ | refine WC.region ?_))
      refine WL.lit (vs := [.agg #[.map (some bm), .int .i64 ((swj.adds Ts).used : Int), .int .i64 ((swj.adds Ts).tx : Int)]]) Tryz.underlying87 elemSt rfl rfl rfl (fun u hu => by simp at hu; subst hu; rfl) rfl fun b20 => ?_
      rw [show flat [Value.agg #[.map (some bm), .int .i64 ((swj.adds Ts).used : Int), .int .i64 ((swj.adds Ts).tx : Int)]] = stcs [(bm, (swj.adds Ts).used, (swj.adds Ts).tx)] from rfl]
      refine WL.part (Part.perm (show List.Perm _ (HA.row sa.1 sa.2 35 3 (stcs SX) :: HA.blk b12 (.cells #[.map (some bm), .int .i64 (((swj.adds Ts).used : Nat) : Int), .int .i64 (((swj.adds Ts).tx : Nat) : Int)] 35 (0, 0)) :: HA.blk bm (mobj encQ M c) :: (Z ++ (jI dp.bd p s2 ++ (drI dp d2 ++ (HA.blk b14 (.cells #[.slice t.a t.nos.length t.c, bv t.fill] 25 (0, 0)) :: HA.row pa pc 106 2 (pgs L) :: (ZL ++ ([HA.row (some ⟨b20, 0, none⟩) 1 35 3 (stcs [(bm, (swj.adds Ts).used, (swj.adds Ts).tx)])]))))))) from (permU (by intros; simp only [List.count_append, List.count_cons, List.count_nil]; omega)))) ?_
      skip
      refine WL.appendRow (n := SX.length) (m := 1) (olds := stcs SX) (news := stcs [(bm, (swj.adds Ts).used, (swj.adds Ts).tx)]) Tryz.underlying87 elemSt rfl rfl .here (stcs_len SX) hSc (Rd.row (show HA.row (some ⟨b20, 0, none⟩) 1 35 3 (stcs [(bm, (swj.adds Ts).used, (swj.adds Ts).tx)]) ∈ _ by simp only [List.mem_cons, List.mem_append, true_or, or_true])) rfl (stcs_one _) (by omega) (by simp only [maxLen]; omega) rfl fun q2 hq2 => ?_
      rw [show stcs SX ++ stcs [(bm, (swj.adds Ts).used, (swj.adds Ts).tx)] = stcs (SX ++ [(bm, (swj.adds Ts).used, (swj.adds Ts).tx)]) from List.flatMap_append.symm]
      refine WL.drops (D := [HA.row (some ⟨b20, 0, none⟩) 1 35 3 (stcs [(bm, (swj.adds Ts).used, (swj.adds Ts).tx)])]) (B := HA.blk b12 (.cells #[.map (some bm), .int .i64 (((swj.adds Ts).used : Nat) : Int), .int .i64 (((swj.adds Ts).tx : Nat) : Int)] 35 (0, 0)) :: HA.row q2.1 q2.2 35 3 (stcs (SX ++ [(bm, (swj.adds Ts).used, (swj.adds Ts).tx)])) :: HA.blk bm (mobj encQ M c) :: (Z ++ (jI dp.bd p s2 ++ (drI dp d2 ++ (HA.blk b14 (.cells #[.slice t.a t.nos.length t.c, bv t.fill] 25 (0, 0)) :: HA.row pa pc 106 2 (pgs L) :: ZL))))) (permU (by intros; simp only [List.count_append, List.count_cons, List.count_nil]; omega)) ?_
      (repeat (first | refine WL.step (Yl.move rfl) rfl ?_ | refine WL.step (Yl.assign rfl) rfl ?_ | (refine WL.k_load ?_; refine WL.step (Yl.loadAll (T := 35) (T' := 35) Tryz.isAgg35 Tryz.sizeOf35 rfl (by repeat (first | exact .head _ | refine .tail _ ?_)) rfl) rfl ?_) | refine WC.region ?_ | refine WL.nil ?_ | refine WN.then_normal ?_))
      refine WL.call (g := 17) Tryz.call17 rfl (fun w0 st2 => with_c bm (swj.adds Ts).used (swj.adds Ts).tx (FS Ts) M c pa L.length pc L w0 (by omega) (by omega) rfl (by omega) (pchk_ok hpk).2 hM (st2.holds _ (show HA.blk bm (mobj encQ M c) ∈ _ by simp only [List.mem_cons, List.mem_append, true_or, or_true])) (Rd.row (show HA.row pa pc 106 2 (pgs L) ∈ _ by simp only [List.mem_cons, List.mem_append, true_or, or_true]) w0 st2)) rfl fun v1 B1 hv1 => ?_
      obtain ⟨bm2, M2, c2, hM2, rfl, rfl⟩ := hv1
      refine WL.part (Part.perm (show List.Perm _ (HA.blk b12 (.cells #[.map (some bm), .int .i64 (((swj.adds Ts).used : Nat) : Int), .int .i64 (((swj.adds Ts).tx : Nat) : Int)] 35 (0, 0)) :: HA.row q2.1 q2.2 35 3 (stcs (SX ++ [(bm, (swj.adds Ts).used, (swj.adds Ts).tx)])) :: HA.blk bm (mobj encQ M c) :: (Z ++ (jI dp.bd p s2 ++ (drI dp d2 ++ (HA.blk b14 (.cells #[.slice t.a t.nos.length t.c, bv t.fill] 25 (0, 0)) :: HA.row pa pc 106 2 (pgs L) :: (ZL ++ ([HA.blk bm2 (mobj encQ M2 c2)]))))))) from (permU (by intros; simp only [List.count_append, List.count_cons, List.count_nil]; omega)))) ?_
      rw [show (swj.adds Ts).used + 5 * L.length + 1 = (swj.adds (Ts ++ [L])).used by rw [adds_snoc]; rfl, show (swj.adds Ts).tx + 1 = (swj.adds (Ts ++ [L])).tx by rw [adds_snoc]; rfl]
      refine WL.storeWhole (T := 35) (k := 3) Tryz.sizeOf35 rfl rfl rfl .here rfl rfl ?_
      rw [← FS_snoc] at hM2
      (repeat (first | refine WL.step (Yl.move rfl) rfl ?_ | (refine WL.k_bin .add ?_; refine WL.step (Yl.add64C rfl (by omega)) rfl ?_) | refine WC.region ?_ | refine WL.nil ?_ | refine WN.then_normal ?_ | refine WN.block_normal ?_))
      refine WN.drops (D := HA.blk b14 (.cells #[.slice t.a t.nos.length t.c, bv t.fill] 25 (0, 0)) :: HA.row pa pc 106 2 (pgs L) :: ZL) (B := HA.blk b12 (.cells #[.map (some bm2), .int .i64 (((swj.adds (Ts ++ [L])).used : Nat) : Int), .int .i64 (((swj.adds (Ts ++ [L])).tx : Nat) : Int)] 35 (0, 0)) :: HA.row q2.1 q2.2 35 3 (stcs (SX ++ [(bm, (swj.adds Ts).used, (swj.adds Ts).tx)])) :: HA.blk bm2 (mobj encQ M2 c2) :: HA.blk bm (mobj encQ M c) :: (Z ++ (jI dp.bd p s2 ++ drI dp d2))) (permU (by intros; simp only [List.count_append, List.count_cons, List.count_nil]; omega)) ?_
      rw [show SX.length + 1 = (SX ++ [(bm, (swj.adds Ts).used, (swj.adds Ts).tx)]).length by rw [List.length_append]; rfl] at *
      exact WN.next (i + 1, Ts ++ [L], d2, s2, bm2, M2, c2, HA.blk bm (mobj encQ M c) :: Z, q2, SX ++ [(bm, (swj.adds Ts).used, (swj.adds Ts).tx)]) ⟨by simp only; omega, d2ok, by rw [hd2]; exact k2, s2ok, hs2, hM2, by rw [hd2]; show v2.ops ≤ 22 * (i + 1); omega, by rw [hd2]; show v2.rd = 0; omega, by rw [hd2]; show v2.d.length = 60; omega, hSX.snoc L rfl rfl hM (.head _) (fun x h => .tail _ h), by rw [List.length_append]; show SX.length + 1 ≤ i + 1; omega, hq2⟩ (by simp only; omega) (by repeat (first | exact Sub.nil | refine Sub.cons rfl rfl ?_)) (Part.refl _)
    · have hp : List.Perm (HA.blk b12 (.cells #[.map (some bm), .int .i64 (((swj.adds Ts).used : Nat) : Int), .int .i64 (((swj.adds Ts).tx : Nat) : Int)] 35 (0, 0)) :: HA.row sa.1 sa.2 35 3 (stcs SX) :: HA.blk bm (mobj encQ M c) :: (Z ++ (jI dp.bd p s ++ (drI dp d ++ (HA.blk b14 (.cells #[.slice t.a t.nos.length t.c, bv t.fill] 25 (0, 0)) :: HA.row pa pc 106 2 (pgs L) :: ZL))))) ((jI dp.bd p s ++ drI dp d) ++ (HA.blk b12 (.cells #[.map (some bm), .int .i64 (((swj.adds Ts).used : Nat) : Int), .int .i64 (((swj.adds Ts).tx : Nat) : Int)] 35 (0, 0)) :: HA.row sa.1 sa.2 35 3 (stcs SX) :: HA.blk bm (mobj encQ M c) :: (Z ++ (HA.blk b14 (.cells #[.slice t.a t.nos.length t.c, bv t.fill] 25 (0, 0)) :: HA.row pa pc 106 2 (pgs L) :: ZL)))) := (permU (by intros; simp only [List.count_append, List.count_cons, List.count_nil]; omega))
      refine WL.callS (A0 := jI dp.bd p s ++ drI dp d) (B := HA.blk b12 (.cells #[.map (some bm), .int .i64 (((swj.adds Ts).used : Nat) : Int), .int .i64 (((swj.adds Ts).tx : Nat) : Int)] 35 (0, 0)) :: HA.row sa.1 sa.2 35 3 (stcs SX) :: HA.blk bm (mobj encQ M c) :: (Z ++ (HA.blk b14 (.cells #[.slice t.a t.nos.length t.c, bv t.fill] 25 (0, 0)) :: HA.row pa pc 106 2 (pgs L) :: ZL))) (vs := [bptr p.bj, .slice pa L.length pc]) (R := JAppV dp p (d.v, swj.adds Ts, 4)) Tryz.call16 rfl hp (fun w0 st2 st1 => jappend_v pa L.length pc L w0 _ dok rfl sok hs (japp_full hpk (fun h => hf (by have := (fitN_iff hL0).1 h; rwa [j2, hfn] at this))) (show d.v.ops < _ by omega) rfl (by omega) (row_out st2 hp (show HA.row pa pc 106 2 (pgs L) ∈ _ by simp only [List.mem_cons, List.mem_append, true_or, or_true])) (fun q hq => inf_out (hLZ q hq) (fun x h => by simp only [List.mem_cons, List.mem_append, h, true_or, or_true]) st2 hp) (old_out st2 hp hT.o) st1) rfl fun v C hv => ?_
      clear hp
      obtain ⟨rfl, d2, s2, d2ok, hd2, s2ok, hs2, rfl⟩ := hv
      simp only at hd2 hs2
      refine WL.part (Part.perm (show List.Perm _ (HA.blk b12 (.cells #[.map (some bm), .int .i64 (((swj.adds Ts).used : Nat) : Int), .int .i64 (((swj.adds Ts).tx : Nat) : Int)] 35 (0, 0)) :: HA.row sa.1 sa.2 35 3 (stcs SX) :: HA.blk bm (mobj encQ M c) :: (Z ++ (jI dp.bd p s2 ++ (drI dp d2 ++ (HA.blk b14 (.cells #[.slice t.a t.nos.length t.c, bv t.fill] 25 (0, 0)) :: HA.row pa pc 106 2 (pgs L) :: ZL))))) from (permU (by intros; simp only [List.count_append, List.count_cons, List.count_nil]; omega)))) ?_
      (repeat (first | refine WL.step (Yl.eql rfl rfl) rfl ?_ | refine WL.nil ?_ | refine WN.then_normal ?_))
      refine WC.cond_false rfl rfl ?_
      (repeat (first | refine WL.step (Yl.move rfl) rfl ?_ | (refine WL.k_bin .add ?_; refine WL.step (Yl.add64C rfl (by omega)) rfl ?_) | refine WC.region ?_ | refine WL.nil ?_ | refine WN.then_normal ?_ | refine WC.skip ?_ | refine WN.block_normal ?_))
      refine WN.drops (D := HA.blk b14 (.cells #[.slice t.a t.nos.length t.c, bv t.fill] 25 (0, 0)) :: HA.row pa pc 106 2 (pgs L) :: ZL) (B := HA.blk b12 (.cells #[.map (some bm), .int .i64 (((swj.adds Ts).used : Nat) : Int), .int .i64 (((swj.adds Ts).tx : Nat) : Int)] 35 (0, 0)) :: HA.row sa.1 sa.2 35 3 (stcs SX) :: HA.blk bm (mobj encQ M c) :: (Z ++ (jI dp.bd p s2 ++ drI dp d2))) (permU (by intros; simp only [List.count_append, List.count_cons, List.count_nil]; omega)) ?_
      exact WN.next (i + 1, Ts, d2, s2, bm, M, c, Z, sa, SX) ⟨by simp only; omega, d2ok, by rw [hd2]; exact hk, s2ok, hs2, hM, by rw [hd2]; show d.v.ops ≤ 22 * (i + 1); omega, by rw [hd2]; exact hrd, by rw [hd2]; exact hdl, hSX, by show SX.length ≤ i + 1; omega, hSc⟩ (by simp only; omega) (by repeat (first | exact Sub.nil | refine Sub.cons rfl rfl ?_)) (Part.refl _)
  · obtain ⟨U, hU⟩ : ∃ u, u = (swj.adds Ts).used := ⟨_, rfl⟩
    (repeat (first | (refine WL.k_load ?_; refine WL.step (Yl.loadBlk (T := 3) Tryz.isAgg3 rfl (by repeat (first | exact .head _ | refine .tail _ ?_)) (by rfl)) rfl ?_) | (refine WL.k_fld ?_; refine WL.step (Yl.fldN0 (i := 1) (o := 1) (by kernel_rfl) rfl) rfl ?_) | refine WL.step (Yl.eql rfl rfl) rfl ?_ | refine WC.seq ?_ | refine WC.region ?_ | refine WL.nil ?_ | refine WN.then_normal ?_ | refine WC.exit ?_ | refine WN.then_exit ?_ | refine WN.block_here ?_))
    refine WC.ite rfl (fun h2 => ?_) (fun h2 => ?_)
    · (repeat (first | refine WC.seq ?_ | refine WC.region ?_))
      refine WL.callV (g := 23) (v := .bool true) Tryz.call23 rfl (fun w0 st2 => works35_c w0 (hT.keep st2.kept)) rfl ?_
      (repeat (first | refine WL.step (Yl.assign rfl) rfl ?_ | refine WL.nil ?_ | refine WN.then_normal ?_ | refine WC.ret ?_ | refine WN.then_ret ?_))
      exact WN.ret1 rfl rfl ⟨rfl, rfl⟩ .nil
    · have hU0 : 0 < (swj.adds Ts).used := by omega
      obtain ⟨i0, hi0⟩ : ∃ k, k = at_ % (128 * (swj.adds Ts).used) := ⟨_, rfl⟩
      have hi0l : i0 < 128 * (swj.adds Ts).used := by rw [hi0]; exact Nat.mod_lt _ (by omega)
      (repeat (first | refine WL.step (Yl.move rfl) rfl ?_ | refine WL.step (Yl.assign rfl) rfl ?_ | (refine WL.k_load ?_; refine WL.step (Yl.loadBlk (T := 3) Tryz.isAgg3 rfl (by repeat (first | exact .head _ | refine .tail _ ?_)) (by rfl)) rfl ?_) | (refine WL.k_fld ?_; refine WL.step (Yl.fldN0 (i := 1) (o := 1) (by kernel_rfl) rfl) rfl ?_) | (refine WL.k_conv ?_; refine WL.step (Yl.conv64 (m := at_) Tryz.underlying86 Tryz.underlying3 rfl (by omega)) rfl ?_) | (refine WL.k_bin .mul ?_; refine WL.step (Yl.mulC64 (m := (swj.adds Ts).used) rfl (by omega)) rfl ?_) | (refine WL.k_bin .rem ?_; refine WL.step (Yl.remN (m := at_) (n := 128 * (swj.adds Ts).used) rfl rfl (by omega)) rfl ?_) | (refine WL.k_bin .quo ?_; refine WL.step (Yl.quo64N (m := at_ % (128 * (swj.adds Ts).used)) (n := 128) rfl rfl (by omega) (by decide)) rfl ?_) | (refine WL.k_bin .add ?_; refine WL.step (Yl.addC64 (m := at_ % (128 * (swj.adds Ts).used) / 128) rfl (by omega)) rfl ?_) | refine WC.seq ?_ | refine WC.region ?_ | refine WL.nil ?_ | refine WN.then_normal ?_ | refine WC.skip ?_))
      rw [← hi0]
      have hu50 : (swj.adds Ts).used ≤ 50 := hfit
      have hkU : i0 / 128 < (swj.adds Ts).used := by omega
      obtain ⟨sc, hsc⟩ : ∃ l, l = secV d.v (5 + i0 / 128) := ⟨_, rfl⟩
      have hsl : sc.length = 128 := by rw [hsc]; exact secV_len hk.wf (by omega)
      have hrdv : d.v.read ((5 + i0 / 128 : Nat) : Int) = ({ d.v with rd := d.v.rd + 1 }, (sc, 0)) := by
        have r1 : readR d.v.d d.v.F ((5 + i0 / 128 : Nat) : Int) = (sc, 0) := by have := readR_at hk.wf (k := 5 + i0 / 128) (by omega); rw [hsc]; exact Prod.ext this.1 this.2.1
        rw [DV.read, if_neg (by rw [hk.calm.up]; decide), r1]
        rfl
      have hp : List.Perm (HA.blk b12 (.cells #[.map (some bm), .int .i64 (((swj.adds Ts).used : Nat) : Int), .int .i64 (((swj.adds Ts).tx : Nat) : Int)] 35 (0, 0)) :: HA.row sa.1 sa.2 35 3 (stcs SX) :: HA.blk bm (mobj encQ M c) :: (Z ++ (jI dp.bd p s ++ drI dp d))) ((drI dp d) ++ (HA.blk b12 (.cells #[.map (some bm), .int .i64 (((swj.adds Ts).used : Nat) : Int), .int .i64 (((swj.adds Ts).tx : Nat) : Int)] 35 (0, 0)) :: HA.row sa.1 sa.2 35 3 (stcs SX) :: HA.blk bm (mobj encQ M c) :: (Z ++ jI dp.bd p s))) := (permU (by intros; simp only [List.count_append, List.count_cons, List.count_nil]; omega))
      refine WL.callS (A0 := drI dp d) (B := HA.blk b12 (.cells #[.map (some bm), .int .i64 (((swj.adds Ts).used : Nat) : Int), .int .i64 (((swj.adds Ts).tx : Nat) : Int)] 35 (0, 0)) :: HA.row sa.1 sa.2 35 3 (stcs SX) :: HA.blk bm (mobj encQ M c) :: (Z ++ jI dp.bd p s)) (vs := [bptr dp.bd, .int .i64 ((5 + i0 / 128 : Nat) : Int)]) (R := DrdV dp { d.v with rd := d.v.rd + 1 } (sc, 0)) Tryz.call37 rfl hp (fun w0 st2 st1 => by have := dread_r (p := dp) ((5 + i0 / 128 : Nat) : Int) d w0 dok (show d.v.rd < _ by omega) st1; rw [hrdv] at this; exact this) rfl fun v C hv => ?_
      clear hp
      obtain ⟨ba, bc, hbc, rfl, d1, d1ok, hd1, rfl⟩ := hv
      simp only at hbc ⊢
      rw [hsl] at hbc ⊢
      refine WL.part (Part.perm (show List.Perm _ (HA.blk b12 (.cells #[.map (some bm), .int .i64 (((swj.adds Ts).used : Nat) : Int), .int .i64 (((swj.adds Ts).tx : Nat) : Int)] 35 (0, 0)) :: HA.row sa.1 sa.2 35 3 (stcs SX) :: HA.blk bm (mobj encQ M c) :: (Z ++ (jI dp.bd p s ++ (drI dp d1 ++ ([HA.row ba bc 151 1 (bs sc)]))))) from (permU (by intros; simp only [List.count_append, List.count_cons, List.count_nil]; omega)))) ?_
      (repeat (first | refine WL.want rfl rfl rfl ?_ | refine WL.step (Yl.move rfl) rfl ?_ | refine WL.step (Yl.assign rfl) rfl ?_ | refine WL.step (Yl.extract rfl rfl) rfl ?_ | refine WL.step (Yl.pick_f rfl rfl rfl) rfl ?_ | refine WL.step (Yl.neqF rfl rfl rfl) rfl ?_ | refine WL.step (Yl.len (t := 23) Tryz.underlying23 rfl) rfl ?_ | refine WC.seq ?_ | refine WC.region ?_ | refine WL.nil ?_ | refine WN.then_normal ?_))
      refine WC.cond_false rfl rfl ?_
      (repeat (first | refine WL.step (Yl.move rfl) rfl ?_ | (refine WL.k_bin .rem ?_; refine WL.step (Yl.remN (m := i0) (n := 128) rfl rfl (by decide)) rfl ?_) | refine WL.step (Yl.eql rfl rfl) rfl ?_ | refine WC.seq ?_ | refine WC.region ?_ | refine WL.nil ?_ | refine WN.then_normal ?_ | refine WC.skip ?_))
      refine WC.join (α := Nat) (fun g => [(2, .int .u8 (how.toNat : Int)), (7, bptr dp.bd), (9, bptr p.bj), (11, .slice sa.1 SX.length sa.2), (12, .pointer (some ⟨b12, 0, none⟩)), (16, .int .i64 (g : Int)), (17, .slice ba 128 bc)]) (fun _ => HA.blk b12 (.cells #[.map (some bm), .int .i64 (((swj.adds Ts).used : Nat) : Int), .int .i64 (((swj.adds Ts).tx : Nat) : Int)] 35 (0, 0)) :: HA.row sa.1 sa.2 35 3 (stcs SX) :: HA.blk bm (mobj encQ M c) :: (Z ++ (jI dp.bd p s ++ (drI dp d1 ++ ([HA.row ba bc 151 1 (bs sc)]))))) (fun g => g / 128 = i0 / 128 ∧ g % 128 ≠ 8 ∧ g < 10000) ?_ ?_
      · refine WC.ite rfl (fun h3 => ?_) (fun h3 => ?_)
        · (repeat (first | refine WL.step (Yl.move rfl) rfl ?_ | refine WL.step (Yl.assign rfl) rfl ?_ | (refine WL.k_bin .add ?_; refine WL.step (Yl.add64C (m := i0) rfl (by omega)) rfl ?_) | refine WC.region ?_ | refine WL.nil ?_))
          exact WN.join (i0 + 1) ⟨by omega, by omega, by omega⟩ (by repeat (first | exact Sub.nil | refine Sub.cons rfl rfl ?_)) (Part.refl _)
        · refine WC.skip ?_
          exact WN.join i0 ⟨rfl, by omega, by omega⟩ (by repeat (first | exact Sub.nil | refine Sub.cons rfl rfl ?_)) (Part.refl _)
      · rintro i1 ⟨h4, h5, h6⟩
        have hhw := how.toNat_lt
        obtain ⟨q, hq⟩ : ∃ q : UInt8, q = UInt8.ofNat (1 + how.toNat % 255) := ⟨_, rfl⟩
        have hqn : q.toNat = 1 + how.toNat % 255 := by rw [hq]; exact UInt8.toNat_ofNat_of_lt' (by show _ < 256; omega)
        have hq0 : q ≠ 0 := fun e => by rw [e] at hqn; simp at hqn; omega
        have hscl : (sc.getD (i1 % 128) 0).toNat < 256 := (sc.getD (i1 % 128) 0).toNat_lt
        (repeat (first | refine WL.step (Yl.move rfl) rfl ?_ | (refine WL.k_load ?_; refine WL.step (Yl.load (T := 5) (i := i1 % 128) Tryz.isAgg5 rfl (Rd.row (show HA.row ba bc 151 1 (bs sc) ∈ _ by simp only [List.mem_cons, List.mem_append, true_or, or_true])) (bs_get (by omega))) rfl ?_) | (refine WL.k_bin .rem ?_; first | refine WL.step (Yl.remN (m := i1) (n := 128) rfl rfl (by decide)) rfl ?_ | refine WL.step (Yl.remN (m := how.toNat) (n := 255) rfl rfl (by decide)) rfl ?_) | (refine WL.k_idxa ?_; refine WL.step (Yl.indexAddr1 (t := 23) (j := i1 % 128) Tryz.underlying23 Tryz.sizeOf5 rfl rfl (Rd.row (show HA.row ba bc 151 1 (bs sc) ∈ _ by simp only [List.mem_cons, List.mem_append, true_or, or_true])) (bs_ne (i := i1 % 128) (by omega)) (by omega)) rfl ?_) | refine WL.step (Yl.addN (m := 1) (n := how.toNat % 255) rfl rfl rfl) rfl ?_ | refine WC.seq ?_ | refine WC.region ?_))
        rw [show (1 + how.toNat % 255) % 2 ^ IntKind.u8.bits = q.toNat by rw [hqn]; show _ % 256 = _; omega]
        have hqlt := q.toNat_lt
        (repeat (first | (refine WL.k_bin .xor ?_; refine WL.step (Yl.xorN (m := (sc.getD (i1 % 128) 0).toNat) (n := q.toNat) rfl rfl rfl (by show _ < 256; omega) (by show _ < 256; omega)) rfl ?_) | (refine WL.k_idxa ?_; refine WL.step (Yl.indexAddr1 (t := 23) (j := i1 % 128) Tryz.underlying23 Tryz.sizeOf5 rfl rfl (Rd.row (show HA.row ba bc 151 1 (bs sc) ∈ _ by simp only [List.mem_cons, List.mem_append, true_or, or_true])) (bs_ne (i := i1 % 128) (by omega)) (by omega)) rfl ?_)))
        rw [xor_bv5]
        refine WL.part (Part.perm (show List.Perm _ (HA.row ba bc 151 1 (bs sc) :: HA.blk b12 (.cells #[.map (some bm), .int .i64 (((swj.adds Ts).used : Nat) : Int), .int .i64 (((swj.adds Ts).tx : Nat) : Int)] 35 (0, 0)) :: HA.row sa.1 sa.2 35 3 (stcs SX) :: HA.blk bm (mobj encQ M c) :: (Z ++ (jI dp.bd p s ++ drI dp d1))) from (permU (by intros; simp only [List.count_append, List.count_cons, List.count_nil]; omega)))) ?_
        refine WL.storeRow (T := 5) (a := ba) (i := i1 % 128) (vs := bs sc) Tryz.sizeOf5 rfl rfl rfl .here (by rw [bs_length]; omega) ?_
        rw [← bs_set, show sc.set (i1 % 128) (sc.getD (i1 % 128) 0 ^^^ q) = Frm.chg sc (i1 % 128) q from rfl]
        obtain ⟨E2, hE2⟩ : ∃ l, l = Frm.chg sc (i1 % 128) q := ⟨_, rfl⟩
        rw [← hE2]
        have hE2l : E2.length = 128 := by rw [hE2, Frm.chg_length, hsl]
        have hk1 := hk.rd (d.v.rd + 1)
        have hwr := calm_write hk1.calm (k := 5 + i1 / 128) (x := E2) (by show _ < d.v.d.length; omega) hE2l
        obtain ⟨v3, hv3⟩ : ∃ v : DV, v = { ({ d.v with rd := d.v.rd + 1 } : DV) with F := setF d.v.F (5 + i1 / 128) (some E2), ops := d.v.ops + 1 } := ⟨_, rfl⟩
        have hwr : ({ d.v with rd := d.v.rd + 1 } : DV).write ((5 + i1 / 128 : Nat) : Int) E2 = (v3, 0) := by rw [hv3]; exact hwr
        have c3 : Calm v3 := by rw [hv3]; exact ⟨hk.calm.up, hk.calm.pl⟩
        have w3 : BkWf v3.d v3.F := by rw [hv3]; exact hk.wf.setF _ hE2l
        obtain ⟨v4, e4, c4, w4, l4, o4, r4, n4⟩ := sync_calm c3 w3
        (repeat (first | refine WL.step (Yl.move rfl) rfl ?_ | (refine WL.k_bin .quo ?_; refine WL.step (Yl.quo64N (m := i1) (n := 128) rfl rfl (by omega) (by decide)) rfl ?_) | (refine WL.k_bin .add ?_; refine WL.step (Yl.addC64 (m := i1 / 128) rfl (by omega)) rfl ?_) | refine WC.seq ?_ | refine WC.region ?_ | refine WL.nil ?_ | refine WN.then_normal ?_))
        have hp : List.Perm (HA.row ba bc 151 1 (bs E2) :: HA.blk b12 (.cells #[.map (some bm), .int .i64 (((swj.adds Ts).used : Nat) : Int), .int .i64 (((swj.adds Ts).tx : Nat) : Int)] 35 (0, 0)) :: HA.row sa.1 sa.2 35 3 (stcs SX) :: HA.blk bm (mobj encQ M c) :: (Z ++ (jI dp.bd p s ++ drI dp d1))) ((drI dp d1) ++ (HA.row ba bc 151 1 (bs E2) :: HA.blk b12 (.cells #[.map (some bm), .int .i64 (((swj.adds Ts).used : Nat) : Int), .int .i64 (((swj.adds Ts).tx : Nat) : Int)] 35 (0, 0)) :: HA.row sa.1 sa.2 35 3 (stcs SX) :: HA.blk bm (mobj encQ M c) :: (Z ++ jI dp.bd p s))) := (permU (by intros; simp only [List.count_append, List.count_cons, List.count_nil]; omega))
        refine WL.callS (A0 := drI dp d1) (B := HA.row ba bc 151 1 (bs E2) :: HA.blk b12 (.cells #[.map (some bm), .int .i64 (((swj.adds Ts).used : Nat) : Int), .int .i64 (((swj.adds Ts).tx : Nat) : Int)] 35 (0, 0)) :: HA.row sa.1 sa.2 35 3 (stcs SX) :: HA.blk bm (mobj encQ M c) :: (Z ++ jI dp.bd p s)) (vs := [bptr dp.bd, .int .i64 ((5 + i1 / 128 : Nat) : Int), .slice ba 128 bc]) (R := DrV dp v3 0) Tryz.call38 rfl hp (fun w0 st2 st1 => by have := dwrite_r (p := dp) ((5 + i1 / 128 : Nat) : Int) ba 128 bc E2 d1 w0 d1ok (by have := congrArg DV.ops hd1; have h9 : d1.ops = d.v.ops := this; omega) hE2l (row_out st2 hp (show HA.row ba bc 151 1 (bs E2) ∈ _ by simp only [List.mem_cons, List.mem_append, true_or, or_true])) st1; rw [hd1, hwr] at this; exact this) rfl fun v C hv => ?_
        clear hp
        obtain ⟨rfl, d2, d2ok, hd2, rfl⟩ := hv
        refine WL.part (Part.perm (show List.Perm _ (HA.row ba bc 151 1 (bs E2) :: HA.blk b12 (.cells #[.map (some bm), .int .i64 (((swj.adds Ts).used : Nat) : Int), .int .i64 (((swj.adds Ts).tx : Nat) : Int)] 35 (0, 0)) :: HA.row sa.1 sa.2 35 3 (stcs SX) :: HA.blk bm (mobj encQ M c) :: (Z ++ (jI dp.bd p s ++ drI dp d2))) from (permU (by intros; simp only [List.count_append, List.count_cons, List.count_nil]; omega)))) ?_
        (repeat (first | refine WL.want rfl rfl rfl ?_ | refine WL.step (Yl.move rfl) rfl ?_ | refine WL.step (Yl.neqF rfl rfl rfl) rfl ?_))
        have hp : List.Perm (HA.row ba bc 151 1 (bs E2) :: HA.blk b12 (.cells #[.map (some bm), .int .i64 (((swj.adds Ts).used : Nat) : Int), .int .i64 (((swj.adds Ts).tx : Nat) : Int)] 35 (0, 0)) :: HA.row sa.1 sa.2 35 3 (stcs SX) :: HA.blk bm (mobj encQ M c) :: (Z ++ (jI dp.bd p s ++ drI dp d2))) ((drI dp d2) ++ (HA.row ba bc 151 1 (bs E2) :: HA.blk b12 (.cells #[.map (some bm), .int .i64 (((swj.adds Ts).used : Nat) : Int), .int .i64 (((swj.adds Ts).tx : Nat) : Int)] 35 (0, 0)) :: HA.row sa.1 sa.2 35 3 (stcs SX) :: HA.blk bm (mobj encQ M c) :: (Z ++ jI dp.bd p s))) := (permU (by intros; simp only [List.count_append, List.count_cons, List.count_nil]; omega))
        refine WL.callS (g := 39) (A0 := drI dp d2) (B := HA.row ba bc 151 1 (bs E2) :: HA.blk b12 (.cells #[.map (some bm), .int .i64 (((swj.adds Ts).used : Nat) : Int), .int .i64 (((swj.adds Ts).tx : Nat) : Int)] 35 (0, 0)) :: HA.row sa.1 sa.2 35 3 (stcs SX) :: HA.blk bm (mobj encQ M c) :: (Z ++ jI dp.bd p s)) (vs := [bptr dp.bd]) (R := DrV dp v4 0) Tryz.call39 rfl hp (fun w0 st2 st1 => by have := dsync_r (p := dp) d2 w0 d2ok (by have := congrArg DV.ops hd2; have h9 : d2.ops = v3.ops := this; have h8 : v3.ops = d.v.ops + 1 := (by rw [hv3]); rw [h9, h8]; omega) st1; rw [hd2, e4] at this; exact this) rfl fun v C hv => ?_
        clear hp
        obtain ⟨rfl, d3, d3ok, hd3, rfl⟩ := hv
        refine WL.part (Part.perm (show List.Perm _ (HA.row ba bc 151 1 (bs E2) :: HA.blk b12 (.cells #[.map (some bm), .int .i64 (((swj.adds Ts).used : Nat) : Int), .int .i64 (((swj.adds Ts).tx : Nat) : Int)] 35 (0, 0)) :: HA.row sa.1 sa.2 35 3 (stcs SX) :: HA.blk bm (mobj encQ M c) :: (Z ++ (jI dp.bd p s ++ drI dp d3))) from (permU (by intros; simp only [List.count_append, List.count_cons, List.count_nil]; omega)))) ?_
        (repeat (first | refine WL.want rfl rfl rfl ?_ | refine WL.step (Yl.pick_f rfl rfl rfl) rfl ?_ | refine WL.step (Yl.neqF rfl rfl rfl) rfl ?_ | refine WL.nil ?_ | refine WN.then_normal ?_))
        refine WC.cond_false rfl rfl ?_
        (repeat (first | refine WL.step (Yl.move rfl) rfl ?_ | refine WC.seq ?_ | refine WC.region ?_ | refine WN.then_normal ?_ | refine WC.skip ?_))
        have hSl : SX.length = Ts.length := hSX.len
        have hTn : 0 < Ts.length := by
          rcases Nat.eq_zero_or_pos Ts.length with hz | hz
          · have := List.eq_nil_of_length_eq_zero hz
            subst this
            exact absurd hU0 (by decide)
          · exact hz
        have hSne : stcs SX ≠ [] := fun e => by have := stcs_len SX; rw [e] at this; simp at this; omega
        obtain ⟨x0, hx0⟩ : ∃ x, SX[0]? = some x := ⟨SX[0]'(by omega), List.getElem?_eq_getElem (by omega)⟩
        (repeat (first | (refine WL.k_load ?_; refine WL.step (Yl.loadEl (stc x0) Tryz.isAgg35 Tryz.sizeOf35 rfl (Rd.row (show HA.row sa.1 sa.2 35 3 (stcs SX) ∈ _ by simp only [List.mem_cons, List.mem_append, true_or, or_true])) rfl (by simp [stc]) (stc_at hx0)) rfl ?_) | (refine WL.k_idxa ?_; refine WL.step (Yl.indexAddr (t := 87) (j := 0) Tryz.underlying87 Tryz.sizeOf35 rfl rfl (Rd.row (show HA.row sa.1 sa.2 35 3 (stcs SX) ∈ _ by simp only [List.mem_cons, List.mem_append, true_or, or_true])) hSne (by omega)) rfl ?_)))
        refine WL.allocA Tryz.zeroValue35 rfl fun b18 => ?_
        refine WL.storeWhole (T := 35) (k := 3) Tryz.sizeOf35 rfl rfl rfl .here rfl rfl ?_
        (repeat (first | refine WL.step (Yl.move rfl) rfl ?_ | refine WL.step (Yl.len (t := 87) Tryz.underlying87 rfl) rfl ?_ | refine WC.seq ?_ | refine WC.region ?_ | refine WL.nil ?_ | refine WN.then_normal ?_ | refine WC.block ?_))
        refine WC.loop (α := Nat × Nat × (Nat × Nat × Nat)) (fun g => [(7, bptr dp.bd), (16, .int .i64 (i1 : Int)), (18, .pointer (some ⟨b18, 0, none⟩)), (117, .slice sa.1 SX.length sa.2), (118, .int .i64 (SX.length : Int)), (119, .int .i64 (g.1 : Int))])
          (fun g => HA.blk b18 (.cells (stc g.2.2).toArray 35 (0, 0)) :: HA.row ba bc 151 1 (bs E2) :: HA.blk b12 (.cells #[.map (some bm), .int .i64 (((swj.adds Ts).used : Nat) : Int), .int .i64 (((swj.adds Ts).tx : Nat) : Int)] 35 (0, 0)) :: HA.row sa.1 sa.2 35 3 (stcs SX) :: HA.blk bm (mobj encQ M c) :: (Z ++ (jI dp.bd p s ++ drI dp d3))) (fun g => g.1 ≤ SX.length ∧ SX[g.2.1]? = some g.2.2 ∧ (g.2.1 = 0 ∨ g.2.2.2.1 ≤ i1 / 128) ∧ ∀ r' x', g.2.1 < r' → r' < g.1 → SX[r']? = some x' → i1 / 128 < x'.2.1) (fun g => SX.length - g.1) (0, 0, x0) (by repeat (first | exact Sub.nil | refine Sub.cons rfl rfl ?_)) (part_to (D := []) (permU (by intros; simp only [List.count_append, List.count_cons, List.count_nil]; omega))) ⟨Nat.zero_le _, hx0, .inl rfl, fun r' x' h1 h2 => absurd h2 (Nat.not_lt_zero _)⟩ ?_
        rintro ⟨k, r, xx⟩ ⟨hk1', hxr, hxu, hxo⟩
        simp only at hk1' hxr hxu hxo ⊢
        (repeat (first | refine WL.step (Yl.lss rfl rfl) rfl ?_ | refine WC.seq ?_ | refine WC.region ?_ | refine WL.nil ?_ | refine WN.then_normal ?_))
        refine WC.ite rfl (fun h7 => ?_) (fun h7 => ?_)
        · have hks : k < SX.length := by omega
          obtain ⟨xk, hxk⟩ : ∃ y, SX[k]? = some y := ⟨SX[k]'hks, List.getElem?_eq_getElem hks⟩
          (repeat (first | (refine WL.k_load ?_; refine WL.step (Yl.loadEl (stc xk) Tryz.isAgg35 Tryz.sizeOf35 rfl (Rd.row (show HA.row sa.1 sa.2 35 3 (stcs SX) ∈ _ by simp only [List.mem_cons, List.mem_append, true_or, or_true])) rfl (by simp [stc]) (stc_at hxk)) rfl ?_) | (refine WL.k_idxa ?_; refine WL.step (Yl.indexAddr (t := 87) (j := k) Tryz.underlying87 Tryz.sizeOf35 rfl rfl (Rd.row (show HA.row sa.1 sa.2 35 3 (stcs SX) ∈ _ by simp only [List.mem_cons, List.mem_append, true_or, or_true])) hSne (by omega)) rfl ?_) | refine WC.seq ?_ | refine WC.region ?_ | refine WN.then_normal ?_ | refine WC.block ?_ | refine WC.skip ?_))
          refine WL.allocA Tryz.zeroValue35 rfl fun b20 => ?_
          refine WL.storeWhole (T := 35) (k := 3) Tryz.sizeOf35 rfl rfl rfl .here rfl rfl ?_
          rw [show (stc xk).toArray = #[.map (some xk.1), .int .i64 (xk.2.1 : Int), .int .i64 (xk.2.2 : Int)] from rfl]
          (repeat (first | refine WL.step (Yl.move rfl) rfl ?_ | (refine WL.k_load ?_; refine WL.step (Yl.loadBlk (T := 3) Tryz.isAgg3 rfl (by repeat (first | exact .head _ | refine .tail _ ?_)) (by rfl)) rfl ?_) | (refine WL.k_fld ?_; refine WL.step (Yl.fldN0 (i := 1) (o := 1) (by kernel_rfl) rfl) rfl ?_) | (refine WL.k_bin .quo ?_; refine WL.step (Yl.quo64N (m := i1) (n := 128) rfl rfl (by omega) (by decide)) rfl ?_) | refine WL.step (Yl.leq rfl rfl) rfl ?_ | refine WC.seq ?_ | refine WC.region ?_ | refine WL.nil ?_ | refine WN.then_normal ?_))
          refine WC.ite rfl (fun h8 => ?_) (fun h8 => ?_)
          · (repeat (first | (refine WL.k_load ?_; refine WL.step (Yl.loadAll (T := 35) (T' := 35) Tryz.isAgg35 Tryz.sizeOf35 rfl (by repeat (first | exact .head _ | refine .tail _ ?_)) rfl) rfl ?_) | refine WC.region ?_))
            refine WL.storeWhole (T := 35) (k := 3) Tryz.sizeOf35 rfl rfl rfl (.there .here) rfl rfl ?_
            (repeat (first | refine WL.step (Yl.move rfl) rfl ?_ | (refine WL.k_bin .add ?_; refine WL.step (Yl.add64C rfl (by omega)) rfl ?_) | refine WC.region ?_ | refine WL.nil ?_ | refine WN.then_normal ?_ | refine WN.block_normal ?_))
            exact WN.next (k + 1, k, xk) ⟨hks, hxk, .inr (by simp only; omega), fun r' x' h1 h2 => by simp only at h1 h2; omega⟩ (by simp only; omega) (by repeat (first | exact Sub.nil | refine Sub.cons rfl rfl ?_)) (.cons .here (.more (Part.refl _)))
          · (repeat (first | refine WL.step (Yl.move rfl) rfl ?_ | (refine WL.k_bin .add ?_; refine WL.step (Yl.add64C rfl (by omega)) rfl ?_) | refine WC.region ?_ | refine WL.nil ?_ | refine WN.then_normal ?_ | refine WC.skip ?_ | refine WN.block_normal ?_))
            exact WN.next (k + 1, r, xx) ⟨hks, hxr, hxu, fun r' x' h1 h2 h3 => by simp only at h1 h2; rcases Nat.lt_or_ge r' k with h9 | h9; exact hxo r' x' h1 h9 h3; obtain rfl : r' = k := (by omega); rw [hxk] at h3; cases h3; omega⟩ (by simp only; omega) (by repeat (first | exact Sub.nil | refine Sub.cons rfl rfl ?_)) (.more (Part.refl _))
        · obtain ⟨xb, xu, xt⟩ := xx
          have hkS : k = SX.length := by omega
          have hsv3 : ∀ i, secV v3 i = if i = 5 + i1 / 128 then E2 else secV d.v i := fun i => by
            rw [hv3]
            show (setF d.v.F (5 + i1 / 128) (some E2) i).getD _ = _
            unfold setF
            split
            · rfl
            · rfl
          have hl3 : v3.d.length = d.v.d.length := by rw [hv3]
          have hch4 : secV v4 (swj.first + i1 / 128) = Frm.chg (secV d.v (swj.first + i1 / 128)) (i1 % 128) q := by
            show secV v4 (5 + i1 / 128) = Frm.chg (secV d.v (5 + i1 / 128)) _ _
            rw [(n4 _ (by omega)).2.2, hsv3, if_pos rfl, hE2, hsc, h4]
          have hoth : ∀ i, i < d.v.d.length → i ≠ swj.first + i1 / 128 → secV v4 i = secV d.v i := fun i h8 h9 => by
            rw [(n4 i (by omega)).2.2, hsv3, if_neg (show ¬ i = 5 + i1 / 128 from h9)]
          obtain ⟨Rs, T, Us, hTs, hu1, hu2, t, t1, t2, t3, t4⟩ := spoil_scan hk w4 (by omega) (k := i1 / 128) (b := i1 % 128) (x := q) (by omega) (by omega) h5 hq0 hch4 hoth
          have hR := spo_r hSX hTs hu1 hu2 hxr hxu (fun r' x' h8 h9 h0 => hxo r' x' h8 (by omega) h0)
          obtain ⟨hx1, hx2, Mx, cx, hMx, hmx⟩ := hSX.at_ r _ hxr
          rw [hR] at hx1 hx2 hMx
          simp only at hx1 hx2 hmx
          obtain rfl : xu = t.used := hx1.trans t2.symm
          obtain rfl : xt = t.tx := hx2.trans t3.symm
          have hlr := hk.laid
          rw [hTs] at hlr
          have hlr2 := (laid_app hlr).1
          have hfr : (swj.adds Rs).used ≤ 50 := by omega
          have hdy : dirtyOf 4096 t.F = dirtyOf 4096 (FS Rs) := by
            rw [t4, dirty_c, FS_c]
            exact (FC.all hk.wf hk.ep hk.row hk.n_le (Nat.le_refl _) (Nat.zero_le _) hlr2 (FC.zero _ _)).dirty 4096
          rw [show (stc (xb, t.used, t.tx)).toArray = #[.map (some xb), .int .i64 (t.used : Int), .int .i64 (t.tx : Int)] from rfl]
          (repeat (first | refine WL.step (Yl.move rfl) rfl ?_ | refine WC.seq ?_ | refine WC.region ?_ | refine WN.then_normal ?_ | refine WC.exit ?_ | refine WN.then_exit ?_ | refine WN.block_here ?_))
          have hp : List.Perm (HA.blk b18 (.cells #[.map (some xb), .int .i64 (t.used : Int), .int .i64 (t.tx : Int)] 35 (0, 0)) :: HA.row ba bc 151 1 (bs E2) :: HA.blk b12 (.cells #[.map (some bm), .int .i64 (((swj.adds Ts).used : Nat) : Int), .int .i64 (((swj.adds Ts).tx : Nat) : Int)] 35 (0, 0)) :: HA.row sa.1 sa.2 35 3 (stcs SX) :: HA.blk bm (mobj encQ M c) :: (Z ++ (jI dp.bd p s ++ drI dp d3))) ((drI dp d3) ++ (HA.blk b18 (.cells #[.map (some xb), .int .i64 (t.used : Int), .int .i64 (t.tx : Int)] 35 (0, 0)) :: HA.row ba bc 151 1 (bs E2) :: HA.blk b12 (.cells #[.map (some bm), .int .i64 (((swj.adds Ts).used : Nat) : Int), .int .i64 (((swj.adds Ts).tx : Nat) : Int)] 35 (0, 0)) :: HA.row sa.1 sa.2 35 3 (stcs SX) :: HA.blk bm (mobj encQ M c) :: (Z ++ jI dp.bd p s))) := (permU (by intros; simp only [List.count_append, List.count_cons, List.count_nil]; omega))
          refine WL.callS (A0 := drI dp d3) (B := HA.blk b18 (.cells #[.map (some xb), .int .i64 (t.used : Int), .int .i64 (t.tx : Int)] 35 (0, 0)) :: HA.row ba bc 151 1 (bs E2) :: HA.blk b12 (.cells #[.map (some bm), .int .i64 (((swj.adds Ts).used : Nat) : Int), .int .i64 (((swj.adds Ts).tx : Nat) : Int)] 35 (0, 0)) :: HA.row sa.1 sa.2 35 3 (stcs SX) :: HA.blk bm (mobj encQ M c) :: (Z ++ jI dp.bd p s)) (vs := [bptr dp.bd, .int .i64 ((5 : Nat) : Int), .int .i64 ((50 : Nat) : Int), .int .i64 1]) (R := JScanK dp v4 ⟨5, 50, 1, t.used, t.tx, t.F⟩) Tryz.call18 rfl hp (fun w0 st2 st1 => jscan_v 5 50 1 t w0 d3ok hd3 (by decide) (by decide) (by omega) c4.up (by rw [r4, hv3]; show d.v.rd + 1 < _; omega) t1 (old_out st2 hp hT.o) st1) rfl fun v C hv => ?_
          clear hp
          obtain ⟨p9, s9, d9, m9, rfl, s9ok, hs9, d9ok, hd9, hm9, rfl⟩ := hv
          refine WL.part (Part.perm (show List.Perm _ (HA.blk b18 (.cells #[.map (some xb), .int .i64 (t.used : Int), .int .i64 (t.tx : Int)] 35 (0, 0)) :: HA.row ba bc 151 1 (bs E2) :: HA.blk b12 (.cells #[.map (some bm), .int .i64 (((swj.adds Ts).used : Nat) : Int), .int .i64 (((swj.adds Ts).tx : Nat) : Int)] 35 (0, 0)) :: HA.row sa.1 sa.2 35 3 (stcs SX) :: HA.blk bm (mobj encQ M c) :: (Z ++ (jI dp.bd p s ++ (drI dp d9 ++ jI dp.bd p9 s9)))) from (permU (by intros; simp only [List.count_append, List.count_cons, List.count_nil]; omega)))) ?_
          (repeat (first | refine WL.step (Yl.move rfl) rfl ?_ | refine WL.step (Yl.assign rfl) rfl ?_ | refine WL.step (Yl.extract rfl rfl) rfl ?_ | refine WC.seq ?_ | refine WL.nil ?_ | refine WN.then_normal ?_))
          have hdl : (dirtyOf 4096 t.F).length ≤ 4096 := dirty_len 4096 t.F
          refine WC.regionH [HA.blk b18 (.cells #[.map (some xb), .int .i64 (t.used : Int), .int .i64 (t.tx : Int)] 35 (0, 0))] (by kernel_rfl) ?_
          (refine WH.order [0, 1, 2, 3, 5, 6] (by repeat (first | exact Part.nil | refine Part.cons (by repeat (first | exact Pick.here | apply Pick.there)) ?_ | refine Part.free ?_)) (by kernel_rfl) ?_; (repeat (first | (refine WT.k_move rfl ?_; first | (refine WT.kn rfl ?_; refine WT.take rfl rfl (fun _ _ _ h => h) (Yl.move rfl) rfl (by kernel_rfl) (by kernel_rfl) ?_) | (refine WT.kg rfl ?_; refine WT.takeG rfl rfl rfl rfl (fun _ _ _ h => h) (Yl.move rfl) rfl (by kernel_rfl) (by kernel_rfl) ?_)) | (refine WT.k_load rfl ?_; (refine WT.kg rfl ?_; refine WT.takeG rfl rfl rfl rfl (fun _ _ _ h => h) (Yl.loadBlk (T := 3) Tryz.isAgg3 rfl (by repeat (first | exact .head _ | refine .tail _ ?_)) (by rfl)) rfl (by kernel_rfl) (by kernel_rfl) ?_)) | (refine WT.k_fld rfl ?_; (refine WT.kg rfl ?_; refine WT.takeG rfl rfl rfl rfl (fun _ _ _ h => h) (Yl.fldN0 (i := 1) (o := 1) (by kernel_rfl) rfl) rfl (by kernel_rfl) (by kernel_rfl) ?_)) | (refine WT.k_bin .eql rfl ?_; (refine WT.kn rfl ?_; refine WT.take rfl rfl (fun _ _ _ h => h) (Yl.eqlT rfl rfl rfl) rfl (by kernel_rfl) (by kernel_rfl) ?_)))); refine WT.nil ?_)
          refine WH.only (i := 4) (by kernel_rfl) rfl ?_
          refine WL.want rfl rfl rfl ?_
          refine WL.callV (g := 36) (v := .int .i64 (t.used : Int)) Tryz.call36 rfl (fun w0 st2 => jused_v (dp := dp) t.used w0 (s9ok.at_ st2 (fun x h => by simp only [List.mem_cons, List.mem_append, h, true_or, or_true])) hs9 rfl) rfl ?_
          refine WL.nil (WN.nextH (.cons .here .nil) ?_)
          (refine WH.order [7, 8, 9, 10, 12, 13] (by repeat (first | exact Part.nil | refine Part.cons (by repeat (first | exact Pick.here | apply Pick.there)) ?_ | refine Part.free ?_)) (by kernel_rfl) ?_; (repeat (first | (refine WT.k_move rfl ?_; first | (refine WT.kn rfl ?_; refine WT.take rfl rfl (fun _ _ _ h => h) (Yl.move rfl) rfl (by kernel_rfl) (by kernel_rfl) ?_) | (refine WT.kg rfl ?_; refine WT.takeG rfl rfl rfl rfl (fun _ _ _ h => h) (Yl.move rfl) rfl (by kernel_rfl) (by kernel_rfl) ?_)) | (refine WT.k_load rfl ?_; (refine WT.kg rfl ?_; refine WT.takeG rfl rfl rfl rfl (fun _ _ _ h => h) (Yl.loadBlk (T := 3) Tryz.isAgg3 rfl (by repeat (first | exact .head _ | refine .tail _ ?_)) (by rfl)) rfl (by kernel_rfl) (by kernel_rfl) ?_)) | (refine WT.k_fld rfl ?_; (refine WT.kg rfl ?_; refine WT.takeG rfl rfl rfl rfl (fun _ _ _ h => h) (Yl.fldN0 (i := 2) (o := 2) (by kernel_rfl) rfl) rfl (by kernel_rfl) (by kernel_rfl) ?_)) | (refine WT.k_pick rfl ?_; (refine WT.kn rfl ?_; refine WT.take rfl rfl (fun _ _ _ h => h) (Yl.pick_t rfl rfl rfl) rfl (by kernel_rfl) (by kernel_rfl) ?_)) | (refine WT.k_bin .eql rfl ?_; (refine WT.kg rfl ?_; refine WT.takeG rfl rfl rfl rfl (fun _ _ _ h => h) (Yl.eqlT (m := (t.used : Int)) (n := (t.used : Int)) rfl rfl rfl) rfl (by kernel_rfl) (by kernel_rfl) ?_)))); refine WT.nil ?_)
          refine WH.only (i := 11) (by kernel_rfl) rfl ?_
          refine WL.want rfl rfl rfl ?_
          refine WL.callV (g := 35) (v := .int .i64 (t.tx : Int)) Tryz.call35 rfl (fun w0 st2 => jtx_v (dp := dp) t.tx w0 (s9ok.at_ st2 (fun x h => by simp only [List.mem_cons, List.mem_append, h, true_or, or_true])) hs9 rfl) rfl ?_
          refine WL.nil (WN.nextH (.cons .here .nil) ?_)
          (refine WH.order [14, 15, 16, 17, 19, 20] (by repeat (first | exact Part.nil | refine Part.cons (by repeat (first | exact Pick.here | apply Pick.there)) ?_ | refine Part.free ?_)) (by kernel_rfl) ?_; (repeat (first | (refine WT.k_move rfl ?_; first | (refine WT.kn rfl ?_; refine WT.take rfl rfl (fun _ _ _ h => h) (Yl.move rfl) rfl (by kernel_rfl) (by kernel_rfl) ?_) | (refine WT.kg rfl ?_; refine WT.takeG rfl rfl rfl rfl (fun _ _ _ h => h) (Yl.move rfl) rfl (by kernel_rfl) (by kernel_rfl) ?_)) | (refine WT.k_load rfl ?_; (refine WT.kg rfl ?_; refine WT.takeG rfl rfl rfl rfl (fun _ _ _ h => h) (Yl.loadBlk (T := 33) Tryz.isAgg33 rfl (by repeat (first | exact .head _ | refine .tail _ ?_)) (by rfl)) rfl (by kernel_rfl) (by kernel_rfl) ?_)) | (refine WT.k_fld rfl ?_; (refine WT.kg rfl ?_; refine WT.takeG rfl rfl rfl rfl (fun _ _ _ h => h) (Yl.fldN0 (i := 0) (o := 0) (by kernel_rfl) rfl) rfl (by kernel_rfl) (by kernel_rfl) ?_)) | (refine WT.k_pick rfl ?_; (refine WT.kn rfl ?_; refine WT.take rfl rfl (fun _ _ _ h => h) (Yl.pick_t rfl rfl rfl) rfl (by kernel_rfl) (by kernel_rfl) ?_)) | (refine WT.k_bin .eql rfl ?_; (refine WT.kg rfl ?_; refine WT.takeG rfl rfl rfl rfl (fun _ _ _ h => h) (Yl.eqlT (m := (t.tx : Int)) (n := (t.tx : Int)) rfl rfl rfl) rfl (by kernel_rfl) (by kernel_rfl) ?_)))); refine WT.nil ?_)
          refine WH.only (i := 18) (by kernel_rfl) rfl ?_
          refine WL.want rfl rfl rfl ?_
          refine WL.callR (g := 34) Tryz.call34 rfl (fun w0 st2 => jpages_v (dp := dp) (dirtyOf 4096 t.F) w0 (s9ok.at_ st2 (fun x h => by simp only [List.mem_cons, List.mem_append, h, true_or, or_true])) hs9 rfl) rfl fun q1 hq1 => ?_
          refine WL.nil (WN.nextH (.cons (.there .here) .nil) ?_)
          refine WH.only (i := 21) (by kernel_rfl) rfl ?_
          refine WL.want rfl rfl rfl ?_
          refine WL.call (g := 42) Tryz.call42 rfl (fun w0 st2 => keysB_c xb w0) rfl fun v1 B1 hv1 => ?_
          obtain ⟨bk, rfl, rfl⟩ := hv1
          simp only [List.cons_append, List.nil_append]
          refine WL.nil (WN.nextH (.cons (.there (.there .here)) .nil) ?_)
          refine WH.only (i := 22) (by kernel_rfl) rfl ?_
          refine WL.want rfl rfl rfl ?_
          refine WL.callR (g := 41) Tryz.call41 rfl (fun w0 st2 => sortedB_c bk xb w0 hMx (by decide) (st2.holds _ (.head _)) (st2.holds _ (show HA.blk xb (mobj encQ Mx cx) ∈ _ by simp only [List.mem_cons, List.mem_append, hmx, true_or, or_true]))) rfl fun q2 hq2 => ?_
          refine WL.nil (WN.nextH (.cons (.there (.there (.there .here))) .nil) ?_)
          refine WH.only (i := 23) (by kernel_rfl) rfl ?_
          refine WL.want rfl rfl rfl ?_
          rw [← hdy, ncells_z]
          refine WL.callV (g := 40) (v := .bool true) Tryz.call40 rfl (fun w0 st2 => by have := iequal_c q1.1 q2.1 (dirtyOf 4096 t.F).length (dirtyOf 4096 t.F).length q1.2 q2.2 ((dirtyOf 4096 t.F).map fun (k : Nat) => (k : Int)) ((dirtyOf 4096 t.F).map fun (k : Nat) => (k : Int)) w0 (List.length_map _) (List.length_map _) (by omega) (Rd.row (.tail _ (.tail _ (.head _))) w0 st2) (Rd.row (.head _) w0 st2); rw [decide_eq_true rfl] at this; exact this) rfl ?_
          refine WL.nil (WN.nextH (.cons (.there (.there (.there .here))) .nil) ?_)
          (refine WH.order [24, 25] (by repeat (first | exact Part.nil | refine Part.cons (by repeat (first | exact Pick.here | apply Pick.there)) ?_ | refine Part.free ?_)) (by kernel_rfl) ?_; (repeat (first | (refine WT.k_move rfl ?_; (refine WT.kn rfl ?_; refine WT.take rfl rfl (fun _ _ _ h => h) (Yl.move rfl) rfl (by kernel_rfl) (by kernel_rfl) ?_)) | (refine WT.k_pick rfl ?_; (refine WT.kn rfl ?_; refine WT.take rfl rfl (fun _ _ _ h => h) (Yl.pick_t rfl rfl rfl) rfl (by kernel_rfl) (by kernel_rfl) ?_)))); refine WT.nil ?_)
          refine WH.only (i := 26) (by kernel_rfl) rfl ?_
          refine WL.want rfl rfl rfl ?_
          refine WL.callV (g := 23) (v := .bool true) Tryz.call23 rfl (fun w0 st2 => works35_c w0 (hT.keep st2.kept)) rfl ?_
          refine WL.nil (WN.nextH (.cons (.there (.there (.there .here))) .nil) ?_)
          (refine WH.order [27, 28] (by repeat (first | exact Part.nil | refine Part.cons (by repeat (first | exact Pick.here | apply Pick.there)) ?_ | refine Part.free ?_)) (by kernel_rfl) ?_; (repeat (first | (refine WT.k_assign rfl ?_; (refine WT.kn rfl ?_; refine WT.take rfl rfl (fun _ _ _ h => h) (Yl.assign rfl) rfl (by kernel_rfl) (by kernel_rfl) ?_)) | (refine WT.k_pick rfl ?_; (refine WT.kn rfl ?_; refine WT.take rfl rfl (fun _ _ _ h => h) (Yl.pick_t rfl rfl rfl) rfl (by kernel_rfl) (by kernel_rfl) ?_)))); refine WT.nil ?_)
          refine WH.done (by kernel_rfl) ?_
          (repeat (first | refine WN.then_normal ?_ | refine WC.ret ?_))
          exact WN.ret1 rfl rfl ⟨rfl, rfl⟩ .nil
end Go.Proofs.YtbkdjfgkebkknaaGreatDoor
