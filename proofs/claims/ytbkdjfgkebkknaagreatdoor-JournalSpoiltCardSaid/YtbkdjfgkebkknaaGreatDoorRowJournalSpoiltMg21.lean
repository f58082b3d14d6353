import Derived.Test.YtbkdjfgkebkknaaGreatDoorRowJournalSpoiltMg9
import Derived.Test.YtbkdjfgkebkknaaGreatDoorRowJournalSpoiltMg8
import Derived.Test.YtbkdjfgkebkknaaGreatDoorRowJournalSpoiltMg20
namespace Go.Proofs.YtbkdjfgkebkknaaGreatDoor
set_option linter.unusedVariables false
set_option linter.unusedSimpArgs false
open Go Go.RowKit
set_option maxRecDepth 100000
set_option maxHeartbeats 8000000
def FullW (l : List UInt8) : Value → List HA → Prop := fun u B => ∃ a c, 512 ≤ c ∧ u = .slice a 512 512 ∧ B = [.row a c 5 1 (bs l)]
attribute [local irreducible] WL WC WN Yl WH WQ WT WE WU WG WV
theorem mul64_w (w : World) : Calls Tryz.prog 171 #[.int .u64 ((1 : Nat) : Int), .int .u64 ((512 : Nat) : Int)] w (Gives (Val (.tuple #[.int .u64 ((0 : Nat) : Int), .int .u64 ((512 : Nat) : Int)])) w) := by
  refine enter (args := [_, _]) Tryz.func171 Tryz.ntmps171 rfl rfl ?_
  (repeat (first | refine WL.step (Yl.move rfl) rfl ?_ | refine WL.step (Yl.assign rfl) rfl ?_ | (refine WL.k_bin .and ?_; refine WL.step (Yl.andC rfl rfl (by decide +kernel) (by decide +kernel)) rfl ?_) | (refine WL.k_bin .shr ?_; refine WL.step (Yl.shrC rfl (by decide)) rfl ?_) | refine WL.step (Yl.mulN rfl rfl rfl) rfl ?_ | refine WL.step (Yl.addN rfl rfl rfl) rfl ?_ | refine WC.seq ?_ | refine WC.region ?_ | refine WL.nil ?_ | refine WN.then_normal ?_ | refine WC.ret ?_))
  exact WN.ret2 rfl rfl rfl ⟨rfl, rfl⟩ .nil
theorem mul_w (w : World) : Calls Tryz.prog 131 #[.int .u64 ((1 : Nat) : Int), .int .u64 ((512 : Nat) : Int)] w (Gives (Val (.tuple #[.int .u64 ((0 : Nat) : Int), .int .u64 ((512 : Nat) : Int)])) w) := by
  refine enter (args := [_, _]) Tryz.func131 Tryz.ntmps131 rfl rfl ?_
  (repeat (first | refine WL.step (Yl.assign rfl) rfl ?_ | refine WC.seq ?_ | refine WC.region ?_ | refine WL.nil ?_ | refine WN.then_normal ?_))
  refine WC.cond_false rfl rfl ?_
  (repeat (first | refine WL.step (Yl.move rfl) rfl ?_ | refine WL.step (Yl.assign rfl) rfl ?_ | refine WL.step (Yl.extract rfl rfl) rfl ?_ | refine WL.callV (g := 171) (v := .tuple #[.int .u64 ((0 : Nat) : Int), .int .u64 ((512 : Nat) : Int)]) Tryz.call171 rfl (fun w0 st => mul64_w w0) rfl ?_ | refine WC.seq ?_ | refine WC.region ?_ | refine WL.nil ?_ | refine WN.then_normal ?_ | refine WC.skip ?_ | refine WC.ret ?_))
  exact WN.ret2 rfl rfl rfl ⟨rfl, rfl⟩ .nil
theorem rep_w (a : Option Addr) (cap : Nat) (b : UInt8) (w : World) (hr : CellsAt w a (bs [b])) : Calls Tryz.prog 106 #[.slice a 1 cap, .int .i64 512] w (Gives (FullW (List.replicate 512 b)) w) := by
  refine enter (args := [_, _]) Tryz.func106 Tryz.ntmps106 rfl rfl ?_
  (repeat (first | refine WL.step (Yl.move rfl) rfl ?_ | refine WL.step (Yl.assign rfl) rfl ?_ | (refine WL.k_bin .eql ?_; refine WL.step (Yl.eqlF rfl rfl (by decide)) rfl ?_) | refine WC.seq ?_ | refine WC.region ?_ | refine WL.nil ?_ | refine WN.then_normal ?_))
  refine WC.cond_false rfl rfl ?_
  (repeat (first | refine WL.step (Yl.move rfl) rfl ?_ | (refine WL.k_bin .lss ?_; refine WL.step (Yl.lssF rfl rfl (by decide)) rfl ?_) | refine WC.seq ?_ | refine WC.region ?_ | refine WL.nil ?_ | refine WN.then_normal ?_ | refine WC.skip ?_))
  refine WC.cond_false rfl rfl ?_
  (repeat (first | refine WL.step (Yl.move rfl) rfl ?_ | refine WL.step (Yl.len (t := 23) Tryz.underlying23 rfl) rfl ?_ | refine WC.seq ?_ | refine WC.region ?_ | refine WN.then_normal ?_ | refine WC.skip ?_))
  refine WL.step (v := .int .u64 ((1 : Nat) : Int)) (Yl.convN (m := 1) Tryz.underlying3 Tryz.underlying167 rfl rfl) rfl ?_
  (repeat (first | refine WL.step (Yl.move rfl) rfl ?_))
  refine WL.step (v := .int .u64 ((512 : Nat) : Int)) (Yl.convN (m := 512) Tryz.underlying3 Tryz.underlying167 rfl rfl) rfl ?_
  refine WL.callV (g := 131) (v := .tuple #[.int .u64 ((0 : Nat) : Int), .int .u64 ((512 : Nat) : Int)]) Tryz.call131 rfl (fun w0 st => mul_w w0) rfl ?_
  (repeat (first | refine WL.want rfl rfl rfl ?_ | refine WL.step (Yl.move rfl) rfl ?_ | refine WL.step (Yl.assign rfl) rfl ?_ | refine WL.step (Yl.extract rfl rfl) rfl ?_ | refine WL.step (Yl.pick_f rfl rfl rfl) rfl ?_ | (refine WL.k_bin .gtr ?_; refine WL.step (Yl.gtrF rfl rfl (by decide)) rfl ?_) | refine WC.seq ?_ | refine WC.region ?_ | refine WL.nil ?_ | refine WN.then_normal ?_))
  refine WC.cond_false rfl rfl ?_
  (repeat (first | refine WL.step (Yl.move rfl) rfl ?_ | refine WL.step (Yl.assign rfl) rfl ?_ | (refine WL.k_conv ?_; refine WL.step (Yl.conv64 (m := 512) Tryz.underlying167 Tryz.underlying3 rfl (by decide)) rfl ?_) | (refine WL.k_bin .eql ?_; refine WL.step (Yl.eqlF rfl rfl (by decide)) rfl ?_) | refine WL.step (Yl.len (t := 23) Tryz.underlying23 rfl) rfl ?_ | refine WC.seq ?_ | refine WC.region ?_ | refine WL.nil ?_ | refine WN.then_normal ?_ | refine WC.skip ?_))
  refine WC.cond_false rfl rfl ?_
  (repeat (first | refine WL.step (Yl.move rfl) rfl ?_ | refine WL.step (Yl.assign rfl) rfl ?_ | (refine WL.k_bin .gtr ?_; refine WL.step (Yl.gtrF rfl rfl (by decide)) rfl ?_) | refine WC.seq ?_ | refine WC.region ?_ | refine WL.nil ?_ | refine WN.then_normal ?_ | refine WC.skip ?_))
  refine WC.cond_false rfl rfl ?_
  (repeat (first | refine WL.step (Yl.move rfl) rfl ?_ | refine WC.seq ?_ | refine WC.region ?_ | refine WN.then_normal ?_ | refine WC.skip ?_))
  refine WL.noZero (n := 512) (pT := 3) (t := 23) Tryz.func132 (by kernel_rfl) (by kernel_rfl) (by kernel_rfl) (by kernel_rfl) Tryz.underlying23 rfl (by decide) rfl fun q vs hq hvs => ?_
  (repeat (first | refine WL.step (Yl.move rfl) rfl ?_ | refine WL.step (Yl.assign rfl) rfl ?_ | refine WL.step (Yl.cut3 (t := 23) (hi := 512) (mx := 512) Tryz.underlying23 Tryz.sizeOf5 rfl rfl rfl (Nat.le_refl _) hq) rfl ?_ | refine WC.seq ?_ | refine WC.region ?_ | refine WL.nil ?_ | refine WN.then_normal ?_))
  rw [cutA_zero]
  refine WL.copyRow (i := 0) (us := bs [b]) (vs := vs) Tryz.underlying23 (by kernel_rfl) (by rw [el_zero]; rfl) rfl .here (Rd.old hr) rfl (by rw [hvs, bs_length]; show 0 + 1 ≤ 512; decide) (fun e => by rw [e] at hvs; cases hvs) (bs_one _) rfl ?_
  rw [show vs.take 0 ++ bs [b] ++ vs.drop (0 + (bs [b]).length) = bs (List.replicate 1 b) ++ vs.drop 1 from rfl]
  have hv1 : (vs.drop 1).length = 511 := by rw [List.length_drop, hvs]
  generalize vs.drop 1 = r0 at *
  (repeat (first | refine WL.step (Yl.assign rfl) rfl ?_ | refine WC.seq ?_ | refine WL.nil ?_ | refine WN.then_normal ?_ | refine WC.block ?_))
  refine WC.loop (α := Nat × List Value) (fun s => [(7, .int .i64 512), (8, .int .i64 512), (9, .slice q.1 512 512), (10, .int .i64 (s.1 : Int))]) (fun s => [.row q.1 q.2 5 1 (bs (List.replicate s.1 b) ++ s.2)]) (fun s => 1 ≤ s.1 ∧ s.1 ≤ 512 ∧ s.2.length = 512 - s.1) (fun s => 512 - s.1) (1, r0) (by repeat (first | exact Sub.nil | refine Sub.cons rfl rfl ?_)) (by repeat (first | exact Part.nil | refine Part.cons (by repeat (first | exact Pick.here | apply Pick.there)) ?_ | refine Part.free ?_)) ⟨Nat.le_refl _, (by decide : 1 ≤ 512), hv1⟩ ?_
  rintro ⟨k, r⟩ ⟨h1, h2, h3⟩
  simp only at h1 h2 h3 ⊢
  (repeat (first | refine WL.step (Yl.move rfl) rfl ?_ | refine WL.step (Yl.lss rfl rfl) rfl ?_ | refine WC.seq ?_ | refine WC.region ?_ | refine WL.nil ?_ | refine WN.then_normal ?_))
  refine WC.ite rfl (fun h4 => ?_) (fun h4 => ?_)
  · have hmk : min k 512 = k := by omega
    (repeat (first | refine WL.step (Yl.move rfl) rfl ?_ | refine WL.step (Yl.assign rfl) rfl ?_ | refine WL.step (Yl.min2N rfl rfl) rfl ?_ | refine WC.seq ?_ | refine WC.region ?_ | refine WL.nil ?_ | refine WN.then_normal ?_ | refine WC.block ?_ | refine WC.skip ?_))
    rw [hmk]
    have hu : (bs (List.replicate (min k (512 - k)) b)).length = min k (512 - k) := by rw [bs_length, List.length_replicate]
    have hl : (bs (List.replicate k b) ++ r).length = 512 := by rw [List.length_append, bs_length, List.length_replicate]; omega
    refine WC.regionH [] (by kernel_rfl) ?_
    (refine WH.order [0, 1, 2, 3, 4, 5, 6] (by repeat (first | exact Part.nil | refine Part.cons (by repeat (first | exact Pick.here | apply Pick.there)) ?_ | refine Part.free ?_)) (by kernel_rfl) ?_; (repeat (first | (refine WT.k_move rfl ?_; (refine WT.kn rfl ?_; refine WT.take rfl rfl (fun _ _ _ h => h) (Yl.move rfl) rfl (by kernel_rfl) (by kernel_rfl) ?_)) | (refine WT.k_slice rfl ?_; (refine WT.kn rfl ?_; first | refine WT.take rfl rfl (fun _ _ _ h => h) (Yl.cutFrom (t := 23) (lo := k) Tryz.underlying23 Tryz.sizeOf5 rfl rfl (by omega)) rfl (by kernel_rfl) (by kernel_rfl) ?_ | refine WT.take rfl rfl (fun _ _ _ h => h) (Yl.cutTo (t := 23) (hi := k) Tryz.underlying23 Tryz.sizeOf5 rfl rfl (by omega)) rfl (by kernel_rfl) (by kernel_rfl) ?_)))); refine WT.nil ?_)
    rw [cutA_zero, cutA_el (show 512 ≠ k by omega)]
    refine WH.only (i := 7) (by kernel_rfl) rfl ?_
    refine WL.copyRow (i := k) (us := bs (List.replicate (min k (512 - k)) b)) (vs := bs (List.replicate k b) ++ r) Tryz.underlying23 (by kernel_rfl) rfl rfl .here (rpre b (Rd.row (.head _)) (Nat.min_le_left _ _)) hu (by rw [hu, hl]; omega) (fun e => by rw [e] at hl; cases hl) (bs_one _) rfl ?_
    have hnew : (bs (List.replicate k b) ++ r).take k ++ bs (List.replicate (min k (512 - k)) b) ++ (bs (List.replicate k b) ++ r).drop (k + (bs (List.replicate (min k (512 - k)) b)).length) = bs (List.replicate (k + min k (512 - k)) b) ++ r.drop (min k (512 - k)) := by
      have hk : (bs (List.replicate k b)).length = k := by rw [bs_length, List.length_replicate]
      rw [hu, List.take_append_of_le_length (by omega), List.take_of_length_le (by omega), List.drop_append, hk, List.drop_of_length_le (by omega), List.nil_append, Nat.add_sub_cancel_left, ← List.replicate_append_replicate, bs_append]
    rw [hnew, hu]
    refine WL.nil (WN.nextH .nil ?_)
    refine WH.only (i := 8) (by kernel_rfl) rfl ?_
    refine WL.step (Yl.add64N rfl rfl (by omega)) rfl ?_
    refine WL.nil (WN.nextH .nil ?_)
    refine WH.only (i := 9) (by kernel_rfl) rfl ?_
    refine WL.step (Yl.assign rfl) rfl ?_
    refine WL.nil (WN.nextH .nil ?_)
    refine WH.done (by kernel_rfl) ?_
    (repeat (first | refine WN.block_normal ?_))
    exact WN.next (k + min k (512 - k), r.drop (min k (512 - k))) ⟨by simp only; omega, by simp only; omega, by simp only [List.length_drop]; omega⟩ (by simp only; omega) (by repeat (first | exact Sub.nil | refine Sub.cons rfl rfl ?_)) (by repeat (first | exact Part.nil | refine Part.cons (by repeat (first | exact Pick.here | apply Pick.there)) ?_ | refine Part.free ?_))
  · obtain rfl : k = 512 := by omega
    obtain rfl : r = [] := List.eq_nil_of_length_eq_zero h3
    rw [List.append_nil]
    (repeat (first | refine WL.step (Yl.move rfl) rfl ?_ | refine WL.step (Yl.assign rfl) rfl ?_ | refine WC.seq ?_ | refine WC.region ?_ | refine WL.nil ?_ | refine WN.then_normal ?_ | refine WC.exit ?_ | refine WC.ret ?_ | refine WN.then_exit ?_ | refine WN.block_here ?_))
    exact WN.ret1 rfl rfl ⟨q.1, q.2, hq, rfl, rfl⟩ (.cons .here .nil)
theorem full_w (b : UInt8) (w : World) : Calls Tryz.prog 53 #[bv b] w (Gives (FullW (List.replicate 512 b)) w) := by
  refine enter (args := [bv b]) Tryz.func53 Tryz.ntmps53 rfl rfl ?_
  (repeat (first | refine WL.step (Yl.move rfl) rfl ?_ | refine WL.step (Yl.assign rfl) rfl ?_ | refine WC.seq ?_ | refine WC.region ?_ | refine WL.nil ?_ | refine WN.then_normal ?_))
  refine WL.lit (t := 23) (vs := [bv b]) Tryz.underlying23 elemU8 rfl rfl rfl (fun u hu => by simp at hu; subst hu; rfl) rfl fun b1 => ?_
  rw [show flat [bv b] = bs [b] from rfl]
  refine WL.call (g := 106) Tryz.call106 rfl (fun w0 st => rep_w (some ⟨b1, 0, none⟩) 1 b w0 (Rd.row (.head _) w0 st)) rfl fun v B hv => ?_
  obtain ⟨a, c, hc, rfl, rfl⟩ := hv
  (repeat (first | refine WL.step (Yl.assign rfl) rfl ?_ | refine WL.nil ?_ | refine WN.then_normal ?_ | refine WC.ret ?_))
  exact WN.ret1 rfl rfl ⟨a, c, hc, rfl, rfl⟩ (.cons .here .nil)
end Go.Proofs.YtbkdjfgkebkknaaGreatDoor
namespace Go.Proofs.YtbkdjfgkebkknaaGreatDoor
set_option linter.unusedVariables false
set_option linter.unusedSimpArgs false
open Go Go.RowKit
set_option maxRecDepth 100000
set_option maxHeartbeats 8000000
attribute [local irreducible] WL WC WN Yl WH WQ WT WE WU WG WV
theorem iequal_c (a b : Option Addr) (n m c1 c2 : Nat) (l k : List Int) (w : World) (hl : l.length = n) (hk : k.length = m) (hn : n ≤ 100000) (hr : CellsAt w a (zcells l)) (hr2 : CellsAt w b (zcells k)) :
    Calls Tryz.prog 40 #[.slice a n c1, .slice b m c2] w (Gives (Val (.bool (decide (l = k)))) w) := by
  refine enter (args := [_, _]) Tryz.func40 Tryz.ntmps40 rfl rfl ?_
  by_cases hnm : n = m
  · subst hnm
    (repeat (first | refine WL.step (Yl.move rfl) rfl ?_ | refine WL.step (Yl.assign rfl) rfl ?_ | refine WL.step (Yl.len (t := 61) Tryz.underlying61 rfl) rfl ?_ | refine WL.step (Yl.neqF rfl rfl rfl) rfl ?_ | refine WC.seq ?_ | refine WC.region ?_ | refine WL.nil ?_ | refine WN.then_normal ?_))
    refine WC.cond_false rfl rfl ?_
    (repeat (first | refine WL.step (Yl.move rfl) rfl ?_ | refine WL.step (Yl.len (t := 61) Tryz.underlying61 rfl) rfl ?_ | refine WC.seq ?_ | refine WC.region ?_ | refine WL.nil ?_ | refine WN.then_normal ?_ | refine WC.block ?_ | refine WC.skip ?_))
    refine WC.loop (α := Nat) (fun i => [(0, .slice a n c1), (1, .slice b n c2), (12, .int .i64 (n : Int)), (13, .int .i64 (i : Int))]) (fun _ => []) (fun i => i ≤ n ∧ ∀ j, j < i → l.getD j 0 = k.getD j 0) (fun i => n - i) 0 (by repeat (first | exact Sub.nil | refine Sub.cons rfl rfl ?_)) .nil ⟨Nat.zero_le _, fun j h => absurd h (Nat.not_lt_zero _)⟩ ?_
    rintro i ⟨hi, hp⟩
    (repeat (first | refine WL.step (Yl.lss rfl rfl) rfl ?_ | refine WC.seq ?_ | refine WC.region ?_ | refine WL.nil ?_ | refine WN.then_normal ?_))
    refine WC.ite rfl (fun h1 => ?_) (fun h1 => ?_)
    · have him : i < l.length := by omega
      have hkm : i < k.length := by omega
      have e1 : (zcells l)[i]? = some (.int .i64 (l.getD i 0)) := by simp [zcells, List.getD, him]
      have e2 : (zcells k)[i]? = some (.int .i64 (k.getD i 0)) := by simp [zcells, List.getD, hkm]
      (repeat (first | refine WL.step (Yl.move rfl) rfl ?_ | refine WL.step (Yl.assign rfl) rfl ?_ | refine WC.seq ?_ | refine WC.region ?_ | refine WL.nil ?_ | refine WN.then_normal ?_ | refine WC.block ?_ | refine WC.skip ?_))
      refine WC.regionH [] (by kernel_rfl) ?_
      by_cases he : l.getD i 0 = k.getD i 0
      · (refine WH.order [0, 1, 2, 3, 4, 5, 6, 7, 8] (by repeat (first | exact Part.nil | refine Part.cons (by repeat (first | exact Pick.here | apply Pick.there)) ?_ | refine Part.free ?_)) (by kernel_rfl) ?_; (repeat (first | (refine WT.k_move rfl ?_; refine WT.take rfl rfl (fun _ _ _ h => h) (Yl.move rfl) rfl (by kernel_rfl) (by kernel_rfl) ?_) | (refine WT.k_load rfl ?_; first | refine WT.take rfl rfl (fun _ _ _ h => h) (Yl.load (T := 3) (a := a) (i := i) Tryz.isAgg3 rfl (Rd.old hr) e1) rfl (by kernel_rfl) (by kernel_rfl) ?_ | refine WT.take rfl rfl (fun _ _ _ h => h) (Yl.load (T := 3) (a := b) (i := i) Tryz.isAgg3 rfl (Rd.old hr2) e2) rfl (by kernel_rfl) (by kernel_rfl) ?_) | (refine WT.k_idxa rfl ?_; first | refine WT.take rfl rfl (fun _ _ _ h => h) (Yl.indexAddr1 (t := 61) (a := a) (n := n) (cap := c1) (j := i) Tryz.underlying61 Tryz.sizeOf3 rfl rfl (Rd.old hr) (ne_nil_of e1) (by omega)) rfl (by kernel_rfl) (by kernel_rfl) ?_ | refine WT.take rfl rfl (fun _ _ _ h => h) (Yl.indexAddr1 (t := 61) (a := b) (n := n) (cap := c2) (j := i) Tryz.underlying61 Tryz.sizeOf3 rfl rfl (Rd.old hr2) (ne_nil_of e2) (by omega)) rfl (by kernel_rfl) (by kernel_rfl) ?_) | (refine WT.k_bin .neq rfl ?_; refine WT.take rfl rfl (fun _ _ _ h => h) (Yl.neqF (m := l.getD i 0) (n := k.getD i 0) rfl rfl he) rfl (by kernel_rfl) (by kernel_rfl) ?_))); refine WT.nil ?_)
        refine WH.done (by kernel_rfl) ?_
        (repeat (first | refine WN.then_normal ?_))
        refine WC.cond_false rfl rfl ?_
        (repeat (first | refine WL.step (Yl.move rfl) rfl ?_ | (refine WL.k_bin .add ?_; refine WL.step (Yl.add64C rfl (by omega)) rfl ?_) | refine WC.region ?_ | refine WL.nil ?_ | refine WN.then_normal ?_ | refine WC.skip ?_ | refine WN.block_normal ?_))
        exact WN.next (i + 1) ⟨by omega, fun j hj => by by_cases e : j = i; subst e; exact he; exact hp j (by omega)⟩ (by omega) (by repeat (first | exact Sub.nil | refine Sub.cons rfl rfl ?_)) .nil
      · (refine WH.order [0, 1, 2, 3, 4, 5, 6, 7, 8] (by repeat (first | exact Part.nil | refine Part.cons (by repeat (first | exact Pick.here | apply Pick.there)) ?_ | refine Part.free ?_)) (by kernel_rfl) ?_; (repeat (first | (refine WT.k_move rfl ?_; refine WT.take rfl rfl (fun _ _ _ h => h) (Yl.move rfl) rfl (by kernel_rfl) (by kernel_rfl) ?_) | (refine WT.k_load rfl ?_; first | refine WT.take rfl rfl (fun _ _ _ h => h) (Yl.load (T := 3) (a := a) (i := i) Tryz.isAgg3 rfl (Rd.old hr) e1) rfl (by kernel_rfl) (by kernel_rfl) ?_ | refine WT.take rfl rfl (fun _ _ _ h => h) (Yl.load (T := 3) (a := b) (i := i) Tryz.isAgg3 rfl (Rd.old hr2) e2) rfl (by kernel_rfl) (by kernel_rfl) ?_) | (refine WT.k_idxa rfl ?_; first | refine WT.take rfl rfl (fun _ _ _ h => h) (Yl.indexAddr1 (t := 61) (a := a) (n := n) (cap := c1) (j := i) Tryz.underlying61 Tryz.sizeOf3 rfl rfl (Rd.old hr) (ne_nil_of e1) (by omega)) rfl (by kernel_rfl) (by kernel_rfl) ?_ | refine WT.take rfl rfl (fun _ _ _ h => h) (Yl.indexAddr1 (t := 61) (a := b) (n := n) (cap := c2) (j := i) Tryz.underlying61 Tryz.sizeOf3 rfl rfl (Rd.old hr2) (ne_nil_of e2) (by omega)) rfl (by kernel_rfl) (by kernel_rfl) ?_) | (refine WT.k_bin .neq rfl ?_; refine WT.take rfl rfl (fun _ _ _ h => h) (Yl.neqT (m := l.getD i 0) (n := k.getD i 0) rfl rfl he) rfl (by kernel_rfl) (by kernel_rfl) ?_))); refine WT.nil ?_)
        refine WH.done (by kernel_rfl) ?_
        (repeat (first | refine WN.then_normal ?_))
        refine WC.cond_true rfl rfl ?_
        (repeat (first | refine WL.step (Yl.assign rfl) rfl ?_ | refine WC.seq ?_ | refine WC.region ?_ | refine WL.nil ?_ | refine WN.then_normal ?_ | refine WC.ret ?_ | refine WN.then_ret ?_ | refine WN.block_ret ?_))
        rw [decide_eq_false (fun h => he (by rw [h]))]
        exact WN.ret1 rfl rfl ⟨rfl, rfl⟩ .nil
    · have hin : i = n := by omega
      have he : l = k := List.ext_getElem (by omega) fun j h1 h2 => by
        have := hp j (by omega)
        simp only [List.getD, List.getElem?_eq_getElem h1, List.getElem?_eq_getElem h2, Option.getD_some] at this
        exact this
      (repeat (first | refine WL.step (Yl.assign rfl) rfl ?_ | refine WC.seq ?_ | refine WC.region ?_ | refine WL.nil ?_ | refine WN.then_normal ?_ | refine WC.exit ?_ | refine WC.ret ?_ | refine WN.then_exit ?_ | refine WN.block_here ?_))
      rw [decide_eq_true he]
      exact WN.ret1 rfl rfl ⟨rfl, rfl⟩ .nil
  · (repeat (first | refine WL.step (Yl.move rfl) rfl ?_ | refine WL.step (Yl.assign rfl) rfl ?_ | refine WL.step (Yl.len (t := 61) Tryz.underlying61 rfl) rfl ?_ | (refine WL.k_bin .neq ?_; refine WL.step (Yl.neqT rfl rfl (by omega)) rfl ?_) | refine WC.seq ?_ | refine WC.region ?_ | refine WL.nil ?_ | refine WN.then_normal ?_))
    refine WC.cond_true rfl rfl ?_
    (repeat (first | refine WL.step (Yl.assign rfl) rfl ?_ | refine WC.seq ?_ | refine WC.region ?_ | refine WL.nil ?_ | refine WN.then_normal ?_ | refine WC.ret ?_ | refine WN.then_ret ?_))
    rw [decide_eq_false (fun h => hnm (by rw [← hl, ← hk, h]))]
    exact WN.ret1 rfl rfl ⟨rfl, rfl⟩ .nil
end Go.Proofs.YtbkdjfgkebkknaaGreatDoor
namespace Go.Proofs.YtbkdjfgkebkknaaGreatDoor
set_option linter.unusedVariables false
set_option linter.unusedSimpArgs false
open Go Go.RowKit
set_option maxRecDepth 100000
set_option maxHeartbeats 8000000
theorem elemPg : ElemT Tryz.prog 106 (.agg #[.int .i64 0, .slice none 0 0]) 2 32 := ElemT.of (by kernel_rfl) rfl (by decide)
theorem buildPg (n : Int) (a : Option Addr) (m c : Nat) (w : World) : (Instr.build 106 [(0, .int .i64 n), (1, .slice a m c)].toArray).run Tryz.prog w = .ok (.agg #[.int .i64 n, .slice a m c]) w := by
  simp [Instr.build, Tryz.zeroValue106, run_underlying Tryz.underlying106, Tryz.sizeOf3, Tryz.sizeOf23, Value.cells, Instr.fill]
theorem permSc (B C D : List HA) : ((B ++ C) ++ D).Perm (C ++ (B ++ D)) := by
  classical
  rw [List.perm_iff_count]; intro u; simp only [List.count_append]; omega
theorem permSw (A B C D : List HA) : (A ++ ((B ++ C) ++ D)).Perm ((A ++ C) ++ (B ++ D)) := by
  classical
  rw [List.perm_iff_count]; intro u; simp only [List.count_append]; omega
theorem ncells_z (l : List Nat) : ncells l = zcells (l.map fun (k : Nat) => (k : Int)) := by simp [ncells, zcells]
theorem Tab.o {w : World} (h : Tab w) : TabO w [] := CellsAt.out h
def JScanK (dp : DP) (v : DV) (j : JV) : Value → List HA → Prop := fun u B => ∃ p js ds' m, u = .tuple #[bptr (JP.bj p), .int .i64 0] ∧ JS.Ok js ∧ js.v = j ∧ DS.Ok ds' dp ∧ ds'.v = { v with rd := v.rd + m } ∧ m ≤ 5 * (j.n + 1) ∧ B = jI dp.bd p js ++ drI dp ds'
section
variable {dp : DP} {ds : DS} {p : JP} {s : JS} {S : List Nat} {v : DV} {j : JV}
theorem jused_v (k : Nat) (w : World) (h : JAt w dp.bd p s) (hj : s.v = j) (hk : j.used = k) : Calls Tryz.prog 36 #[bptr p.bj] w (Gives (Val (.int .i64 (k : Int))) w) := by
  subst hj hk; exact jused_c w h
theorem jtx_v (k : Nat) (w : World) (h : JAt w dp.bd p s) (hj : s.v = j) (hk : j.tx = k) : Calls Tryz.prog 35 #[bptr p.bj] w (Gives (Val (.int .i64 (k : Int))) w) := by
  subst hj hk; exact jtx_c w h
theorem jfits_v (x : Int) (w : World) (h : JAt w dp.bd p s) (hj : s.v = j) {r : Bool × Bool} (hr : fitV j x = r) : Calls Tryz.prog 15 #[bptr p.bj, .int .i64 x] w (Gives (Val (.tuple #[.bool r.1, .bool r.2])) w) := by
  subst hj hr; exact jfits_c x w h
theorem jpages_v (l : List Nat) (w : World) (h : JAt w dp.bd p s) (hj : s.v = j) (hl : dirtyOf 4096 j.F = l) : Calls Tryz.prog 34 #[bptr p.bj] w (Gives (NewRow id 3 1 l.length (ncells l)) w) := by
  subst hj hl; exact jpages_c w h
theorem jappend_v (a : Option Addr) (n cap : Nat) (L : List Pg) (w : World) (r : DV × JV × Nat) (dok : ds.Ok dp) (hv : ds.v = v) (jok : s.Ok) (hj : s.v = j) (he : japp v j L = r) (hops : v.ops < 1152921504606846976) (hl : L.length = n) (hn : n ≤ 100000)
    (hr : CellsOut w S a (pgs L)) (hq : ∀ q ∈ L, CellsOut w S q.s.a (bs q.s.l)) (hT : TabO w S) (st : St w S (jI dp.bd p s ++ drI dp ds) w) :
    Calls Tryz.prog 16 #[bptr p.bj, .slice a n cap] w (GivesS S (JAppV dp p r) w) := by
  subst hv hj he; exact jappend_r a n cap L w dok jok hops hl hn hr hq hT st
theorem jget_v (no : Int) (w : World) (r : List UInt8 × Bool × Nat) (dok : ds.Ok dp) (hv : ds.v = v) (jok : s.Ok) (hj : s.v = j) (he : jget v j no = r) (hrow : j.first + j.n ≤ v.d.length) (hF : ∀ k q, j.F k = some q → q.at_ ≤ j.n) (hrd : v.rd < 1152921504606846976) (hT : TabO w S) (st : St w S (jI dp.bd p s ++ drI dp ds) w) :
    Calls Tryz.prog 33 #[bptr p.bj, .int .i64 no] w (GivesS S (JGetV dp p s v r) w) := by
  subst hv hj he; exact jget_r no w dok jok hrow hF hrd hT st
theorem jscan_v (first n : Nat) (ep : Int) (t : SS) (w : World) (dok : ds.Ok dp) (hv : ds.v = v) (he0 : Frm.Ep ep) (hn : 1 ≤ n) (hr : first + n ≤ v.d.length) (hdn : v.down = false) (hrd : v.rd < 1152921504606846976) (hs : Scan (frA v first n ep) SS.start t) (hT : TabO w S) (st : St w S (drI dp ds) w) :
    Calls Tryz.prog 18 #[bptr dp.bd, .int .i64 (first : Int), .int .i64 (n : Int), .int .i64 ep] w (GivesS S (JScanK dp v ⟨first, n, ep, t.used, t.tx, t.F⟩) w) := by
  subst hv
  refine (jscan_r first n ep w dok he0 hn hr hdn hrd hT st).mono ?_
  rintro _ _ ⟨u, B, rfl, ⟨p, js, ds', t', m, rfl, jok, hjv, hsc, dok', hd', hm, rfl⟩, st'⟩
  obtain rfl := hsc.det hs
  exact ⟨_, _, rfl, ⟨p, js, ds', m, rfl, jok, hjv, dok', hd', hm, rfl⟩, st'⟩
theorem jscan_k {Ts : List (List Pg)} {j0 : JV} (w : World) (h : Jok v j0 Ts) (dok : ds.Ok dp) (hv : ds.v = v) (hrd : v.rd < 1152921504606846976) (hT : TabO w S) (st : St w S (drI dp ds) w) :
    Calls Tryz.prog 18 #[bptr dp.bd, .int .i64 (j0.first : Int), .int .i64 (j0.n : Int), .int .i64 j0.ep] w (GivesS S (JScanK dp v (j0.adds Ts)) w) := by
  have e := jscan_v j0.first j0.n j0.ep (SS.of (j0.adds Ts)) w dok hv h.ep h.n1 h.row h.calm.up hrd h.scan hT st
  obtain ⟨s1, s2, s3, _, _⟩ := adds_same Ts j0
  have : (⟨j0.first, j0.n, j0.ep, (SS.of (j0.adds Ts)).used, (SS.of (j0.adds Ts)).tx, (SS.of (j0.adds Ts)).F⟩ : JV) = j0.adds Ts := by
    rw [← s1, ← s2, ← s3]; rfl
  rwa [this] at e
theorem jnew_v (first n : Nat) (ep : Int) (w : World) (hd : DrAt w dp ds) (hv : ds.v = v) (he : Frm.Ep ep) (hn : 1 ≤ n) (hr : first + n ≤ v.d.length) : Calls Tryz.prog 12 #[bptr dp.bd, .int .i64 (first : Int), .int .i64 (n : Int), .int .i64 ep] w (Gives (JNewV dp.bd (JV.new first n ep)) w) := by
  subst hv; exact jnew_c first n ep w hd hd.bank.wf.le he hn hr
theorem jnew_ve (first n ep : Int) (k : Nat) (w : World) (hd : DrAt w dp ds) (hv : ds.v = v) (hk : newE v.d.length first n ep = k) (h0 : k ≠ 0) : Calls Tryz.prog 12 #[bptr dp.bd, .int .i64 first, .int .i64 n, .int .i64 ep] w (Gives (Val (.tuple #[.pointer none, .int .i64 (k : Int)])) w) := by
  subst hv hk; exact jnew_e first n ep w hd hd.bank.wf.le h0
end
end Go.Proofs.YtbkdjfgkebkknaaGreatDoor
