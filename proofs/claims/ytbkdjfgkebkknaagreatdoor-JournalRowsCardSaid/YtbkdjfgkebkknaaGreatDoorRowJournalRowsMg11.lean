import Derived.Test.YtbkdjfgkebkknaaGreatDoorRowJournalRowsMg10
import Derived.Test.YtbkdjfgkebkknaaGreatDoorRowJournalRowsMg6
import Derived.Test.YtbkdjfgkebkknaaGreatDoorProg
import Derived.Test.YtbkdjfgkebkknaaGreatDoorRowJournalRowsMg3
namespace Go.Proofs.YtbkdjfgkebkknaaGreatDoor
set_option linter.unusedVariables false
set_option linter.unusedSimpArgs false
open Go Go.RowKit
set_option maxRecDepth 100000
set_option maxHeartbeats 4000000
attribute [local irreducible] WL WC WN Yl WH WQ WT
def two (p : Nat × Nat) : Value := .tuple #[.int .u64 (p.2 : Int), .int .i64 (p.1 : Int)]
theorem ushl {v c : Nat} (hv : v < 72057594037927936) (hc : c < 256) : ((v <<< 8 % 2 ^ IntKind.u64.bits) ||| c) = v * 256 + c := by
  show ((v <<< 8 % 18446744073709551616) ||| c) = _
  rw [Nat.shiftLeft_eq, Nat.mod_eq_of_lt (by omega), Big.or_low (by omega)]
theorem valtake (l : List UInt8) (at_ i : Nat) (h : at_ + i < l.length) : Big.val 0 ((l.drop at_).take (i + 1)) = Big.val 0 ((l.drop at_).take i) * 256 + (l.getD (at_ + i) 0).toNat := by
  rw [take_snoc _ 0 (by simp; omega), Big.val_snoc]
  congr 2
  simp [List.getD]
theorem val_small (l : List UInt8) (at_ i : Nat) (h : i < 8) : Big.val 0 ((l.drop at_).take i) < 72057594037927936 := by
  have h1 := Big.val_lt ((l.drop at_).take i)
  have h2 : ((l.drop at_).take i).length ≤ i := by simp; omega
  have h3 : 256 ^ ((l.drop at_).take i).length ≤ 256 ^ 7 := Nat.pow_le_pow_right (by decide) (by omega)
  have h4 : 256 ^ 7 = 72057594037927936 := by decide
  omega
theorem uint_c (a : Option Addr) (n cap : Nat) (l : List UInt8) (at_ wd : Int) (w : World) (hl : l.length = n) (hn : n ≤ 140737488355000) (hat : -9223372036854775808 ≤ at_ ∧ at_ ≤ 9223372036854775807) (hr : CellsAt w a (bs l)) :
    Calls Tryz.prog 152 #[.slice a n cap, .int .i64 at_, .int .i64 wd] w (Gives (Val (two (Big.uintAt l at_ wd))) w) := by
  refine enter (args := [_, _, _]) Tryz.func152 Tryz.ntmps152 rfl rfl ?_
  by_cases hbad : wd < 1 ∨ 8 < wd
  · have e : Big.uintAt l at_ wd = (2, 0) := if_pos hbad
    rw [e]
    (repeat (first | refine WL.step (Yl.move rfl) rfl ?_ | refine WL.step (Yl.assign rfl) rfl ?_ | (refine WL.k_call 184 ?_; refine WL.callV (g := 184) (v := .bool false) Tryz.call184 rfl (fun w _ => by have := bgvalid_c wd w; rwa [decide_eq_false (fun h => h hbad)] at this) rfl ?_) | refine WL.step (Yl.not rfl) rfl ?_ | refine WC.seq ?_ | refine WC.region ?_ | refine WL.nil ?_ | refine WN.then_normal ?_ | refine WC.block ?_))
    refine WC.cond_true rfl rfl ?_
    (repeat (first | refine WL.step (Yl.assign rfl) rfl ?_ | refine WC.seq ?_ | refine WC.region ?_ | refine WL.nil ?_ | refine WN.then_normal ?_ | refine WC.ret ?_ | refine WN.then_ret ?_ | refine WN.block_ret ?_))
    exact WN.ret2 rfl rfl rfl ⟨rfl, rfl⟩ .nil
  · obtain ⟨W, rfl⟩ : ∃ W : Nat, wd = (W : Int) := ⟨wd.toNat, by omega⟩
    have hW : 1 ≤ W ∧ W ≤ 8 := by omega
    (repeat (first | refine WL.step (Yl.move rfl) rfl ?_ | refine WL.step (Yl.assign rfl) rfl ?_ | (refine WL.k_call 184 ?_; refine WL.callV (g := 184) (v := .bool true) Tryz.call184 rfl (fun w _ => by have := bgvalid_c (W : Int) w; rwa [decide_eq_true hbad] at this) rfl ?_) | refine WL.step (Yl.not rfl) rfl ?_ | refine WC.seq ?_ | refine WC.region ?_ | refine WL.nil ?_ | refine WN.then_normal ?_ | refine WC.block ?_))
    refine WC.cond_false rfl rfl ?_
    (repeat (first | refine WL.step (Yl.move rfl) rfl ?_ | refine WL.step (Yl.assign rfl) rfl ?_ | refine WL.step (Yl.lss rfl rfl) rfl ?_ | refine WC.seq ?_ | refine WC.region ?_ | refine WL.nil ?_ | refine WN.then_normal ?_))
    refine WC.ite rfl (fun h1 => ?_) (fun h1 => ?_)
    · have e : Big.uintAt l at_ W = (3, 0) := by unfold Big.uintAt; rw [if_neg hbad, if_pos h1]
      rw [e]
      (repeat (first | refine WL.step (Yl.assign rfl) rfl ?_ | refine WC.seq ?_ | refine WC.region ?_ | refine WL.nil ?_ | refine WN.then_normal ?_ | refine WC.ret ?_ | refine WN.then_ret ?_ | refine WN.block_ret ?_))
      exact WN.ret2 rfl rfl rfl ⟨rfl, rfl⟩ .nil
    · (repeat (first | refine WL.step (Yl.move rfl) rfl ?_ | refine WL.step (Yl.assign rfl) rfl ?_ | refine WL.step (Yl.len (t := 23) Tryz.underlying23 rfl) rfl ?_ | refine WL.step (Yl.gtr rfl rfl) rfl ?_ | (refine WL.k_bin .sub ?_; refine WL.step (Yl.sub64 rfl rfl (by omega)) rfl ?_) | refine WC.seq ?_ | refine WC.region ?_ | refine WL.nil ?_ | refine WN.then_normal ?_))
      refine WC.ite rfl (fun h2 => ?_) (fun h2 => ?_)
      · have e : Big.uintAt l at_ W = (13, 0) := by unfold Big.uintAt; rw [if_neg hbad, if_neg h1, if_pos (by rw [hl]; exact h2)]
        rw [e]
        (repeat (first | refine WL.step (Yl.assign rfl) rfl ?_ | refine WC.seq ?_ | refine WC.region ?_ | refine WL.nil ?_ | refine WN.then_normal ?_ | refine WC.ret ?_ | refine WN.then_ret ?_ | refine WN.block_ret ?_))
        exact WN.ret2 rfl rfl rfl ⟨rfl, rfl⟩ .nil
      · obtain ⟨t, rfl⟩ : ∃ t : Nat, at_ = (t : Int) := ⟨at_.toNat, by omega⟩
        have e : Big.uintAt l t W = (0, Big.val 0 ((l.drop t).take W)) := by unfold Big.uintAt; rw [if_neg hbad, if_neg h1, if_neg (by rw [hl]; exact h2)]; rfl
        rw [e]
        (repeat (first | refine WL.step (Yl.move rfl) rfl ?_ | refine WL.step (Yl.assign rfl) rfl ?_ | refine WC.seq ?_ | refine WC.region ?_ | refine WL.nil ?_ | refine WN.then_normal ?_ | refine WC.block ?_ | refine WC.skip ?_ | refine WN.block_normal ?_))
        refine WC.loop (α := Nat) (fun i => [(0, .slice a n cap), (1, .int .i64 (t : Int)), (8, .int .u64 ((Big.val 0 ((l.drop t).take i) : Nat) : Int)), (24, .int .i64 (W : Int)), (25, .int .i64 (i : Int))])
          (fun _ => []) (fun i => i ≤ W) (fun i => W - i) 0 zS .nil (by omega) ?_
        intro i hi
        (repeat (first | refine WL.step (Yl.lss rfl rfl) rfl ?_ | refine WC.seq ?_ | refine WC.region ?_ | refine WL.nil ?_ | refine WN.then_normal ?_))
        refine WC.ite rfl (fun h3 => ?_) (fun h3 => ?_)
        · have hti : t + i < l.length := by omega
          have hv := val_small l t i (by omega)
          have hc := byte_lt (l.getD (t + i) 0)
          (repeat (first | refine WL.step (Yl.move rfl) rfl ?_ | refine WL.step (Yl.assign rfl) rfl ?_ | refine WL.step (Yl.load (T := 5) Tryz.isAgg5 rfl (.old hr) (bs_get hti)) rfl ?_ | (refine WL.k_bin .shl ?_; refine WL.step (Yl.shlC rfl rfl (by decide)) rfl ?_) | (refine WL.k_idxa ?_; refine WL.step (Yl.indexAddr1 (t := 23) Tryz.underlying23 Tryz.sizeOf5 rfl rfl (.old hr) (bs_ne hti) (by omega)) rfl ?_) | (refine WL.k_conv ?_; refine WL.step (Yl.convLt (s := 5) (t := 49) Tryz.underlying5 Tryz.underlying49 rfl rfl (by show _ < 18446744073709551616; omega)) rfl ?_) | (refine WL.k_bin .or ?_; refine WL.step (Yl.orN rfl rfl rfl (Nat.mod_lt _ (by decide)) (by show _ < 18446744073709551616; omega)) rfl ?_) | (refine WL.k_bin .add ?_; first | refine WL.step (Yl.add64C rfl (by omega)) rfl ?_ | refine WL.step (Yl.add64N rfl rfl (by omega)) rfl ?_) | refine WC.seq ?_ | refine WC.region ?_ | refine WL.nil ?_ | refine WN.then_normal ?_ | refine WC.block ?_ | refine WC.skip ?_ | refine WN.block_normal ?_))
          exact WN.next (i + 1) (by omega) (by omega) (.cons rfl rfl (.cons rfl rfl (.cons rfl (by rw [ushl hv hc, valtake l t i hti]) (.cons rfl rfl (.cons rfl rfl .nil))))) .nil
        · obtain rfl : i = W := by omega
          (repeat (first | refine WL.step (Yl.move rfl) rfl ?_ | refine WL.step (Yl.assign rfl) rfl ?_ | refine WC.seq ?_ | refine WC.region ?_ | refine WL.nil ?_ | refine WN.then_normal ?_ | refine WC.exit ?_ | refine WC.ret ?_ | refine WN.then_exit ?_ | refine WN.block_here ?_))
          exact WN.ret2 rfl rfl rfl ⟨rfl, rfl⟩ .nil
end Go.Proofs.YtbkdjfgkebkknaaGreatDoor
namespace Go.Proofs.YtbkdjfgkebkknaaGreatDoor
set_option linter.unusedVariables false
set_option linter.unusedSimpArgs false
open Go Go.RowKit
set_option maxRecDepth 100000
attribute [local irreducible] WL WC WN Yl
theorem same_c (a b : Option Addr) (n m c1 c2 : Nat) (l k : List UInt8) (w : World) (hl : l.length = n) (hk : k.length = m) (hn : n ≤ 9223372036854775807) (hr : CellsAt w a (bs l)) (hr2 : CellsAt w b (bs k)) :
    Calls Tryz.prog 195 #[.slice a n c1, .slice b m c2] w (Gives (Val (.bool (decide (l = k)))) w) := by
  refine enter (args := [_, _]) Tryz.func195 Tryz.ntmps195 rfl rfl ?_
  (repeat (first | refine WL.step (Yl.move rfl) rfl ?_ | refine WL.step (Yl.assign rfl) rfl ?_ | refine WL.step (Yl.len (t := 23) Tryz.underlying23 rfl) rfl ?_ | refine WL.step (Yl.neq rfl rfl) rfl ?_ | refine WC.seq ?_ | refine WC.region ?_ | refine WL.nil ?_ | refine WN.then_normal ?_))
  refine WC.ite rfl (fun h => ?_) (fun h => ?_)
  · (repeat (first | refine WL.step (Yl.assign rfl) rfl ?_ | refine WC.seq ?_ | refine WC.region ?_ | refine WL.nil ?_ | refine WN.then_normal ?_ | refine WC.ret ?_ | refine WN.then_ret ?_))
    exact WN.ret1 rfl rfl ⟨by rw [decide_eq_false (fun e => h (by rw [← hl, ← hk, e]))], rfl⟩ .nil
  · (repeat (first | refine WL.step (Yl.assign rfl) rfl ?_ | refine WC.seq ?_ | refine WC.region ?_ | refine WL.nil ?_ | refine WN.then_normal ?_ | refine WC.block ?_ | refine WC.skip ?_))
    refine WC.loop (α := Nat) (fun i => [(0, .slice a n c1), (1, .slice b m c2), (5, .int .i64 (i : Int))]) (fun _ => []) (fun i => i ≤ n ∧ l.take i = k.take i) (fun i => n - i) 0 zS .nil ⟨by omega, rfl⟩ ?_
    intro i hi
    obtain ⟨hi, he⟩ := hi
    (repeat (first | refine WL.step (Yl.move rfl) rfl ?_ | refine WL.step (Yl.len (t := 23) Tryz.underlying23 rfl) rfl ?_ | refine WL.step (Yl.lss rfl rfl) rfl ?_ | refine WC.seq ?_ | refine WC.region ?_ | refine WL.nil ?_ | refine WN.then_normal ?_))
    refine WC.ite rfl (fun h2 => ?_) (fun h2 => ?_)
    · have h3 : i < l.length := by omega
      have h4 : i < k.length := by omega
      (repeat (first | refine WC.seq ?_ | refine WN.then_normal ?_ | refine WC.block ?_ | refine WC.skip ?_))
      refine WC.regionQ (by kernel_rfl) (by kernel_rfl) ?_
      (repeat (first | refine WQ.step (Yl.indexAddr1 (t := 23) Tryz.underlying23 Tryz.sizeOf5 rfl rfl (.old hr) (bs_ne h3) (by omega)) rfl ?_ | refine WQ.step (Yl.load (T := 5) Tryz.isAgg5 rfl (.old hr) (bs_get h3)) rfl ?_ | refine WQ.step (Yl.indexAddr1 (t := 23) Tryz.underlying23 Tryz.sizeOf5 rfl rfl (.old hr2) (bs_ne h4) (by omega)) rfl ?_ | refine WQ.step (Yl.load (T := 5) Tryz.isAgg5 rfl (.old hr2) (bs_get h4)) rfl ?_ | refine WQ.step (Yl.move rfl) rfl ?_ | refine WQ.step (Yl.neq rfl rfl) rfl ?_ | refine WQ.nil ?_))
      (repeat (first | refine WN.then_normal ?_))
      refine WC.ite rfl (fun h5 => ?_) (fun h5 => ?_)
      · (repeat (first | refine WL.step (Yl.assign rfl) rfl ?_ | refine WC.seq ?_ | refine WC.region ?_ | refine WL.nil ?_ | refine WN.then_normal ?_ | refine WC.ret ?_ | refine WN.then_ret ?_ | refine WN.block_ret ?_))
        refine WN.ret1 rfl rfl ⟨?_, rfl⟩ .nil
        rw [decide_eq_false]
        intro e; subst e; exact h5 rfl
      · (repeat (first | refine WL.step (Yl.move rfl) rfl ?_ | refine WL.step (Yl.assign rfl) rfl ?_ | (refine WL.k_bin .add ?_; refine WL.step (Yl.add64C rfl (by omega)) rfl ?_) | refine WC.region ?_ | refine WL.nil ?_ | refine WN.then_normal ?_ | refine WC.skip ?_ | refine WN.block_normal ?_))
        refine WN.next (i + 1) ⟨by omega, ?_⟩ (by omega) zS .nil
        rw [take_snoc l 0 h3, take_snoc k 0 h4, he, UInt8.toNat.inj (show (l.getD i 0).toNat = (k.getD i 0).toNat by omega)]
    · obtain rfl : i = n := by omega
      (repeat (first | refine WL.step (Yl.assign rfl) rfl ?_ | refine WC.seq ?_ | refine WC.region ?_ | refine WL.nil ?_ | refine WN.then_normal ?_ | refine WC.exit ?_ | refine WC.ret ?_ | refine WN.then_exit ?_ | refine WN.block_here ?_))
      refine WN.ret1 rfl rfl ⟨?_, rfl⟩ .nil
      rw [List.take_of_length_le (by omega), List.take_of_length_le (by omega)] at he
      rw [decide_eq_true he]

theorem equal_c (a b : Option Addr) (n m c1 c2 : Nat) (l k : List UInt8) (w : World) (hl : l.length = n) (hk : k.length = m) (hn : n ≤ 9223372036854775807) (hr : CellsAt w a (bs l)) (hr2 : CellsAt w b (bs k)) :
    Calls Tryz.prog 187 #[.slice a n c1, .slice b m c2] w (Gives (Val (.bool (decide (l = k)))) w) := by
  refine enter (args := [_, _]) Tryz.func187 Tryz.ntmps187 rfl rfl ?_
  (repeat (first | refine WL.step (Yl.move rfl) rfl ?_ | refine WL.step (Yl.assign rfl) rfl ?_ | refine WL.step (Yl.len (t := 23) Tryz.underlying23 rfl) rfl ?_ | refine WL.step (Yl.neq rfl rfl) rfl ?_ | refine WC.seq ?_ | refine WC.region ?_ | refine WL.nil ?_ | refine WN.then_normal ?_))
  refine WC.ite rfl (fun h => ?_) (fun h => ?_)
  · (repeat (first | refine WL.step (Yl.assign rfl) rfl ?_ | refine WC.seq ?_ | refine WC.region ?_ | refine WL.nil ?_ | refine WN.then_normal ?_ | refine WC.ret ?_ | refine WN.then_ret ?_))
    exact WN.ret1 rfl rfl ⟨by rw [decide_eq_false (fun e => h (by rw [← hl, ← hk, e]))], rfl⟩ .nil
  · (repeat (first | refine WL.step (Yl.move rfl) rfl ?_ | refine WL.step (Yl.len (t := 23) Tryz.underlying23 rfl) rfl ?_ | refine WC.seq ?_ | refine WC.region ?_ | refine WL.nil ?_ | refine WN.then_normal ?_ | refine WC.block ?_ | refine WC.skip ?_))
    refine WC.loop (α := Nat) (fun i => [(0, .slice a n c1), (1, .slice b m c2), (12, .int .i64 (n : Int)), (13, .int .i64 (i : Int))]) (fun _ => []) (fun i => i ≤ n ∧ l.take i = k.take i) (fun i => n - i) 0 zS .nil ⟨by omega, rfl⟩ ?_
    intro i hi
    obtain ⟨hi, he⟩ := hi
    (repeat (first | refine WL.step (Yl.lss rfl rfl) rfl ?_ | refine WC.seq ?_ | refine WC.region ?_ | refine WL.nil ?_ | refine WN.then_normal ?_))
    refine WC.ite rfl (fun h2 => ?_) (fun h2 => ?_)
    · have h3 : i < l.length := by omega
      have h4 : i < k.length := by omega
      (repeat (first | refine WL.step (Yl.move rfl) rfl ?_ | refine WL.step (Yl.assign rfl) rfl ?_ | refine WC.seq ?_ | refine WC.region ?_ | refine WL.nil ?_ | refine WN.then_normal ?_ | refine WC.block ?_ | refine WC.skip ?_))
      refine WC.regionQ (by kernel_rfl) (by kernel_rfl) ?_
      (repeat (first | refine WQ.step (Yl.indexAddr1 (t := 23) Tryz.underlying23 Tryz.sizeOf5 rfl rfl (.old hr) (bs_ne h3) (by omega)) rfl ?_ | refine WQ.step (Yl.load (T := 5) Tryz.isAgg5 rfl (.old hr) (bs_get h3)) rfl ?_ | refine WQ.step (Yl.indexAddr1 (t := 23) Tryz.underlying23 Tryz.sizeOf5 rfl rfl (.old hr2) (bs_ne h4) (by omega)) rfl ?_ | refine WQ.step (Yl.load (T := 5) Tryz.isAgg5 rfl (.old hr2) (bs_get h4)) rfl ?_ | refine WQ.step (Yl.move rfl) rfl ?_ | refine WQ.step (Yl.neq rfl rfl) rfl ?_ | refine WQ.nil ?_))
      (repeat (first | refine WN.then_normal ?_))
      refine WC.ite rfl (fun h5 => ?_) (fun h5 => ?_)
      · (repeat (first | refine WL.step (Yl.assign rfl) rfl ?_ | refine WC.seq ?_ | refine WC.region ?_ | refine WL.nil ?_ | refine WN.then_normal ?_ | refine WC.ret ?_ | refine WN.then_ret ?_ | refine WN.block_ret ?_))
        refine WN.ret1 rfl rfl ⟨?_, rfl⟩ .nil
        rw [decide_eq_false]
        intro e; subst e; exact h5 rfl
      · (repeat (first | refine WL.step (Yl.move rfl) rfl ?_ | (refine WL.k_bin .add ?_; refine WL.step (Yl.add64C rfl (by omega)) rfl ?_) | refine WC.region ?_ | refine WL.nil ?_ | refine WN.then_normal ?_ | refine WC.skip ?_ | refine WN.block_normal ?_))
        refine WN.next (i + 1) ⟨by omega, ?_⟩ (by omega) zS .nil
        rw [take_snoc l 0 h3, take_snoc k 0 h4, he, UInt8.toNat.inj (show (l.getD i 0).toNat = (k.getD i 0).toNat by omega)]
    · obtain rfl : i = n := by omega
      (repeat (first | refine WL.step (Yl.assign rfl) rfl ?_ | refine WC.seq ?_ | refine WC.region ?_ | refine WL.nil ?_ | refine WN.then_normal ?_ | refine WC.exit ?_ | refine WC.ret ?_ | refine WN.then_exit ?_ | refine WN.block_here ?_))
      refine WN.ret1 rfl rfl ⟨?_, rfl⟩ .nil
      rw [List.take_of_length_le (by omega), List.take_of_length_le (by omega)] at he
      rw [decide_eq_true he]

end Go.Proofs.YtbkdjfgkebkknaaGreatDoor
namespace Go.Proofs.YtbkdjfgkebkknaaGreatDoor
set_option linter.unusedVariables false
set_option linter.unusedSimpArgs false
open Go Go.RowKit
set_option maxRecDepth 100000
attribute [local irreducible] WL WC WN Yl
theorem step_c (x : Nat) (w : World) (hx : x < 4294967296) : Calls Tryz.prog 206 #[.int .u32 (x : Int)] w (Gives (Val (.int .u32 (Crc.step x : Nat))) w) := by
  refine enter (args := [_]) Tryz.func206 Tryz.ntmps206 rfl rfl ?_
  (repeat (first | refine WL.step (Yl.move rfl) rfl ?_ | refine WL.step (Yl.assign rfl) rfl ?_ | (refine WL.k_bin .and ?_; refine WL.step (Yl.andC rfl rfl hx (by decide)) rfl ?_) | refine WL.step (Yl.eql rfl rfl) rfl ?_ | refine WC.seq ?_ | refine WC.region ?_ | refine WL.nil ?_ | refine WN.then_normal ?_))
  refine WC.ite rfl (fun h => ?_) (fun h => ?_)
  · (repeat (first | refine WL.step (Yl.move rfl) rfl ?_ | refine WL.step (Yl.assign rfl) rfl ?_ | (refine WL.k_bin .shr ?_; refine WL.step (Yl.shrC rfl (by decide)) rfl ?_) | (refine WL.k_bin .xor ?_; refine WL.step (Yl.xorC rfl rfl (by show _ < 4294967296; omega) (by decide)) rfl ?_) | refine WC.seq ?_ | refine WC.region ?_ | refine WL.nil ?_ | refine WN.then_normal ?_ | refine WC.ret ?_ | refine WN.then_ret ?_))
    refine WN.ret1 rfl rfl ⟨?_, rfl⟩ .nil
    rw [Nat.and_one_is_mod] at h
    rw [Crc.step, if_pos (by omega)]; rfl
  · (repeat (first | refine WL.step (Yl.move rfl) rfl ?_ | refine WL.step (Yl.assign rfl) rfl ?_ | (refine WL.k_bin .shr ?_; refine WL.step (Yl.shrC rfl (by decide)) rfl ?_) | refine WC.seq ?_ | refine WC.region ?_ | refine WL.nil ?_ | refine WN.then_normal ?_ | refine WC.skip ?_ | refine WC.ret ?_))
    refine WN.ret1 rfl rfl ⟨?_, rfl⟩ .nil
    rw [Nat.and_one_is_mod] at h
    rw [Crc.step, if_neg (by omega)]; rfl
theorem feed_c (x : Nat) (c : UInt8) (w : World) (hx : x < 4294967296) : Calls Tryz.prog 205 #[.int .u32 (x : Int), bv c] w (Gives (Val (.int .u32 (Crc.feed x c : Nat))) w) := by
  have hc := byte_lt c
  have hxc := Crc.xor_byte_lt hx c
  refine enter (args := [_, .int .u8 (c.toNat : Int)]) Tryz.func205 Tryz.ntmps205 rfl rfl ?_
  (repeat (first | refine WL.step (Yl.move rfl) rfl ?_ | refine WL.step (Yl.assign rfl) rfl ?_ | refine WL.step (Yl.convN (s := 5) (t := 199) Tryz.underlying5 Tryz.underlying199 rfl rfl) rfl ?_ | (refine WL.k_bin .xor ?_; refine WL.step (Yl.xorN rfl rfl rfl hx (by show _ % 4294967296 < 4294967296; omega)) rfl ?_) | refine WC.seq ?_ | refine WC.region ?_ | refine WL.nil ?_ | refine WN.then_normal ?_ | refine WC.block ?_))
  refine WC.loop (α := Nat) (fun i => [(0, .int .u32 ((Crc.steps i (x ^^^ c.toNat) : Nat) : Int)), (5, .int .i64 (i : Int))]) (fun _ => []) (fun i => i ≤ 8) (fun i => 8 - i) 0
    (.cons rfl (by rw [show c.toNat % 2 ^ IntKind.u32.bits = c.toNat from Nat.mod_eq_of_lt (by show _ < 4294967296; omega)]; rfl) (.cons rfl rfl .nil)) .nil (by omega) ?_
  intro i hi
  (repeat (first | refine WL.step (Yl.move rfl) rfl ?_ | refine WL.step (Yl.lss rfl rfl) rfl ?_ | refine WC.seq ?_ | refine WC.region ?_ | refine WL.nil ?_ | refine WN.then_normal ?_))
  refine WC.ite rfl (fun h => ?_) (fun h => ?_)
  · have hs := Crc.steps_lt i hxc
    (repeat (first | refine WL.step (Yl.move rfl) rfl ?_ | refine WL.step (Yl.assign rfl) rfl ?_ | refine WL.callV (g := 206) Tryz.call206 rfl (fun w _ => step_c _ w hs) rfl ?_ | (refine WL.k_bin .add ?_; refine WL.step (Yl.add64C rfl (by omega)) rfl ?_) | refine WC.seq ?_ | refine WC.region ?_ | refine WL.nil ?_ | refine WN.then_normal ?_ | refine WC.block ?_ | refine WC.skip ?_ | refine WN.block_normal ?_))
    refine WN.next (i + 1) (by omega) (by omega) (.cons rfl (by rw [Crc.steps_succ]) (.cons rfl rfl .nil)) .nil
  · obtain rfl : i = 8 := by omega
    (repeat (first | refine WL.step (Yl.move rfl) rfl ?_ | refine WL.step (Yl.assign rfl) rfl ?_ | refine WC.seq ?_ | refine WC.region ?_ | refine WL.nil ?_ | refine WN.then_normal ?_ | refine WC.exit ?_ | refine WC.ret ?_ | refine WN.then_exit ?_ | refine WN.block_here ?_))
    exact WN.ret1 rfl rfl ⟨rfl, rfl⟩ .nil
theorem rupdate_c (s : Nat) (a : Option Addr) (n cap : Nat) (l : List UInt8) (w : World) (hs : s < 4294967296) (hl : l.length = n) (hn : n ≤ 9223372036854775807) (hr : CellsAt w a (bs l)) :
    Calls Tryz.prog 204 #[.int .u32 (s : Int), .slice a n cap] w (Gives (Val (.int .u32 (Crc.update s l : Nat))) w) := by
  have h0 : s ^^^ 4294967295 < 4294967296 := Nat.xor_lt_two_pow (n := 32) hs (by decide)
  refine enter (args := [_, _]) Tryz.func204 Tryz.ntmps204 rfl rfl ?_
  (repeat (first | refine WL.step (Yl.move rfl) rfl ?_ | refine WL.step (Yl.assign rfl) rfl ?_ | (refine WL.k_bin .xor ?_; refine WL.step (Yl.xorC rfl rfl hs (by decide)) rfl ?_) | refine WC.seq ?_ | refine WC.region ?_ | refine WL.nil ?_ | refine WN.then_normal ?_ | refine WC.block ?_))
  refine WC.loop (α := Nat) (fun i => [(1, .slice a n cap), (5, .int .u32 ((Crc.feeds (s ^^^ 4294967295) (l.take i) : Nat) : Int)), (6, .int .i64 (i : Int))]) (fun _ => []) (fun i => i ≤ n) (fun i => n - i) 0
    zS .nil (by omega) ?_
  intro i hi
  have hf := Crc.feeds_lt h0 (l.take i)
  (repeat (first | refine WL.step (Yl.move rfl) rfl ?_ | refine WL.step (Yl.len (t := 23) Tryz.underlying23 rfl) rfl ?_ | refine WL.step (Yl.lss rfl rfl) rfl ?_ | refine WC.seq ?_ | refine WC.region ?_ | refine WL.nil ?_ | refine WN.then_normal ?_))
  refine WC.ite rfl (fun h => ?_) (fun h => ?_)
  · have hi' : i < l.length := by omega
    (repeat (first | refine WL.step (Yl.move rfl) rfl ?_ | refine WL.step (Yl.assign rfl) rfl ?_ | refine WL.step (Yl.load (T := 5) Tryz.isAgg5 rfl (.old hr) (bs_get hi')) rfl ?_ | (refine WL.k_idxa ?_; refine WL.step (Yl.indexAddr1 (t := 23) Tryz.underlying23 Tryz.sizeOf5 rfl rfl (.old hr) (bs_ne hi') (by omega)) rfl ?_) | refine WL.callV (g := 205) Tryz.call205 rfl (fun w _ => feed_c _ _ w hf) rfl ?_ | (refine WL.k_bin .add ?_; refine WL.step (Yl.add64C rfl (by omega)) rfl ?_) | refine WC.seq ?_ | refine WC.region ?_ | refine WL.nil ?_ | refine WN.then_normal ?_ | refine WC.block ?_ | refine WC.skip ?_ | refine WN.block_normal ?_))
    refine WN.next (i + 1) (by omega) (by omega) (.cons rfl rfl (.cons rfl (by rw [take_snoc l 0 hi', Crc.feeds_append]; rfl) (.cons rfl rfl .nil))) .nil
  · obtain rfl : i = n := by omega
    (repeat (first | refine WL.step (Yl.move rfl) rfl ?_ | refine WL.step (Yl.assign rfl) rfl ?_ | (refine WL.k_bin .xor ?_; refine WL.step (Yl.xorC rfl rfl hf (by decide)) rfl ?_) | refine WC.seq ?_ | refine WC.region ?_ | refine WL.nil ?_ | refine WN.then_normal ?_ | refine WC.exit ?_ | refine WC.ret ?_ | refine WN.then_exit ?_ | refine WN.block_here ?_))
    refine WN.ret1 rfl rfl ⟨?_, rfl⟩ .nil
    rw [← hl, List.take_length]; rfl
theorem rsum_c (a : Option Addr) (n cap : Nat) (l : List UInt8) (w : World) (hl : l.length = n) (hn : n ≤ 9223372036854775807) (hr : CellsAt w a (bs l)) :
    Calls Tryz.prog 202 #[.slice a n cap] w (Gives (Val (.int .u32 (Crc.sum l : Nat))) w) := by
  refine enter (args := [_]) Tryz.func202 Tryz.ntmps202 rfl rfl ?_
  (repeat (first | refine WL.step (Yl.move rfl) rfl ?_ | refine WL.step (Yl.assign rfl) rfl ?_ | (refine WL.k_call 204 ?_; refine WL.callV (g := 204) Tryz.call204 rfl (fun w s => rupdate_c 0 _ _ _ l w (by decide) hl hn (Rd.old hr w s)) rfl ?_) | refine WC.seq ?_ | refine WC.region ?_ | refine WL.nil ?_ | refine WN.then_normal ?_ | refine WC.ret ?_))
  exact WN.ret1 rfl rfl ⟨rfl, rfl⟩ .nil

def tv (i : Nat) : Value := .int .u32 (Crc.entry i : Nat)
def tbl (n : Nat) : List Value := (List.range 256).map fun i => if i < n then tv i else .int .u32 0
theorem tbl_length (n : Nat) : (tbl n).length = 256 := by simp [tbl]
theorem tbl_set {n : Nat} (h : n < 256) : (tbl n).set n (tv n) = tbl (n + 1) := by
  apply List.ext_getElem?
  intro i
  simp only [tbl, List.getElem?_set, List.length_map, List.length_range]
  by_cases e : n = i
  · subst e; simp [h]
  · simp only [e, if_false, List.getElem?_map]
    by_cases hi : i < 256
    · simp only [List.getElem?_range hi, Option.map_some]
      by_cases h2 : i < n
      · rw [if_pos h2, if_pos (by omega)]
      · rw [if_neg h2, if_neg (by omega)]
    · simp [hi]
theorem tbl_get {i : Nat} (h : i < 256) : (tbl 256)[i]? = some (tv i) := by
  simp [tbl, h]
theorem tbl_one (n : Nat) : ∀ u ∈ tbl n, u.oneCell' = true := by
  intro u hu
  obtain ⟨i, _, rfl⟩ := List.mem_map.1 hu
  split <;> rfl
theorem zero_tbl : tbl 0 = List.replicate 256 (Value.int .u32 0) := by
  apply List.ext_getElem?
  intro i
  simp only [tbl, List.getElem?_map, List.getElem?_replicate]
  by_cases hi : i < 256
  · simp [hi]
  · simp [hi]
theorem zeroTbl (w : World) : (zeroValue 249).run Tryz.prog w = .ok (.agg (tbl 0).toArray) w := by
  have h : (Tryz.prog.info? 249).map (fun i => i.zero) = some (some (.agg (List.replicate 256 (Value.int .u32 0)).toArray)) := by kernel_rfl
  rw [zero_tbl]
  exact zero_of h w
theorem entry_lt {i : Nat} (h : i < 256) (k : Nat) : Crc.steps k i < 4294967296 := Crc.steps_lt k (by omega)
theorem table_c (w : World) : Calls Tryz.prog 203 #[] w (Gives (Val (.agg (tbl 256).toArray)) w) := by
  refine enter (args := []) Tryz.func203 Tryz.ntmps203 rfl rfl ?_
  (repeat (first | refine WC.seq ?_ | refine WC.region ?_))
  refine WL.alloc zeroTbl rfl fun b0 => ?_
  (repeat (first | refine WC.seq ?_ | refine WC.region ?_ | refine WL.nil ?_ | refine WN.then_normal ?_))
  refine WL.alloc zeroTbl rfl fun b1 => ?_
  (repeat (first | refine WL.step (Yl.move rfl) rfl ?_ | refine WC.seq ?_ | refine WC.region ?_ | refine WL.nil ?_ | refine WN.then_normal ?_ | refine WC.block ?_))
  refine WC.loop (α := Nat) (fun i => [(0, .pointer (some ⟨b0, 0, none⟩)), (1, .pointer (some ⟨b1, 0, none⟩)), (4, .int .i64 (i : Int))])
    (fun i => [.blk b0 (.cells (tbl 0).toArray 249 (0, 0)), .blk b1 (.cells (tbl i).toArray 249 (0, 0))]) (fun i => i ≤ 256) (fun i => 256 - i) 0 zS (.cons (.there .here) (.cons .here .nil)) (by omega) ?_
  intro i hi
  (repeat (first | refine WL.step (Yl.lss rfl rfl) rfl ?_ | refine WC.seq ?_ | refine WC.region ?_ | refine WL.nil ?_ | refine WN.then_normal ?_))
  refine WC.ite rfl (fun h => ?_) (fun h => ?_)
  · have hi' : i < 256 := by omega
    (repeat (first | refine WL.step (Yl.move rfl) rfl ?_ | refine WL.step (Yl.assign rfl) rfl ?_ | refine WL.step (Yl.convN (s := 3) (t := 199) Tryz.underlying3 Tryz.underlying199 rfl rfl) rfl ?_ | refine WC.seq ?_ | refine WC.region ?_ | refine WL.nil ?_ | refine WN.then_normal ?_ | refine WC.block ?_ | refine WC.skip ?_))
    refine WC.loop (α := Nat) (fun j => [(0, .pointer (some ⟨b0, 0, none⟩)), (1, .pointer (some ⟨b1, 0, none⟩)), (4, .int .i64 (i : Int)), (2, .int .i64 (i : Int)), (3, .int .u32 (Crc.steps j i : Nat)), (9, .int .i64 (j : Int))])
      (fun _ => [.blk b0 (.cells (tbl 0).toArray 249 (0, 0)), .blk b1 (.cells (tbl i).toArray 249 (0, 0))]) (fun j => j ≤ 8) (fun j => 8 - j) 0
      (.cons rfl rfl (.cons rfl rfl (.cons rfl rfl (.cons rfl rfl (.cons rfl (by rw [show i % 2 ^ IntKind.u32.bits = i from Nat.mod_eq_of_lt (by show _ < 4294967296; omega)]; rfl) (.cons rfl rfl .nil)))))) (.cons .here (.cons .here .nil)) (by omega) ?_
    intro j hj
    have hx := entry_lt hi' j
    (repeat (first | refine WL.step (Yl.lss rfl rfl) rfl ?_ | refine WC.seq ?_ | refine WC.region ?_ | refine WL.nil ?_ | refine WN.then_normal ?_))
    refine WC.ite rfl (fun h2 => ?_) (fun h2 => ?_)
    · (repeat (first | refine WL.step (Yl.move rfl) rfl ?_ | (refine WL.k_bin .and ?_; refine WL.step (Yl.andC rfl rfl hx (by decide)) rfl ?_) | refine WL.step (Yl.eql rfl rfl) rfl ?_ | refine WC.seq ?_ | refine WC.region ?_ | refine WL.nil ?_ | refine WN.then_normal ?_ | refine WC.block ?_ | refine WC.skip ?_))
      refine WC.ite rfl (fun h3 => ?_) (fun h3 => ?_)
      · rw [Nat.and_one_is_mod] at h3
        have e : Crc.steps (j + 1) i = (Crc.steps j i >>> 1) ^^^ 2197175160 := by rw [Crc.steps_succ, Crc.step, if_pos (by omega)]; rfl
        (repeat (first | refine WL.step (Yl.move rfl) rfl ?_ | refine WL.step (Yl.assign rfl) rfl ?_ | (refine WL.k_bin .shr ?_; refine WL.step (Yl.shrC rfl (by decide)) rfl ?_) | (refine WL.k_bin .xor ?_; refine WL.step (Yl.xorC rfl rfl (by show _ < 4294967296; omega) (by decide)) rfl ?_) | (refine WL.k_bin .add ?_; refine WL.step (Yl.add64C rfl (by omega)) rfl ?_) | refine WC.region ?_ | refine WL.nil ?_ | refine WN.then_normal ?_ | refine WN.block_normal ?_))
        exact WN.next (j + 1) (by omega) (by omega) (.cons rfl rfl (.cons rfl rfl (.cons rfl rfl (.cons rfl rfl (.cons rfl (by rw [e]) (.cons rfl rfl .nil)))))) (.cons .here (.cons .here .nil))
      · rw [Nat.and_one_is_mod] at h3
        have e : Crc.steps (j + 1) i = Crc.steps j i >>> 1 := by rw [Crc.steps_succ, Crc.step, if_neg (by omega)]; rfl
        (repeat (first | refine WL.step (Yl.move rfl) rfl ?_ | refine WL.step (Yl.assign rfl) rfl ?_ | (refine WL.k_bin .shr ?_; refine WL.step (Yl.shrC rfl (by decide)) rfl ?_) | (refine WL.k_bin .add ?_; refine WL.step (Yl.add64C rfl (by omega)) rfl ?_) | refine WC.region ?_ | refine WL.nil ?_ | refine WN.then_normal ?_ | refine WN.block_normal ?_))
        exact WN.next (j + 1) (by omega) (by omega) (.cons rfl rfl (.cons rfl rfl (.cons rfl rfl (.cons rfl rfl (.cons rfl (by rw [e]) (.cons rfl rfl .nil)))))) (.cons .here (.cons .here .nil))
    · obtain rfl : j = 8 := by omega
      (repeat (first | refine WL.step (Yl.move rfl) rfl ?_ | refine WL.step (Yl.indexArr (t := 249) Tryz.underlying249 Tryz.sizeOf199 rfl rfl hi') rfl ?_ | refine WC.region ?_ | refine WN.then_normal ?_ | refine WC.exit ?_ | refine WN.then_exit ?_ | refine WN.block_here ?_))
      refine WL.store1 (T := 199) Tryz.sizeOf199 rfl rfl rfl (.there .here) (by simp [tbl_length, hi']) ?_
      (repeat (first | refine WL.step (Yl.move rfl) rfl ?_ | (refine WL.k_bin .add ?_; refine WL.step (Yl.add64C rfl (by omega)) rfl ?_) | refine WC.region ?_ | refine WL.nil ?_ | refine WN.then_normal ?_ | refine WN.block_normal ?_))
      rw [show (tbl i).toArray.toList.set (0 + i * 1) (Value.int .u32 ((Crc.steps 8 i : Nat) : Int)) = tbl (i + 1) from by rw [Nat.zero_add, Nat.mul_one]; exact tbl_set hi']
      refine WN.next (i + 1) (by omega) (by omega) zS (.cons (.there .here) (.cons .here .nil))
  · obtain rfl : i = 256 := by omega
    (repeat (first | refine WC.seq ?_ | refine WC.region ?_ | refine WN.then_normal ?_ | refine WC.exit ?_ | refine WN.then_exit ?_ | refine WN.block_here ?_))
    refine WL.step (Yl.loadAgg (T := 249) (us := tbl 256) Tryz.isAgg249 Tryz.sizeOf249 rfl zH (tbl_length _) (fun j u hu => by simpa using hu)) rfl ?_
    refine WL.storeAll (us := tbl 256) (by rw [tbl_length]; exact Tryz.sizeOf249) rfl rfl (tbl_one _) .here (by simp [tbl_length]) ?_
    (repeat (first | refine WL.nil ?_ | refine WN.then_normal ?_ | refine WC.ret ?_))
    exact WN.retCell rfl Tryz.isAgg249 Tryz.sizeOf249 rfl (.head _) (tbl_length _) ⟨rfl, rfl⟩ .nil
theorem update_c (s : Nat) (a : Option Addr) (n cap : Nat) (l : List UInt8) (w : World) (hs : s < 4294967296) (hl : l.length = n) (hn : n ≤ 9223372036854775807) (hr : CellsAt w a (bs l)) :
    Calls Tryz.prog 199 #[.int .u32 (s : Int), .slice a n cap] w (Gives (Val (.int .u32 (Crc.update s l : Nat))) w) := by
  have h0 : s ^^^ 4294967295 < 4294967296 := Nat.xor_lt_two_pow (n := 32) hs (by decide)
  refine enter (args := [_, _]) Tryz.func199 Tryz.ntmps199 rfl rfl ?_
  (repeat (first | refine WL.step (Yl.assign rfl) rfl ?_ | refine WL.callV (g := 203) Tryz.call203 rfl (fun w _ => table_c w) rfl ?_ | refine WC.seq ?_ | refine WC.region ?_ | refine WL.nil ?_ | refine WN.then_normal ?_))
  refine WL.alloc zeroTbl rfl fun b => ?_
  refine WL.storeAll (us := tbl 256) (by rw [tbl_length]; exact Tryz.sizeOf249) rfl rfl (tbl_one _) .here (by simp [tbl_length, Value.cells]) ?_
  (repeat (first | refine WL.step (Yl.move rfl) rfl ?_ | refine WL.step (Yl.assign rfl) rfl ?_ | (refine WL.k_bin .xor ?_; refine WL.step (Yl.xorC rfl rfl hs (by decide)) rfl ?_) | refine WL.step (Yl.len (t := 23) Tryz.underlying23 rfl) rfl ?_ | refine WC.seq ?_ | refine WC.region ?_ | refine WL.nil ?_ | refine WN.then_normal ?_ | refine WC.block ?_))
  refine WC.loop (α := Nat) (fun i => [(12, .slice a n cap), (13, .int .i64 (n : Int)), (5, .pointer (some ⟨b, 0, none⟩)), (6, .int .u32 ((Crc.feeds (s ^^^ 4294967295) (l.take i) : Nat) : Int)), (14, .int .i64 (i : Int))])
    (fun _ => [.blk b (.cells (tbl 256).toArray 249 (0, 0))]) (fun i => i ≤ n) (fun i => n - i) 0 zS (.cons .here .nil) (by omega) ?_
  intro i hi
  have hf := Crc.feeds_lt h0 (l.take i)
  (repeat (first | refine WL.step (Yl.lss rfl rfl) rfl ?_ | refine WC.seq ?_ | refine WC.region ?_ | refine WL.nil ?_ | refine WN.then_normal ?_))
  refine WC.ite rfl (fun h => ?_) (fun h => ?_)
  · have hi' : i < l.length := by omega
    have hb := byte_lt (l.getD i 0)
    generalize hx : Crc.feeds (s ^^^ 4294967295) (l.take i) = x at *
    have hj : x % 2 ^ IntKind.u8.bits ^^^ (l.getD i 0).toNat < 256 := Nat.xor_lt_two_pow (n := 8) (by show x % 256 < 256; omega) hb
    have hlt := entry_lt hj 8
    (repeat (first | refine WL.step (Yl.move rfl) rfl ?_ | refine WL.step (Yl.assign rfl) rfl ?_ | (refine WL.k_load ?_; first | refine WL.step (Yl.load (T := 5) Tryz.isAgg5 rfl (.old hr) (bs_get hi')) rfl ?_ | refine WL.step (Yl.loadBlk (T := 199) Tryz.isAgg199 rfl (.head _) (by rw [Nat.mul_one, Nat.zero_add]; simpa using tbl_get hj)) rfl ?_) | (refine WL.k_idxa ?_; first | refine WL.step (Yl.indexAddr1 (t := 23) Tryz.underlying23 Tryz.sizeOf5 rfl rfl (.old hr) (bs_ne hi') (by omega)) rfl ?_ | refine WL.step (Yl.indexArr (t := 249) Tryz.underlying249 Tryz.sizeOf199 rfl rfl hj) rfl ?_) | refine WL.step (Yl.convN (s := 199) (t := 5) Tryz.underlying199 Tryz.underlying5 rfl rfl) rfl ?_ | (refine WL.k_bin .xor ?_; first | refine WL.step (Yl.xorN (k := .u8) rfl rfl rfl (by show _ % 256 < 256; omega) hb) rfl ?_ | refine WL.step (Yl.xorN (k := .u32) rfl rfl rfl hlt (by show _ < 4294967296; omega)) rfl ?_) | (refine WL.k_bin .shr ?_; refine WL.step (Yl.shrC rfl (by decide)) rfl ?_) | (refine WL.k_bin .add ?_; refine WL.step (Yl.add64C rfl (by omega)) rfl ?_) | refine WC.seq ?_ | refine WC.region ?_ | refine WL.nil ?_ | refine WN.then_normal ?_ | refine WC.block ?_ | refine WC.skip ?_ | refine WN.block_normal ?_))
    refine WN.next (i + 1) (by omega) (by omega) (.cons rfl rfl (.cons rfl rfl (.cons rfl rfl (.cons rfl ?_ (.cons rfl rfl .nil))))) (.cons .here .nil)
    rw [take_snoc l 0 hi', Crc.feeds_append, hx]
    show Value.int .u32 _ = .int .u32 ((Crc.feed x (l.getD i 0) : Nat) : Int)
    rw [Crc.feed_table, Nat.shiftRight_eq_div_pow]; rfl
  · obtain rfl : i = n := by omega
    (repeat (first | refine WL.step (Yl.move rfl) rfl ?_ | refine WL.step (Yl.assign rfl) rfl ?_ | (refine WL.k_bin .xor ?_; refine WL.step (Yl.xorC rfl rfl hf (by decide)) rfl ?_) | refine WC.seq ?_ | refine WC.region ?_ | refine WL.nil ?_ | refine WN.then_normal ?_ | refine WC.exit ?_ | refine WC.ret ?_ | refine WN.then_exit ?_ | refine WN.block_here ?_))
    refine WN.ret1 rfl rfl ⟨?_, rfl⟩ .nil
    rw [← hl, List.take_length]; rfl
theorem sum_c (a : Option Addr) (n cap : Nat) (l : List UInt8) (w : World) (hl : l.length = n) (hn : n ≤ 9223372036854775807) (hr : CellsAt w a (bs l)) :
    Calls Tryz.prog 186 #[.slice a n cap] w (Gives (Val (.int .u32 (Crc.sum l : Nat))) w) := by
  refine enter (args := [_]) Tryz.func186 Tryz.ntmps186 rfl rfl ?_
  (repeat (first | refine WL.step (Yl.move rfl) rfl ?_ | refine WL.step (Yl.assign rfl) rfl ?_ | (refine WL.k_call 199 ?_; refine WL.callV (g := 199) Tryz.call199 rfl (fun w s => update_c 0 _ _ _ l w (by decide) hl hn (Rd.old hr w s)) rfl ?_) | refine WC.seq ?_ | refine WC.region ?_ | refine WL.nil ?_ | refine WN.then_normal ?_ | refine WC.ret ?_))
  exact WN.ret1 rfl rfl ⟨rfl, rfl⟩ .nil

theorem be4_cells (s : Nat) : flat [Value.int .u8 ((s >>> 24 % 2 ^ IntKind.u8.bits : Nat) : Int), .int .u8 ((s >>> 16 % 2 ^ IntKind.u8.bits : Nat) : Int), .int .u8 ((s >>> 8 % 2 ^ IntKind.u8.bits : Nat) : Int), .int .u8 ((s % 2 ^ IntKind.u8.bits : Nat) : Int)] = bs (Crc.be4 s) := by
  rw [flat_one (by intro u hu; simp only [List.mem_cons, List.not_mem_nil, or_false] at hu; rcases hu with rfl | rfl | rfl | rfl <;> rfl)]
  simp only [bs, bv, Crc.be4, List.map_cons, List.map_nil, UInt8.toNat_ofNat', Nat.shiftRight_eq_div_pow]
  rfl
theorem seal_c (a : Option Addr) (n cap : Nat) (l : List UInt8) (w : World) (hl : l.length = n) (hc : n ≤ cap) (hn : n ≤ 140737488355324) (hr : CellsAt w a (bs l)) :
    Calls Tryz.prog 147 #[.slice a n cap] w (Gives (NewRow id 5 1 (n + 4) (bs (Crc.sealed l))) w) := by
  have hs := Crc.sum_lt l
  refine enter (args := [_]) Tryz.func147 Tryz.ntmps147 rfl rfl ?_
  (repeat (first | refine WL.step (Yl.move rfl) rfl ?_ | refine WL.step (Yl.assign rfl) rfl ?_ | (refine WL.k_call 186 ?_; refine WL.callV (g := 186) Tryz.call186 rfl (fun w s => sum_c _ _ _ l w hl (by omega) (Rd.old hr w s)) rfl ?_) | refine WL.step (Yl.cut3 (t := 23) Tryz.underlying23 Tryz.sizeOf5 rfl rfl rfl (Nat.le_refl _) hc) rfl ?_ | (refine WL.k_bin .shr ?_; refine WL.step (Yl.shrC rfl (by decide)) rfl ?_) | refine WL.step (Yl.convN (s := 199) (t := 5) Tryz.underlying199 Tryz.underlying5 rfl rfl) rfl ?_ | refine WL.step (Yl.len (t := 23) Tryz.underlying23 rfl) rfl ?_ | refine WC.seq ?_ | refine WC.region ?_ | refine WL.nil ?_ | refine WN.then_normal ?_))
  refine WL.lit (t := 23) Tryz.underlying23 elemU8 rfl rfl rfl (by intro u hu; simp only [List.mem_cons, List.not_mem_nil, or_false] at hu; rcases hu with rfl | rfl | rfl | rfl <;> rfl) rfl fun b => ?_
  rw [be4_cells]
  refine WL.appendGrow (t := 23) Tryz.underlying23 elemU8 rfl rfl (by rw [cutA_zero]; exact .old hr) (by rw [bs_length]; omega) (.row (.head _)) rfl (by omega) (by omega) (by simp only [maxLen]; omega) rfl fun p hp => ?_
  (repeat (first | refine WL.step (Yl.assign rfl) rfl ?_ | refine WL.nil ?_ | refine WN.then_normal ?_ | refine WC.ret ?_))
  exact WN.ret1 rfl rfl ⟨p.1, p.2, hp, rfl, by rw [← bs_append]; rfl⟩ (.cons .here .nil)
theorem rseal_c (a : Option Addr) (n cap : Nat) (l : List UInt8) (w : World) (hl : l.length = n) (hn : n ≤ 140737488355324) (hr : CellsAt w a (bs l)) :
    Calls Tryz.prog 197 #[.slice a n cap] w (Gives (NewRow id 5 1 (n + 4) (bs (Crc.sealed l))) w) := by
  have hs := Crc.sum_lt l
  refine enter (args := [_]) Tryz.func197 Tryz.ntmps197 rfl rfl ?_
  (repeat (first | refine WL.step (Yl.move rfl) rfl ?_ | refine WL.step (Yl.assign rfl) rfl ?_ | (refine WL.k_call 202 ?_; refine WL.callV (g := 202) Tryz.call202 rfl (fun w s => rsum_c _ _ _ l w hl (by omega) (Rd.old hr w s)) rfl ?_) | refine WC.seq ?_ | refine WC.region ?_ | refine WL.nil ?_ | refine WN.then_normal ?_))
  refine WL.lit (t := 23) Tryz.underlying23 elemU8 rfl rfl rfl (by simp) rfl fun b => ?_
  (repeat (first | refine WL.step (Yl.move rfl) rfl ?_))
  refine WL.appendRow (t := 23) Tryz.underlying23 elemU8 rfl rfl .here rfl (by omega) (.old hr) (by rw [bs_length]; omega) (bs_one l) (by omega) (by simp only [maxLen]; omega) rfl fun p hp => ?_
  (repeat (first | refine WL.step (Yl.move rfl) rfl ?_ | refine WL.step (Yl.assign rfl) rfl ?_ | (refine WL.k_bin .shr ?_; refine WL.step (Yl.shrC rfl (by decide)) rfl ?_) | refine WL.step (Yl.convN (s := 199) (t := 5) Tryz.underlying199 Tryz.underlying5 rfl rfl) rfl ?_ | refine WC.seq ?_ | refine WC.region ?_ | refine WL.nil ?_ | refine WN.then_normal ?_))
  refine WL.lit (t := 23) Tryz.underlying23 elemU8 rfl rfl rfl (by intro u hu; simp only [List.mem_cons, List.not_mem_nil, or_false] at hu; rcases hu with rfl | rfl | rfl | rfl <;> rfl) rfl fun b2 => ?_
  rw [be4_cells]
  refine WL.appendRow (t := 23) Tryz.underlying23 elemU8 rfl rfl (.there .here) (by simp [flat, bs_length]; omega) hp (.row (.head _)) rfl (bs_one _) (by omega) (by simp only [maxLen]; omega) rfl fun p2 hp2 => ?_
  (repeat (first | refine WL.step (Yl.assign rfl) rfl ?_ | refine WL.nil ?_ | refine WN.then_normal ?_ | refine WC.ret ?_))
  exact WN.ret1 rfl rfl ⟨p2.1, p2.2, by omega, by rw [Nat.zero_add]; rfl, by rw [show flat [] = [] from rfl, List.nil_append, ← bs_append]; rfl⟩ (.cons .here .nil)

def Opened (l : List UInt8) : Value → List HA → Prop := NewRow (fun s => .tuple #[s, .int .i64 ((Crc.opened l).1 : Nat)]) 5 1 (Crc.opened l).2.length (bs (Crc.opened l).2)
theorem unseal_c (a : Option Addr) (n cap : Nat) (l : List UInt8) (w : World) (hl : l.length = n) (hc : n ≤ cap) (hn : n ≤ 140737488355324) (hr : CellsAt w a (bs l)) :
    Calls Tryz.prog 153 #[.slice a n cap] w (Gives (Opened l) w) := by
  refine enter (args := [_]) Tryz.func153 Tryz.ntmps153 rfl rfl ?_
  (repeat (first | refine WL.step (Yl.move rfl) rfl ?_ | refine WL.step (Yl.assign rfl) rfl ?_ | refine WL.step (Yl.len (t := 23) Tryz.underlying23 rfl) rfl ?_ | refine WL.step (Yl.lss rfl rfl) rfl ?_ | refine WC.seq ?_ | refine WC.region ?_ | refine WL.nil ?_ | refine WN.then_normal ?_))
  refine WC.ite rfl (fun h => ?_) (fun h => ?_)
  · have e : Crc.opened l = (13, []) := if_pos (by omega)
    (repeat (first | refine WL.step (Yl.assign rfl) rfl ?_ | refine WC.seq ?_ | refine WC.region ?_ | refine WL.nil ?_ | refine WN.then_normal ?_ | refine WC.ret ?_ | refine WN.then_ret ?_))
    exact WN.ret2 rfl rfl rfl ⟨none, 0, by rw [e]; exact Nat.le_refl _, by rw [e]; rfl, by rw [e]; rfl⟩ (.free .nil)
  · have hf : (l.take (n - 4)).length = n - 4 := by simp [hl]
    have hrd : ∀ {X : Cx} {A : List HA}, X.w0 = w → X.S = [] → Rd X A (cutA a 0 cap 1) (bs (l.take (n - 4))) := fun {X A} h1 h2 => by
      obtain ⟨P, m, w0, S⟩ := X
      cases h1; cases h2
      have := Rd.cut (lo := 0) (cap := cap) (k := 1) (m := n - 4) (Rd.old (P := P) (n := m) (A := A) hr) (by rw [bs_length]; omega)
      rw [bs_take]; simpa using this
    (repeat (first | refine WL.step (Yl.move rfl) rfl ?_ | (refine WL.k_slice ?_; refine WL.step (Yl.cutTo (t := 23) Tryz.underlying23 Tryz.sizeOf5 rfl rfl (by omega)) rfl ?_) | refine WL.step (Yl.len (t := 23) Tryz.underlying23 rfl) rfl ?_ | (refine WL.k_bin .sub ?_; refine WL.step (Yl.sub64C rfl (by omega) (by omega)) rfl ?_) | refine WC.seq ?_ | refine WC.region ?_ | refine WN.then_normal ?_ | refine WC.skip ?_))
    refine WL.callR (g := 185) Tryz.call185 rfl (fun w s => clone_c _ _ _ (l.take (n - 4)) w hf (by omega) (hrd rfl rfl w s)) rfl fun p hp => ?_
    (repeat (first | refine WL.step (Yl.move rfl) rfl ?_ | refine WL.step (Yl.assign rfl) rfl ?_ | refine WC.seq ?_ | refine WC.region ?_ | refine WL.nil ?_ | refine WN.then_normal ?_))
    refine WL.callR (g := 147) Tryz.call147 rfl (fun w s => seal_c _ _ _ (l.take (n - 4)) w hf hp (by omega) (Rd.row (.head _) w s)) rfl fun p2 hp2 => ?_
    (repeat (first | refine WL.step (Yl.move rfl) rfl ?_ | (refine WL.k_call 187 ?_; refine WL.callV (g := 187) Tryz.call187 rfl (fun w s => equal_c _ _ _ _ _ _ (Crc.sealed (l.take (n - 4))) l w (by rw [Crc.sealed_length, hf]) hl (by omega) (Rd.row (.head _) w s) (Rd.old hr w s)) rfl ?_) | refine WL.step (Yl.not rfl) rfl ?_ | refine WL.nil ?_ | refine WN.then_normal ?_))
    by_cases h2 : Crc.sealed (l.take (n - 4)) = l
    · have e : Crc.opened l = (0, l.take (n - 4)) := by unfold Crc.opened; rw [if_neg (by omega), hl, if_pos h2]
      refine WC.cond_false rfl (by rw [decide_eq_true h2]; rfl) ?_
      (repeat (first | refine WL.step (Yl.move rfl) rfl ?_ | refine WL.step (Yl.assign rfl) rfl ?_ | refine WC.seq ?_ | refine WC.region ?_ | refine WL.nil ?_ | refine WN.then_normal ?_ | refine WC.skip ?_ | refine WC.ret ?_))
      exact WN.ret2 rfl rfl rfl ⟨p.1, p.2, by rw [e, hf]; exact hp, by rw [e, hf]; rfl, by rw [e]⟩ (.cons (.there .here) .nil)
    · have e : Crc.opened l = (12, []) := by unfold Crc.opened; rw [if_neg (by omega), hl, if_neg h2]
      refine WC.cond_true rfl (by rw [decide_eq_false h2]; rfl) ?_
      (repeat (first | refine WL.step (Yl.assign rfl) rfl ?_ | refine WC.seq ?_ | refine WC.region ?_ | refine WL.nil ?_ | refine WN.then_normal ?_ | refine WC.ret ?_ | refine WN.then_ret ?_))
      exact WN.ret2 rfl rfl rfl ⟨none, 0, by rw [e]; exact Nat.le_refl _, by rw [e]; rfl, by rw [e]; rfl⟩ (.free .nil)
theorem runseal_c (a : Option Addr) (n cap : Nat) (l : List UInt8) (w : World) (hl : l.length = n) (hc : n ≤ cap) (hn : n ≤ 140737488355324) (hr : CellsAt w a (bs l)) :
    Calls Tryz.prog 167 #[.slice a n cap] w (Gives (Opened l) w) := by
  refine enter (args := [_]) Tryz.func167 Tryz.ntmps167 rfl rfl ?_
  (repeat (first | refine WL.step (Yl.move rfl) rfl ?_ | refine WL.step (Yl.assign rfl) rfl ?_ | refine WL.step (Yl.len (t := 23) Tryz.underlying23 rfl) rfl ?_ | refine WL.step (Yl.lss rfl rfl) rfl ?_ | refine WC.seq ?_ | refine WC.region ?_ | refine WL.nil ?_ | refine WN.then_normal ?_))
  refine WC.ite rfl (fun h => ?_) (fun h => ?_)
  · have e : Crc.opened l = (13, []) := if_pos (by omega)
    (repeat (first | refine WL.step (Yl.assign rfl) rfl ?_ | refine WC.seq ?_ | refine WC.region ?_ | refine WL.nil ?_ | refine WN.then_normal ?_ | refine WC.ret ?_ | refine WN.then_ret ?_))
    exact WN.ret2 rfl rfl rfl ⟨none, 0, by rw [e]; exact Nat.le_refl _, by rw [e]; rfl, by rw [e]; rfl⟩ (.free .nil)
  · have hf : (l.take (n - 4)).length = n - 4 := by simp [hl]
    have hrd : ∀ {X : Cx} {A : List HA}, X.w0 = w → X.S = [] → Rd X A (cutA a 0 cap 1) (bs (l.take (n - 4))) := fun {X A} h1 h2 => by
      obtain ⟨P, m, w0, S⟩ := X
      cases h1; cases h2
      have := Rd.cut (lo := 0) (cap := cap) (k := 1) (m := n - 4) (Rd.old (P := P) (n := m) (A := A) hr) (by rw [bs_length]; omega)
      rw [bs_take]; simpa using this
    (repeat (first | refine WC.seq ?_ | refine WC.region ?_ | refine WN.then_normal ?_ | refine WC.skip ?_))
    refine WL.lit (t := 23) Tryz.underlying23 elemU8 rfl rfl rfl (by simp) rfl fun b => ?_
    (repeat (first | refine WL.step (Yl.move rfl) rfl ?_ | (refine WL.k_slice ?_; refine WL.step (Yl.cutTo (t := 23) Tryz.underlying23 Tryz.sizeOf5 rfl rfl (by omega)) rfl ?_) | refine WL.step (Yl.len (t := 23) Tryz.underlying23 rfl) rfl ?_ | (refine WL.k_bin .sub ?_; refine WL.step (Yl.sub64C rfl (by omega) (by omega)) rfl ?_)))
    refine WL.appendRow (t := 23) Tryz.underlying23 elemU8 rfl rfl .here rfl (by omega) (hrd rfl rfl) (by rw [bs_length, hf]; omega) (bs_one _) (by omega) (by simp only [maxLen]; omega) rfl fun p hp => ?_
    rw [Nat.zero_add, show flat [] = [] from rfl, List.nil_append] at *
    (repeat (first | refine WL.step (Yl.move rfl) rfl ?_ | refine WL.step (Yl.assign rfl) rfl ?_ | refine WC.seq ?_ | refine WC.region ?_ | refine WL.nil ?_ | refine WN.then_normal ?_))
    refine WL.callR (g := 197) Tryz.call197 rfl (fun w s => rseal_c _ _ _ (l.take (n - 4)) w hf (by omega) (Rd.row (.head _) w s)) rfl fun p2 hp2 => ?_
    (repeat (first | refine WL.step (Yl.move rfl) rfl ?_ | (refine WL.k_call 195 ?_; refine WL.callV (g := 195) Tryz.call195 rfl (fun w s => same_c _ _ _ _ _ _ (Crc.sealed (l.take (n - 4))) l w (by rw [Crc.sealed_length, hf]) hl (by omega) (Rd.row (.head _) w s) (Rd.old hr w s)) rfl ?_) | refine WL.step (Yl.not rfl) rfl ?_ | refine WL.nil ?_ | refine WN.then_normal ?_))
    by_cases h2 : Crc.sealed (l.take (n - 4)) = l
    · have e : Crc.opened l = (0, l.take (n - 4)) := by unfold Crc.opened; rw [if_neg (by omega), hl, if_pos h2]
      refine WC.cond_false rfl (by rw [decide_eq_true h2]; rfl) ?_
      (repeat (first | refine WL.step (Yl.move rfl) rfl ?_ | refine WL.step (Yl.assign rfl) rfl ?_ | refine WC.seq ?_ | refine WC.region ?_ | refine WL.nil ?_ | refine WN.then_normal ?_ | refine WC.skip ?_ | refine WC.ret ?_))
      exact WN.ret2 rfl rfl rfl ⟨p.1, p.2, by rw [e, hf]; exact hp, by rw [e, hf]; rfl, by rw [e]⟩ (.cons (.there .here) .nil)
    · have e : Crc.opened l = (12, []) := by unfold Crc.opened; rw [if_neg (by omega), hl, if_neg h2]
      refine WC.cond_true rfl (by rw [decide_eq_false h2]; rfl) ?_
      (repeat (first | refine WL.step (Yl.assign rfl) rfl ?_ | refine WC.seq ?_ | refine WC.region ?_ | refine WL.nil ?_ | refine WN.then_normal ?_ | refine WC.ret ?_ | refine WN.then_ret ?_))
      exact WN.ret2 rfl rfl rfl ⟨none, 0, by rw [e]; exact Nat.le_refl _, by rw [e]; rfl, by rw [e]; rfl⟩ (.free .nil)
end Go.Proofs.YtbkdjfgkebkknaaGreatDoor
namespace Go.Proofs.YtbkdjfgkebkknaaGreatDoor
set_option linter.unusedVariables false
set_option linter.unusedSimpArgs false
open Go Go.RowKit
set_option maxHeartbeats 4000000
attribute [local irreducible] WL WC WN Yl WH WQ WT
def tabCells : List Value := [.int .i64 0, .int .i64 0, .int .i64 0, .int .i64 0, .int .i64 0, .int .i64 5, .int .i64 512, .int .i64 4095, .int .i64 0, .int .i64 4095, .int .i64 1, .int .i64 0, .int .i64 0, .int .i64 1, .int .i64 4096]
def Tab (w : World) : Prop := CellsAt w (some ⟨0, 0, none⟩) tabCells
theorem fl121 : flatT Tryz.prog 121 = true := by kernel_rfl
theorem fl159 : flatT Tryz.prog 159 = true := by kernel_rfl
theorem fl211 : flatT Tryz.prog 211 = true := by kernel_rfl
theorem fl206 : flatT Tryz.prog 206 = true := by kernel_rfl
theorem known_t (x : Int) (w : World) (h : 1 ≤ x ∧ x ≤ 2) : Calls Tryz.prog 151 #[.int .i64 x] w (Gives (Val (.bool true)) w) := by
  refine enter (args := [_]) Tryz.func151 Tryz.ntmps151 rfl rfl ?_
  (repeat (first | refine WL.want rfl rfl rfl ?_ | refine WL.step (Yl.move rfl) rfl ?_ | refine WL.step (Yl.assign rfl) rfl ?_ | refine WL.step (Yl.pick_t rfl rfl rfl) rfl ?_ | refine WL.step (Yl.geqT rfl rfl h.1) rfl ?_ | refine WL.step (Yl.leqT rfl rfl h.2) rfl ?_ | refine WC.seq ?_ | refine WC.region ?_ | refine WL.nil ?_ | refine WN.then_normal ?_ | refine WC.ret ?_))
  exact WN.ret1 rfl rfl ⟨rfl, rfl⟩ .nil
theorem known_f (x : Int) (w : World) (h : ¬ (1 ≤ x ∧ x ≤ 2)) : Calls Tryz.prog 151 #[.int .i64 x] w (Gives (Val (.bool false)) w) := by
  refine enter (args := [_]) Tryz.func151 Tryz.ntmps151 rfl rfl ?_
  by_cases h1 : 1 ≤ x
  · (repeat (first | refine WL.want rfl rfl rfl ?_ | refine WL.step (Yl.move rfl) rfl ?_ | refine WL.step (Yl.assign rfl) rfl ?_ | refine WL.step (Yl.pick_t rfl rfl rfl) rfl ?_ | refine WL.step (Yl.geqT rfl rfl h1) rfl ?_ | (refine WL.k_bin .leq ?_; refine WL.step (Yl.leqF rfl rfl (by omega)) rfl ?_) | refine WC.seq ?_ | refine WC.region ?_ | refine WL.nil ?_ | refine WN.then_normal ?_ | refine WC.ret ?_))
    exact WN.ret1 rfl rfl ⟨rfl, rfl⟩ .nil
  · (repeat (first | refine WL.pass rfl rfl rfl rfl ?_ | refine WL.step (Yl.move rfl) rfl ?_ | refine WL.step (Yl.assign rfl) rfl ?_ | refine WL.step (Yl.pick_f rfl rfl rfl) rfl ?_ | refine WL.step (Yl.geqF rfl rfl h1) rfl ?_ | refine WC.seq ?_ | refine WC.region ?_ | refine WL.nil ?_ | refine WN.then_normal ?_ | refine WC.ret ?_))
    exact WN.ret1 rfl rfl ⟨rfl, rfl⟩ .nil
theorem epoch_t (x : Int) (w : World) (h : Frm.Ep x) : Calls Tryz.prog 178 #[.int .i64 x] w (Gives (Val (.bool true)) w) := by
  refine enter (args := [_]) Tryz.func178 Tryz.ntmps178 rfl rfl ?_
  (repeat (first | refine WL.want rfl rfl rfl ?_ | refine WL.step (Yl.move rfl) rfl ?_ | refine WL.step (Yl.assign rfl) rfl ?_ | refine WL.step (Yl.pick_t rfl rfl rfl) rfl ?_ | refine WL.step (Yl.geqT rfl rfl h.1) rfl ?_ | refine WL.step (Yl.leqT rfl rfl h.2) rfl ?_ | refine WC.seq ?_ | refine WC.region ?_ | refine WL.nil ?_ | refine WN.then_normal ?_ | refine WC.ret ?_))
  exact WN.ret1 rfl rfl ⟨rfl, rfl⟩ .nil
theorem epoch_f (x : Int) (w : World) (h : ¬ Frm.Ep x) : Calls Tryz.prog 178 #[.int .i64 x] w (Gives (Val (.bool false)) w) := by
  refine enter (args := [_]) Tryz.func178 Tryz.ntmps178 rfl rfl ?_
  by_cases h1 : 1 ≤ x
  · (repeat (first | refine WL.want rfl rfl rfl ?_ | refine WL.step (Yl.move rfl) rfl ?_ | refine WL.step (Yl.assign rfl) rfl ?_ | refine WL.step (Yl.pick_t rfl rfl rfl) rfl ?_ | refine WL.step (Yl.geqT rfl rfl h1) rfl ?_ | (refine WL.k_bin .leq ?_; refine WL.step (Yl.leqF rfl rfl (by omega)) rfl ?_) | refine WC.seq ?_ | refine WC.region ?_ | refine WL.nil ?_ | refine WN.then_normal ?_ | refine WC.ret ?_))
    exact WN.ret1 rfl rfl ⟨rfl, rfl⟩ .nil
  · (repeat (first | refine WL.pass rfl rfl rfl rfl ?_ | refine WL.step (Yl.move rfl) rfl ?_ | refine WL.step (Yl.assign rfl) rfl ?_ | refine WL.step (Yl.pick_f rfl rfl rfl) rfl ?_ | refine WL.step (Yl.geqF rfl rfl h1) rfl ?_ | refine WC.seq ?_ | refine WC.region ?_ | refine WL.nil ?_ | refine WN.then_normal ?_ | refine WC.ret ?_))
    exact WN.ret1 rfl rfl ⟨rfl, rfl⟩ .nil
theorem repoch_t (x : Int) (w : World) (h : Frm.Ep x) : Calls Tryz.prog 194 #[.int .i64 x] w (Gives (Val (.bool true)) w) := by
  refine enter (args := [_]) Tryz.func194 Tryz.ntmps194 rfl rfl ?_
  (repeat (first | refine WL.want rfl rfl rfl ?_ | refine WL.step (Yl.move rfl) rfl ?_ | refine WL.step (Yl.assign rfl) rfl ?_ | refine WL.step (Yl.pick_t rfl rfl rfl) rfl ?_ | refine WL.step (Yl.geqT rfl rfl h.1) rfl ?_ | refine WL.step (Yl.leqT rfl rfl h.2) rfl ?_ | refine WC.seq ?_ | refine WC.region ?_ | refine WL.nil ?_ | refine WN.then_normal ?_ | refine WC.ret ?_))
  exact WN.ret1 rfl rfl ⟨rfl, rfl⟩ .nil
theorem repoch_f (x : Int) (w : World) (h : ¬ Frm.Ep x) : Calls Tryz.prog 194 #[.int .i64 x] w (Gives (Val (.bool false)) w) := by
  refine enter (args := [_]) Tryz.func194 Tryz.ntmps194 rfl rfl ?_
  by_cases h1 : 1 ≤ x
  · (repeat (first | refine WL.want rfl rfl rfl ?_ | refine WL.step (Yl.move rfl) rfl ?_ | refine WL.step (Yl.assign rfl) rfl ?_ | refine WL.step (Yl.pick_t rfl rfl rfl) rfl ?_ | refine WL.step (Yl.geqT rfl rfl h1) rfl ?_ | (refine WL.k_bin .leq ?_; refine WL.step (Yl.leqF rfl rfl (by omega)) rfl ?_) | refine WC.seq ?_ | refine WC.region ?_ | refine WL.nil ?_ | refine WN.then_normal ?_ | refine WC.ret ?_))
    exact WN.ret1 rfl rfl ⟨rfl, rfl⟩ .nil
  · (repeat (first | refine WL.pass rfl rfl rfl rfl ?_ | refine WL.step (Yl.move rfl) rfl ?_ | refine WL.step (Yl.assign rfl) rfl ?_ | refine WL.step (Yl.pick_f rfl rfl rfl) rfl ?_ | refine WL.step (Yl.geqF rfl rfl h1) rfl ?_ | refine WC.seq ?_ | refine WC.region ?_ | refine WL.nil ?_ | refine WN.then_normal ?_ | refine WC.ret ?_))
    exact WN.ret1 rfl rfl ⟨rfl, rfl⟩ .nil
theorem within_t (x lo hi : Int) (w : World) (h : lo ≤ x ∧ x ≤ hi) : Calls Tryz.prog 179 #[.int .i64 x, .int .i64 lo, .int .i64 hi] w (Gives (Val (.bool true)) w) := by
  refine enter (args := [_, _, _]) Tryz.func179 Tryz.ntmps179 rfl rfl ?_
  (repeat (first | refine WL.want rfl rfl rfl ?_ | refine WL.step (Yl.move rfl) rfl ?_ | refine WL.step (Yl.assign rfl) rfl ?_ | refine WL.step (Yl.pick_t rfl rfl rfl) rfl ?_ | refine WL.step (Yl.geqT rfl rfl h.1) rfl ?_ | refine WL.step (Yl.leqT rfl rfl h.2) rfl ?_ | refine WC.seq ?_ | refine WC.region ?_ | refine WL.nil ?_ | refine WN.then_normal ?_ | refine WC.ret ?_))
  exact WN.ret1 rfl rfl ⟨rfl, rfl⟩ .nil
theorem within_f (x lo hi : Int) (w : World) (h : ¬ (lo ≤ x ∧ x ≤ hi)) : Calls Tryz.prog 179 #[.int .i64 x, .int .i64 lo, .int .i64 hi] w (Gives (Val (.bool false)) w) := by
  refine enter (args := [_, _, _]) Tryz.func179 Tryz.ntmps179 rfl rfl ?_
  by_cases h1 : lo ≤ x
  · (repeat (first | refine WL.want rfl rfl rfl ?_ | refine WL.step (Yl.move rfl) rfl ?_ | refine WL.step (Yl.assign rfl) rfl ?_ | refine WL.step (Yl.pick_t rfl rfl rfl) rfl ?_ | refine WL.step (Yl.geqT rfl rfl h1) rfl ?_ | (refine WL.k_bin .leq ?_; refine WL.step (Yl.leqF rfl rfl (by omega)) rfl ?_) | refine WC.seq ?_ | refine WC.region ?_ | refine WL.nil ?_ | refine WN.then_normal ?_ | refine WC.ret ?_))
    exact WN.ret1 rfl rfl ⟨rfl, rfl⟩ .nil
  · (repeat (first | refine WL.pass rfl rfl rfl rfl ?_ | refine WL.step (Yl.move rfl) rfl ?_ | refine WL.step (Yl.assign rfl) rfl ?_ | refine WL.step (Yl.pick_f rfl rfl rfl) rfl ?_ | refine WL.step (Yl.geqF rfl rfl h1) rfl ?_ | refine WC.seq ?_ | refine WC.region ?_ | refine WL.nil ?_ | refine WN.then_normal ?_ | refine WC.ret ?_))
    exact WN.ret1 rfl rfl ⟨rfl, rfl⟩ .nil
theorem rsectors_c (x : Int) (w : World) : Calls Tryz.prog 166 #[.int .i64 x] w (Gives (Val (.tuple #[.int .i64 ((Frm.secs x).1 : Int), .int .i64 ((Frm.secs x).2 : Int)])) w) := by
  refine enter (args := [_]) Tryz.func166 Tryz.ntmps166 rfl rfl ?_
  unfold Frm.secs
  by_cases h1 : x = 1
  · subst h1
    (repeat (first | refine WL.step (Yl.move rfl) rfl ?_ | refine WL.step (Yl.assign rfl) rfl ?_ | refine WL.step (Yl.eqlT rfl rfl rfl) rfl ?_ | refine WC.seq ?_ | refine WC.region ?_ | refine WL.nil ?_ | refine WN.then_normal ?_))
    refine WC.cond_true rfl rfl ?_
    (repeat (first | refine WL.step (Yl.assign rfl) rfl ?_ | refine WC.seq ?_ | refine WC.region ?_ | refine WL.nil ?_ | refine WN.then_normal ?_ | refine WC.ret ?_ | refine WN.then_ret ?_))
    exact WN.ret2 rfl rfl rfl ⟨rfl, rfl⟩ .nil
  · rw [if_neg h1]
    (repeat (first | refine WL.step (Yl.move rfl) rfl ?_ | refine WL.step (Yl.assign rfl) rfl ?_ | refine WL.step (Yl.eqlF rfl rfl h1) rfl ?_ | refine WC.seq ?_ | refine WC.region ?_ | refine WL.nil ?_ | refine WN.then_normal ?_))
    refine WC.cond_false rfl rfl ?_
    by_cases h2 : x = 2
    · subst h2
      (repeat (first | refine WL.step (Yl.move rfl) rfl ?_ | refine WL.step (Yl.eqlT rfl rfl rfl) rfl ?_ | refine WC.seq ?_ | refine WC.region ?_ | refine WL.nil ?_ | refine WN.then_normal ?_ | refine WC.skip ?_))
      refine WC.cond_true rfl rfl ?_
      (repeat (first | refine WL.step (Yl.assign rfl) rfl ?_ | refine WC.seq ?_ | refine WC.region ?_ | refine WL.nil ?_ | refine WN.then_normal ?_ | refine WC.ret ?_ | refine WN.then_ret ?_))
      exact WN.ret2 rfl rfl rfl ⟨rfl, rfl⟩ .nil
    · rw [if_neg h2]
      (repeat (first | refine WL.step (Yl.move rfl) rfl ?_ | refine WL.step (Yl.eqlF rfl rfl h2) rfl ?_ | refine WC.seq ?_ | refine WC.region ?_ | refine WL.nil ?_ | refine WN.then_normal ?_ | refine WC.skip ?_))
      refine WC.cond_false rfl rfl ?_
      (repeat (first | refine WL.step (Yl.assign rfl) rfl ?_ | refine WC.seq ?_ | refine WC.region ?_ | refine WL.nil ?_ | refine WN.then_normal ?_ | refine WC.skip ?_ | refine WC.ret ?_))
      exact WN.ret2 rfl rfl rfl ⟨rfl, rfl⟩ .nil
end Go.Proofs.YtbkdjfgkebkknaaGreatDoor
