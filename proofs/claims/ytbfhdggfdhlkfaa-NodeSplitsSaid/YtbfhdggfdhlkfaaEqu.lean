/- Byte strings that are the same, by the library and by the reference. -/
import Derived.Test.YtbfhdggfdhlkfaaByt
import Derived.Test.YtbfhdggfdhlkfaaProg
namespace Go.Proofs.Ytbfhdggfdhlkfaa
set_option linter.unusedVariables false
set_option linter.unusedSimpArgs false
open Go Go.RowKit
set_option maxRecDepth 100000
attribute [local irreducible] WL WC WN Yl
theorem bs_inj {a b : List UInt8} {i : Nat} (h : bv (a.getD i 0) = bv (b.getD i 0)) : a.getD i 0 = b.getD i 0 := by
  have : ((a.getD i 0).toNat : Int) = ((b.getD i 0).toNat : Int) := by injection h
  exact UInt8.toNat.inj (by omega)
theorem same_c (a b : Option Addr) (n m c1 c2 : Nat) (l k : List UInt8) (w : World) (hl : l.length = n) (hk : k.length = m) (hn : n ≤ 9223372036854775807) (hr : CellsAt w a (bs l)) (hr2 : CellsAt w b (bs k)) :
    Calls Try.prog 21 #[.slice a n c1, .slice b m c2] w (Gives (Val (.bool (decide (l = k)))) w) := by
  refine enter (args := [_, _]) Try.func21 Try.ntmps21 rfl rfl ?_
  (repeat (first | refine WL.step (Yl.move rfl) rfl ?_ | refine WL.step (Yl.assign rfl) rfl ?_ | refine WL.step (Yl.len (t := 34) Try.underlying34 rfl) rfl ?_ | refine WL.step (Yl.neq rfl rfl) rfl ?_ | refine WC.seq ?_ | refine WC.region ?_ | refine WL.nil ?_ | refine WN.then_normal ?_))
  refine WC.ite rfl (fun h => ?_) (fun h => ?_)
  · (repeat (first | refine WL.step (Yl.assign rfl) rfl ?_ | refine WC.seq ?_ | refine WC.region ?_ | refine WL.nil ?_ | refine WN.then_normal ?_ | refine WC.ret ?_ | refine WN.then_ret ?_))
    exact WN.ret1 rfl rfl ⟨by rw [decide_eq_false (fun e => h (by rw [← hl, ← hk, e]))], rfl⟩ .nil
  · (repeat (first | refine WL.step (Yl.assign rfl) rfl ?_ | refine WC.seq ?_ | refine WC.region ?_ | refine WL.nil ?_ | refine WN.then_normal ?_ | refine WC.block ?_ | refine WC.skip ?_))
    refine WC.loop (α := Nat) (fun i => [(0, .slice a n c1), (1, .slice b m c2), (5, .int .i64 (i : Int))]) (fun _ => []) (fun i => i ≤ n ∧ l.take i = k.take i) (fun i => n - i) 0 (by repeat (first | exact Sub.nil | refine Sub.cons rfl rfl ?_)) .nil ⟨by omega, rfl⟩ ?_
    intro i hi
    obtain ⟨hi, he⟩ := hi
    (repeat (first | refine WL.step (Yl.move rfl) rfl ?_ | refine WL.step (Yl.len (t := 34) Try.underlying34 rfl) rfl ?_ | refine WL.step (Yl.lss rfl rfl) rfl ?_ | refine WC.seq ?_ | refine WC.region ?_ | refine WL.nil ?_ | refine WN.then_normal ?_))
    refine WC.ite rfl (fun h2 => ?_) (fun h2 => ?_)
    · have h3 : i < l.length := by omega
      have h4 : i < k.length := by omega
      (repeat (first | refine WC.seq ?_ | refine WN.then_normal ?_ | refine WC.block ?_ | refine WC.skip ?_))
      refine WC.regionQ (by kernel_rfl) (by kernel_rfl) ?_
      (repeat (first | refine WQ.step (Yl.indexAddr1 (t := 34) Try.underlying34 Try.sizeOf5 rfl rfl (.old hr) (bs_ne h3) (by omega)) rfl ?_ | refine WQ.step (Yl.load (T := 5) Try.isAgg5 rfl (.old hr) (bs_get h3)) rfl ?_ | refine WQ.step (Yl.indexAddr1 (t := 34) Try.underlying34 Try.sizeOf5 rfl rfl (.old hr2) (bs_ne h4) (by omega)) rfl ?_ | refine WQ.step (Yl.load (T := 5) Try.isAgg5 rfl (.old hr2) (bs_get h4)) rfl ?_ | refine WQ.step (Yl.move rfl) rfl ?_ | refine WQ.step (Yl.neq rfl rfl) rfl ?_ | refine WQ.nil ?_))
      (repeat (first | refine WN.then_normal ?_))
      refine WC.ite rfl (fun h5 => ?_) (fun h5 => ?_)
      · (repeat (first | refine WL.step (Yl.assign rfl) rfl ?_ | refine WC.seq ?_ | refine WC.region ?_ | refine WL.nil ?_ | refine WN.then_normal ?_ | refine WC.ret ?_ | refine WN.then_ret ?_ | refine WN.block_ret ?_))
        refine WN.ret1 rfl rfl ⟨?_, rfl⟩ .nil
        rw [decide_eq_false]
        intro e; subst e; exact h5 rfl
      · (repeat (first | refine WL.step (Yl.move rfl) rfl ?_ | refine WL.step (Yl.assign rfl) rfl ?_ | (refine WL.k_bin .add ?_; refine WL.step (Yl.add64C rfl (by omega)) rfl ?_) | refine WC.region ?_ | refine WL.nil ?_ | refine WN.then_normal ?_ | refine WC.skip ?_ | refine WN.block_normal ?_))
        refine WN.next (i + 1) ⟨by omega, ?_⟩ (by omega) (by repeat (first | exact Sub.nil | refine Sub.cons rfl rfl ?_)) .nil
        rw [take_snoc l 0 h3, take_snoc k 0 h4, he, UInt8.toNat.inj (show (l.getD i 0).toNat = (k.getD i 0).toNat by omega)]
    · obtain rfl : i = n := by omega
      (repeat (first | refine WL.step (Yl.assign rfl) rfl ?_ | refine WC.seq ?_ | refine WC.region ?_ | refine WL.nil ?_ | refine WN.then_normal ?_ | refine WC.exit ?_ | refine WC.ret ?_ | refine WN.then_exit ?_ | refine WN.block_here ?_))
      refine WN.ret1 rfl rfl ⟨?_, rfl⟩ .nil
      rw [List.take_of_length_le (by omega), List.take_of_length_le (by omega)] at he
      rw [decide_eq_true he]

theorem equal_c (a b : Option Addr) (n m c1 c2 : Nat) (l k : List UInt8) (w : World) (hl : l.length = n) (hk : k.length = m) (hn : n ≤ 9223372036854775807) (hr : CellsAt w a (bs l)) (hr2 : CellsAt w b (bs k)) :
    Calls Try.prog 46 #[.slice a n c1, .slice b m c2] w (Gives (Val (.bool (decide (l = k)))) w) := by
  refine enter (args := [_, _]) Try.func46 Try.ntmps46 rfl rfl ?_
  (repeat (first | refine WL.step (Yl.move rfl) rfl ?_ | refine WL.step (Yl.assign rfl) rfl ?_ | refine WL.step (Yl.len (t := 34) Try.underlying34 rfl) rfl ?_ | refine WL.step (Yl.neq rfl rfl) rfl ?_ | refine WC.seq ?_ | refine WC.region ?_ | refine WL.nil ?_ | refine WN.then_normal ?_))
  refine WC.ite rfl (fun h => ?_) (fun h => ?_)
  · (repeat (first | refine WL.step (Yl.assign rfl) rfl ?_ | refine WC.seq ?_ | refine WC.region ?_ | refine WL.nil ?_ | refine WN.then_normal ?_ | refine WC.ret ?_ | refine WN.then_ret ?_))
    exact WN.ret1 rfl rfl ⟨by rw [decide_eq_false (fun e => h (by rw [← hl, ← hk, e]))], rfl⟩ .nil
  · (repeat (first | refine WL.step (Yl.move rfl) rfl ?_ | refine WL.step (Yl.len (t := 34) Try.underlying34 rfl) rfl ?_ | refine WC.seq ?_ | refine WC.region ?_ | refine WL.nil ?_ | refine WN.then_normal ?_ | refine WC.block ?_ | refine WC.skip ?_))
    refine WC.loop (α := Nat) (fun i => [(0, .slice a n c1), (1, .slice b m c2), (12, .int .i64 (n : Int)), (13, .int .i64 (i : Int))]) (fun _ => []) (fun i => i ≤ n ∧ l.take i = k.take i) (fun i => n - i) 0 (by repeat (first | exact Sub.nil | refine Sub.cons rfl rfl ?_)) .nil ⟨by omega, rfl⟩ ?_
    intro i hi
    obtain ⟨hi, he⟩ := hi
    (repeat (first | refine WL.step (Yl.lss rfl rfl) rfl ?_ | refine WC.seq ?_ | refine WC.region ?_ | refine WL.nil ?_ | refine WN.then_normal ?_))
    refine WC.ite rfl (fun h2 => ?_) (fun h2 => ?_)
    · have h3 : i < l.length := by omega
      have h4 : i < k.length := by omega
      (repeat (first | refine WL.step (Yl.move rfl) rfl ?_ | refine WL.step (Yl.assign rfl) rfl ?_ | refine WC.seq ?_ | refine WC.region ?_ | refine WL.nil ?_ | refine WN.then_normal ?_ | refine WC.block ?_ | refine WC.skip ?_))
      refine WC.regionQ (by kernel_rfl) (by kernel_rfl) ?_
      (repeat (first | refine WQ.step (Yl.indexAddr1 (t := 34) Try.underlying34 Try.sizeOf5 rfl rfl (.old hr) (bs_ne h3) (by omega)) rfl ?_ | refine WQ.step (Yl.load (T := 5) Try.isAgg5 rfl (.old hr) (bs_get h3)) rfl ?_ | refine WQ.step (Yl.indexAddr1 (t := 34) Try.underlying34 Try.sizeOf5 rfl rfl (.old hr2) (bs_ne h4) (by omega)) rfl ?_ | refine WQ.step (Yl.load (T := 5) Try.isAgg5 rfl (.old hr2) (bs_get h4)) rfl ?_ | refine WQ.step (Yl.move rfl) rfl ?_ | refine WQ.step (Yl.neq rfl rfl) rfl ?_ | refine WQ.nil ?_))
      (repeat (first | refine WN.then_normal ?_))
      refine WC.ite rfl (fun h5 => ?_) (fun h5 => ?_)
      · (repeat (first | refine WL.step (Yl.assign rfl) rfl ?_ | refine WC.seq ?_ | refine WC.region ?_ | refine WL.nil ?_ | refine WN.then_normal ?_ | refine WC.ret ?_ | refine WN.then_ret ?_ | refine WN.block_ret ?_))
        refine WN.ret1 rfl rfl ⟨?_, rfl⟩ .nil
        rw [decide_eq_false]
        intro e; subst e; exact h5 rfl
      · (repeat (first | refine WL.step (Yl.move rfl) rfl ?_ | (refine WL.k_bin .add ?_; refine WL.step (Yl.add64C rfl (by omega)) rfl ?_) | refine WC.region ?_ | refine WL.nil ?_ | refine WN.then_normal ?_ | refine WC.skip ?_ | refine WN.block_normal ?_))
        refine WN.next (i + 1) ⟨by omega, ?_⟩ (by omega) (by repeat (first | exact Sub.nil | refine Sub.cons rfl rfl ?_)) .nil
        rw [take_snoc l 0 h3, take_snoc k 0 h4, he, UInt8.toNat.inj (show (l.getD i 0).toNat = (k.getD i 0).toNat by omega)]
    · obtain rfl : i = n := by omega
      (repeat (first | refine WL.step (Yl.assign rfl) rfl ?_ | refine WC.seq ?_ | refine WC.region ?_ | refine WL.nil ?_ | refine WN.then_normal ?_ | refine WC.exit ?_ | refine WC.ret ?_ | refine WN.then_exit ?_ | refine WN.block_here ?_))
      refine WN.ret1 rfl rfl ⟨?_, rfl⟩ .nil
      rw [List.take_of_length_le (by omega), List.take_of_length_le (by omega)] at he
      rw [decide_eq_true he]

end Go.Proofs.Ytbfhdggfdhlkfaa
