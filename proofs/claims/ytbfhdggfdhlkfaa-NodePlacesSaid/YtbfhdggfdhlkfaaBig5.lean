/- What the functions of package bigend, and of its reference, compute: the reference's reading of groups; the order of bytes. -/
import Derived.Test.YtbfhdggfdhlkfaaBig4
namespace Go.Proofs.Ytbfhdggfdhlkfaa
set_option linter.unusedVariables false
set_option linter.unusedSimpArgs false
open Go Go.RowKit
set_option maxRecDepth 100000
set_option maxHeartbeats 4000000
attribute [local irreducible] WL WC WN Yl WH WQ WT
theorem umul7 {v : Nat} (c : UInt8) : ((v * 128 % 2 ^ IntKind.u64.bits) + c.toNat % 128) % 2 ^ IntKind.u64.bits = (v * 128 + c.toNat % 128) % 18446744073709551616 := by
  show ((v * 128 % 18446744073709551616) + c.toNat % 128) % 18446744073709551616 = _
  omega
/-! ### The order -/
def cmp3 (x y : Int) : Int := if x < y then -1 else if y < x then 1 else 0
theorem nan_c8_c (x : Int) (w : World) : Calls Try.prog 71 #[.int .u8 x] w (Gives (Val (.bool false)) w) := by
  refine enter (args := [_]) Try.func71 Try.ntmps71 rfl rfl ?_
  (repeat (first | refine WL.step (Yl.move rfl) rfl ?_ | refine WL.step (Yl.assign rfl) rfl ?_ | refine WL.step (Yl.neqF rfl rfl rfl) rfl ?_ | refine WC.seq ?_ | refine WC.region ?_ | refine WL.nil ?_ | refine WN.then_normal ?_ | refine WC.ret ?_))
  exact WN.ret1 rfl rfl ⟨rfl, rfl⟩ .nil
theorem c8_c (x y : Int) (w : World) : Calls Try.prog 70 #[.int .u8 x, .int .u8 y] w (Gives (Val (.int .i64 (cmp3 x y))) w) := by
  refine enter (args := [_, _]) Try.func70 Try.ntmps70 rfl rfl ?_
  (repeat (first | refine WL.step (Yl.move rfl) rfl ?_ | refine WL.step (Yl.assign rfl) rfl ?_ | refine WC.seq ?_ | refine WC.region ?_ | refine WL.nil ?_ | refine WN.then_normal ?_))
  refine WL.callV (g := 71) Try.call71 rfl (fun w _ => nan_c8_c x w) rfl ?_
  (repeat (first | refine WL.step (Yl.move rfl) rfl ?_ | refine WL.step (Yl.assign rfl) rfl ?_ | refine WC.seq ?_ | refine WC.region ?_ | refine WL.nil ?_ | refine WN.then_normal ?_))
  refine WL.callV (g := 71) Try.call71 rfl (fun w _ => nan_c8_c y w) rfl ?_
  (repeat (first | refine WL.step (Yl.move rfl) rfl ?_ | refine WL.step (Yl.assign rfl) rfl ?_ | refine WC.seq ?_ | refine WC.region ?_ | refine WL.nil ?_ | refine WN.then_normal ?_))
  refine WC.cond_false rfl rfl ?_
  (repeat (first | refine WL.step (Yl.move rfl) rfl ?_ | refine WC.seq ?_ | refine WC.region ?_ | refine WL.nil ?_ | refine WN.then_normal ?_ | refine WC.skip ?_))
  refine WC.cond_false rfl rfl ?_
  (repeat (first | refine WL.step (Yl.move rfl) rfl ?_ | refine WL.step (Yl.lss rfl rfl) rfl ?_ | refine WC.seq ?_ | refine WC.region ?_ | refine WL.nil ?_ | refine WN.then_normal ?_ | refine WC.skip ?_))
  refine WC.ite rfl (fun h1 => ?_) (fun h1 => ?_)
  · (repeat (first | refine WL.step (Yl.assign rfl) rfl ?_ | refine WC.seq ?_ | refine WC.region ?_ | refine WL.nil ?_ | refine WN.then_normal ?_ | refine WC.ret ?_ | refine WN.then_ret ?_))
    exact WN.ret1 rfl rfl ⟨by unfold cmp3; rw [if_pos h1], rfl⟩ .nil
  · (repeat (first | refine WL.step (Yl.move rfl) rfl ?_ | refine WL.step (Yl.gtr rfl rfl) rfl ?_ | refine WC.seq ?_ | refine WC.region ?_ | refine WL.nil ?_ | refine WN.then_normal ?_ | refine WC.skip ?_))
    refine WC.ite rfl (fun h2 => ?_) (fun h2 => ?_)
    · (repeat (first | refine WL.step (Yl.assign rfl) rfl ?_ | refine WC.seq ?_ | refine WC.region ?_ | refine WL.nil ?_ | refine WN.then_normal ?_ | refine WC.ret ?_ | refine WN.then_ret ?_))
      exact WN.ret1 rfl rfl ⟨by unfold cmp3; rw [if_neg h1, if_pos h2], rfl⟩ .nil
    · (repeat (first | refine WL.step (Yl.assign rfl) rfl ?_ | refine WC.seq ?_ | refine WC.region ?_ | refine WL.nil ?_ | refine WN.then_normal ?_ | refine WC.skip ?_ | refine WC.ret ?_))
      exact WN.ret1 rfl rfl ⟨by unfold cmp3; rw [if_neg h1, if_neg h2], rfl⟩ .nil
theorem nan_c64_c (x : Int) (w : World) : Calls Try.prog 67 #[.int .u64 x] w (Gives (Val (.bool false)) w) := by
  refine enter (args := [_]) Try.func67 Try.ntmps67 rfl rfl ?_
  (repeat (first | refine WL.step (Yl.move rfl) rfl ?_ | refine WL.step (Yl.assign rfl) rfl ?_ | refine WL.step (Yl.neqF rfl rfl rfl) rfl ?_ | refine WC.seq ?_ | refine WC.region ?_ | refine WL.nil ?_ | refine WN.then_normal ?_ | refine WC.ret ?_))
  exact WN.ret1 rfl rfl ⟨rfl, rfl⟩ .nil
theorem c64_c (x y : Int) (w : World) : Calls Try.prog 51 #[.int .u64 x, .int .u64 y] w (Gives (Val (.int .i64 (cmp3 x y))) w) := by
  refine enter (args := [_, _]) Try.func51 Try.ntmps51 rfl rfl ?_
  (repeat (first | refine WL.step (Yl.move rfl) rfl ?_ | refine WL.step (Yl.assign rfl) rfl ?_ | refine WC.seq ?_ | refine WC.region ?_ | refine WL.nil ?_ | refine WN.then_normal ?_))
  refine WL.callV (g := 67) Try.call67 rfl (fun w _ => nan_c64_c x w) rfl ?_
  (repeat (first | refine WL.step (Yl.move rfl) rfl ?_ | refine WL.step (Yl.assign rfl) rfl ?_ | refine WC.seq ?_ | refine WC.region ?_ | refine WL.nil ?_ | refine WN.then_normal ?_))
  refine WL.callV (g := 67) Try.call67 rfl (fun w _ => nan_c64_c y w) rfl ?_
  (repeat (first | refine WL.step (Yl.move rfl) rfl ?_ | refine WL.step (Yl.assign rfl) rfl ?_ | refine WC.seq ?_ | refine WC.region ?_ | refine WL.nil ?_ | refine WN.then_normal ?_))
  refine WC.cond_false rfl rfl ?_
  (repeat (first | refine WL.step (Yl.move rfl) rfl ?_ | refine WC.seq ?_ | refine WC.region ?_ | refine WL.nil ?_ | refine WN.then_normal ?_ | refine WC.skip ?_))
  refine WC.cond_false rfl rfl ?_
  (repeat (first | refine WL.step (Yl.move rfl) rfl ?_ | refine WL.step (Yl.lss rfl rfl) rfl ?_ | refine WC.seq ?_ | refine WC.region ?_ | refine WL.nil ?_ | refine WN.then_normal ?_ | refine WC.skip ?_))
  refine WC.ite rfl (fun h1 => ?_) (fun h1 => ?_)
  · (repeat (first | refine WL.step (Yl.assign rfl) rfl ?_ | refine WC.seq ?_ | refine WC.region ?_ | refine WL.nil ?_ | refine WN.then_normal ?_ | refine WC.ret ?_ | refine WN.then_ret ?_))
    exact WN.ret1 rfl rfl ⟨by unfold cmp3; rw [if_pos h1], rfl⟩ .nil
  · (repeat (first | refine WL.step (Yl.move rfl) rfl ?_ | refine WL.step (Yl.gtr rfl rfl) rfl ?_ | refine WC.seq ?_ | refine WC.region ?_ | refine WL.nil ?_ | refine WN.then_normal ?_ | refine WC.skip ?_))
    refine WC.ite rfl (fun h2 => ?_) (fun h2 => ?_)
    · (repeat (first | refine WL.step (Yl.assign rfl) rfl ?_ | refine WC.seq ?_ | refine WC.region ?_ | refine WL.nil ?_ | refine WN.then_normal ?_ | refine WC.ret ?_ | refine WN.then_ret ?_))
      exact WN.ret1 rfl rfl ⟨by unfold cmp3; rw [if_neg h1, if_pos h2], rfl⟩ .nil
    · (repeat (first | refine WL.step (Yl.assign rfl) rfl ?_ | refine WC.seq ?_ | refine WC.region ?_ | refine WL.nil ?_ | refine WN.then_normal ?_ | refine WC.skip ?_ | refine WC.ret ?_))
      exact WN.ret1 rfl rfl ⟨by unfold cmp3; rw [if_neg h1, if_neg h2], rfl⟩ .nil
theorem scmp_c (a b : Option Addr) (n m c1 c2 : Nat) (l k : List UInt8) (w : World) (hl : l.length = n) (hk : k.length = m) (hn : n ≤ 140737488355000) (hr : CellsAt w a (bs l)) (hr2 : CellsAt w b (bs k)) :
    Calls Try.prog 68 #[.slice a n c1, .slice b m c2] w (Gives (Val (.int .i64 (Big.cmpL l k))) w) := by
  refine enter (args := [_, _]) Try.func68 Try.ntmps68 rfl rfl ?_
  (repeat (first | refine WL.step (Yl.move rfl) rfl ?_ | refine WL.step (Yl.assign rfl) rfl ?_ | refine WL.step (Yl.len (t := 34) Try.underlying34 rfl) rfl ?_ | refine WC.seq ?_ | refine WC.region ?_ | refine WL.nil ?_ | refine WN.then_normal ?_ | refine WC.block ?_))
  refine WC.loop (α := Nat) (fun i => [(0, .slice a n c1), (1, .slice b m c2), (9, .slice a n c1), (10, .int .i64 (n : Int)), (11, .int .i64 (i : Int))]) (fun _ => []) (fun i => i ≤ n ∧ i ≤ m ∧ Big.cmpL l k = Big.cmpL (l.drop i) (k.drop i)) (fun i => n - i) 0 (by repeat (first | exact Sub.nil | refine Sub.cons rfl rfl ?_)) .nil ⟨by omega, by omega, rfl⟩ ?_
  intro i ⟨hi, him, he⟩
  rw [he]
  (repeat (first | refine WL.step (Yl.lss rfl rfl) rfl ?_ | refine WC.seq ?_ | refine WC.region ?_ | refine WL.nil ?_ | refine WN.then_normal ?_))
  refine WC.ite rfl (fun h1 => ?_) (fun h1 => ?_)
  · have hil : i < l.length := by omega
    have hx := byte_lt (l.getD i 0)
    (repeat (first | refine WL.step (Yl.move rfl) rfl ?_ | refine WL.step (Yl.assign rfl) rfl ?_ | refine WL.step (Yl.load (T := 5) Try.isAgg5 rfl (.old hr) (bs_get hil)) rfl ?_ | (refine WL.k_idxa ?_; refine WL.step (Yl.indexAddr1 (t := 34) Try.underlying34 Try.sizeOf5 rfl rfl (.old hr) (bs_ne hil) (by omega)) rfl ?_) | refine WL.step (Yl.len (t := 34) Try.underlying34 rfl) rfl ?_ | refine WL.step (Yl.geq rfl rfl) rfl ?_ | refine WC.seq ?_ | refine WC.region ?_ | refine WL.nil ?_ | refine WN.then_normal ?_ | refine WC.block ?_ | refine WC.skip ?_))
    refine WC.ite rfl (fun h2 => ?_) (fun h2 => ?_)
    · rw [Big.cmpL_nil_r (by simp; omega) (by simp; omega)]
      (repeat (first | refine WL.step (Yl.assign rfl) rfl ?_ | refine WC.seq ?_ | refine WC.region ?_ | refine WL.nil ?_ | refine WN.then_normal ?_ | refine WC.ret ?_ | refine WN.then_ret ?_ | refine WN.block_ret ?_))
      exact WN.ret1 rfl rfl ⟨rfl, rfl⟩ .nil
    · have hik : i < k.length := by omega
      rw [Big.cmpL_drop l k i hil hik]
      (repeat (first | refine WL.step (Yl.move rfl) rfl ?_ | refine WL.step (Yl.assign rfl) rfl ?_ | refine WL.step (Yl.load (T := 5) Try.isAgg5 rfl (.old hr2) (bs_get hik)) rfl ?_ | (refine WL.k_idxa ?_; refine WL.step (Yl.indexAddr1 (t := 34) Try.underlying34 Try.sizeOf5 rfl rfl (.old hr2) (bs_ne hik) (by omega)) rfl ?_) | refine WC.seq ?_ | refine WC.region ?_ | refine WL.nil ?_ | refine WN.then_normal ?_ | refine WC.skip ?_))
      refine WL.callV (g := 70) Try.call70 rfl (fun w _ => c8_c ((l.getD i 0).toNat : Int) ((k.getD i 0).toNat : Int) w) rfl ?_
      by_cases h3 : (l.getD i 0).toNat < (k.getD i 0).toNat
      · rw [if_pos h3, show cmp3 ((l.getD i 0).toNat : Int) ((k.getD i 0).toNat : Int) = -1 from if_pos (by omega)]
        (repeat (first | refine WL.step (Yl.move rfl) rfl ?_ | refine WL.step (Yl.assign rfl) rfl ?_ | (refine WL.k_bin .neq ?_; refine WL.step (Yl.neqT rfl rfl (by decide)) rfl ?_) | refine WC.seq ?_ | refine WC.region ?_ | refine WL.nil ?_ | refine WN.then_normal ?_))
        refine WC.cond_true rfl rfl ?_
        (repeat (first | refine WL.step (Yl.move rfl) rfl ?_ | refine WL.step (Yl.assign rfl) rfl ?_ | refine WC.seq ?_ | refine WC.region ?_ | refine WL.nil ?_ | refine WN.then_normal ?_ | refine WC.ret ?_ | refine WN.then_ret ?_ | refine WN.block_ret ?_))
        exact WN.ret1 rfl rfl ⟨rfl, rfl⟩ .nil
      · by_cases h4 : (k.getD i 0).toNat < (l.getD i 0).toNat
        · rw [if_neg h3, if_pos h4, show cmp3 ((l.getD i 0).toNat : Int) ((k.getD i 0).toNat : Int) = 1 by unfold cmp3; rw [if_neg (by omega), if_pos (by omega)]]
          (repeat (first | refine WL.step (Yl.move rfl) rfl ?_ | refine WL.step (Yl.assign rfl) rfl ?_ | (refine WL.k_bin .neq ?_; refine WL.step (Yl.neqT rfl rfl (by decide)) rfl ?_) | refine WC.seq ?_ | refine WC.region ?_ | refine WL.nil ?_ | refine WN.then_normal ?_))
          refine WC.cond_true rfl rfl ?_
          (repeat (first | refine WL.step (Yl.move rfl) rfl ?_ | refine WL.step (Yl.assign rfl) rfl ?_ | refine WC.seq ?_ | refine WC.region ?_ | refine WL.nil ?_ | refine WN.then_normal ?_ | refine WC.ret ?_ | refine WN.then_ret ?_ | refine WN.block_ret ?_))
          exact WN.ret1 rfl rfl ⟨rfl, rfl⟩ .nil
        · rw [if_neg h3, if_neg h4, show cmp3 ((l.getD i 0).toNat : Int) ((k.getD i 0).toNat : Int) = 0 by unfold cmp3; rw [if_neg (by omega), if_neg (by omega)]]
          (repeat (first | refine WL.step (Yl.move rfl) rfl ?_ | refine WL.step (Yl.assign rfl) rfl ?_ | (refine WL.k_bin .neq ?_; refine WL.step (Yl.neqF rfl rfl (by decide)) rfl ?_) | refine WC.seq ?_ | refine WC.region ?_ | refine WL.nil ?_ | refine WN.then_normal ?_))
          refine WC.cond_false rfl rfl ?_
          (repeat (first | refine WL.step (Yl.move rfl) rfl ?_ | (refine WL.k_bin .add ?_; refine WL.step (Yl.add64C rfl (by omega)) rfl ?_) | refine WC.region ?_ | refine WL.nil ?_ | refine WN.then_normal ?_ | refine WC.skip ?_ | refine WN.block_normal ?_))
          exact WN.next (i + 1) ⟨by omega, by omega, rfl⟩ (by omega) (by repeat (first | exact Sub.nil | refine Sub.cons rfl rfl ?_)) .nil
  · obtain rfl : i = n := by omega
    (repeat (first | refine WL.step (Yl.move rfl) rfl ?_ | refine WL.step (Yl.len (t := 34) Try.underlying34 rfl) rfl ?_ | refine WL.step (Yl.lss rfl rfl) rfl ?_ | refine WC.seq ?_ | refine WC.region ?_ | refine WL.nil ?_ | refine WN.then_normal ?_ | refine WC.exit ?_ | refine WN.then_exit ?_ | refine WN.block_here ?_))
    refine WC.ite rfl (fun h2 => ?_) (fun h2 => ?_)
    · rw [Big.cmpL_nil_l (by simp; omega) (by simp; omega)]
      (repeat (first | refine WL.step (Yl.assign rfl) rfl ?_ | refine WC.seq ?_ | refine WC.region ?_ | refine WL.nil ?_ | refine WN.then_normal ?_ | refine WC.ret ?_ | refine WN.then_ret ?_))
      exact WN.ret1 rfl rfl ⟨rfl, rfl⟩ .nil
    · rw [Big.cmpL_nil (by simp; omega) (by simp; omega)]
      (repeat (first | refine WL.step (Yl.assign rfl) rfl ?_ | refine WC.seq ?_ | refine WC.region ?_ | refine WL.nil ?_ | refine WN.then_normal ?_ | refine WC.skip ?_ | refine WC.ret ?_))
      exact WN.ret1 rfl rfl ⟨rfl, rfl⟩ .nil
theorem compare_c (a b : Option Addr) (n m c1 c2 : Nat) (l k : List UInt8) (w : World) (hl : l.length = n) (hk : k.length = m) (hn : n ≤ 140737488355000) (hr : CellsAt w a (bs l)) (hr2 : CellsAt w b (bs k)) :
    Calls Try.prog 52 #[.slice a n c1, .slice b m c2] w (Gives (Val (.int .i64 (Big.cmpL l k))) w) := by
  refine enter (args := [_, _]) Try.func52 Try.ntmps52 rfl rfl ?_
  (repeat (first | refine WL.step (Yl.move rfl) rfl ?_ | refine WL.step (Yl.assign rfl) rfl ?_ | (refine WL.k_call 68 ?_; refine WL.callV (g := 68) Try.call68 rfl (fun w s => scmp_c a b n m c1 c2 l k w hl hk hn (Rd.old hr w s) (Rd.old hr2 w s)) rfl ?_) | refine WC.seq ?_ | refine WC.region ?_ | refine WL.nil ?_ | refine WN.then_normal ?_ | refine WC.ret ?_))
  exact WN.ret1 rfl rfl ⟨rfl, rfl⟩ .nil
end Go.Proofs.Ytbfhdggfdhlkfaa
