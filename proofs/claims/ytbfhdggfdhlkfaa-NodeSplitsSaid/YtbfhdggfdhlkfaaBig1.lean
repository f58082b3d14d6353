/- What the functions of package bigend, and of its reference, compute: integers in a fixed number of bytes. -/
import Derived.Test.YtbfhdggfdhlkfaaByt
import Derived.Test.YtbfhdggfdhlkfaaBigLaw
namespace Go.Proofs.Ytbfhdggfdhlkfaa
set_option linter.unusedVariables false
set_option linter.unusedSimpArgs false
open Go Go.RowKit
set_option maxRecDepth 100000
set_option maxHeartbeats 4000000
attribute [local irreducible] WL WC WN Yl WH WQ WT
theorem len64_c (x : Nat) (w : World) (hx : x < 18446744073709551616) : Calls Try.prog 56 #[.int .u64 (x : Int)] w (Gives (Val (.int .i64 ((Big.len x : Nat) : Int))) w) := by
  refine enter (args := [_]) Try.func56 Try.ntmps56 rfl rfl ?_
  (repeat (first | refine WL.step (Yl.move rfl) rfl ?_ | refine WL.step (Yl.assign rfl) rfl ?_ | refine WL.step (Yl.geq rfl rfl) rfl ?_ | refine WC.seq ?_ | refine WC.region ?_ | refine WL.nil ?_ | refine WN.then_normal ?_))
  refine WC.ite rfl (fun h1 => ?_) (fun h1 => ?_)
  · have s1 := Big.len_shift (n := x) (k := 32) (by omega)
    have e1 : x >>> 32 = x / 2 ^ 32 := Nat.shiftRight_eq_div_pow x 32
    (repeat (first | refine WL.step (Yl.move rfl) rfl ?_ | refine WL.step (Yl.assign rfl) rfl ?_ | (refine WL.k_bin .shr ?_; refine WL.step (Yl.shrC rfl (by decide)) rfl ?_) | refine WL.step (Yl.geq rfl rfl) rfl ?_ | refine WC.seq ?_ | refine WC.region ?_ | refine WL.nil ?_ | refine WN.then_normal ?_))
    rw [e1]
    generalize hy1 : x / 2 ^ 32 = xa at *
    have hz1 : xa < 4294967296 := by rw [← hy1]; omega
    refine WC.ite rfl (fun h2 => ?_) (fun h2 => ?_)
    · have s2 := Big.len_shift (n := xa) (k := 16) (by omega)
      have e2 : xa >>> 16 = xa / 2 ^ 16 := Nat.shiftRight_eq_div_pow xa 16
      (repeat (first | refine WL.step (Yl.move rfl) rfl ?_ | refine WL.step (Yl.assign rfl) rfl ?_ | (refine WL.k_bin .shr ?_; refine WL.step (Yl.shrC rfl (by decide)) rfl ?_) | refine WL.step (Yl.geq rfl rfl) rfl ?_ | (refine WL.k_bin .add ?_; refine WL.step (Yl.add64 rfl rfl (by omega)) rfl ?_) | refine WC.seq ?_ | refine WC.region ?_ | refine WL.nil ?_ | refine WN.then_normal ?_))
      rw [e2]
      generalize hy2 : xa / 2 ^ 16 = xab at *
      have hz2 : xab < 65536 := by rw [← hy2]; omega
      refine WC.ite rfl (fun h3 => ?_) (fun h3 => ?_)
      · have s3 := Big.len_shift (n := xab) (k := 8) (by omega)
        have e3 : xab >>> 8 = xab / 2 ^ 8 := Nat.shiftRight_eq_div_pow xab 8
        (repeat (first | refine WL.step (Yl.move rfl) rfl ?_ | refine WL.step (Yl.assign rfl) rfl ?_ | (refine WL.k_bin .shr ?_; refine WL.step (Yl.shrC rfl (by decide)) rfl ?_) | (refine WL.k_bin .add ?_; refine WL.step (Yl.add64 rfl rfl (by omega)) rfl ?_) | refine WC.seq ?_ | refine WC.region ?_ | refine WL.nil ?_ | refine WN.then_normal ?_))
        rw [e3]
        generalize hy3 : xab / 2 ^ 8 = xabc at *
        have hz3 : xabc < 256 := by rw [← hy3]; omega
        have l8 : Big.len xabc ≤ 8 := Big.len_le.2 (by omega)
        (repeat (first | refine WL.step (Yl.assign rfl) rfl ?_ | (refine WL.k_conv ?_; first | refine WL.step (Yl.convLt (s := 39) (t := 5) Try.underlying39 Try.underlying5 rfl rfl (by show _ < 256; omega)) rfl ?_ | refine WL.step (Yl.conv64 (s := 5) (t := 3) Try.underlying5 Try.underlying3 rfl (by omega)) rfl ?_) | (refine WL.k_index ?_; refine WL.step (Yl.indexStrF (f := Big.len) (b := 256) Try.underlying9 rfl rfl (by decide +kernel) (by omega)) rfl ?_) | (refine WL.k_bin .add ?_; refine WL.step (Yl.add64 rfl rfl (by omega)) rfl ?_) | refine WL.nil ?_ | refine WN.then_normal ?_ | refine WC.ret ?_))
        exact WN.ret1 rfl rfl ⟨congrArg (Value.int .i64) (by omega), rfl⟩ .nil
      · (repeat (first | refine WL.step (Yl.move rfl) rfl ?_ | refine WC.seq ?_ | refine WC.region ?_ | refine WN.then_normal ?_ | refine WC.skip ?_))
        have l8 : Big.len xab ≤ 8 := Big.len_le.2 (by omega)
        (repeat (first | refine WL.step (Yl.assign rfl) rfl ?_ | (refine WL.k_conv ?_; first | refine WL.step (Yl.convLt (s := 39) (t := 5) Try.underlying39 Try.underlying5 rfl rfl (by show _ < 256; omega)) rfl ?_ | refine WL.step (Yl.conv64 (s := 5) (t := 3) Try.underlying5 Try.underlying3 rfl (by omega)) rfl ?_) | (refine WL.k_index ?_; refine WL.step (Yl.indexStrF (f := Big.len) (b := 256) Try.underlying9 rfl rfl (by decide +kernel) (by omega)) rfl ?_) | (refine WL.k_bin .add ?_; refine WL.step (Yl.add64 rfl rfl (by omega)) rfl ?_) | refine WL.nil ?_ | refine WN.then_normal ?_ | refine WC.ret ?_))
        exact WN.ret1 rfl rfl ⟨congrArg (Value.int .i64) (by omega), rfl⟩ .nil
    · (repeat (first | refine WL.step (Yl.move rfl) rfl ?_ | refine WL.step (Yl.geq rfl rfl) rfl ?_ | refine WC.seq ?_ | refine WC.region ?_ | refine WL.nil ?_ | refine WN.then_normal ?_ | refine WC.skip ?_))
      refine WC.ite rfl (fun h3 => ?_) (fun h3 => ?_)
      · have s3 := Big.len_shift (n := xa) (k := 8) (by omega)
        have e3 : xa >>> 8 = xa / 2 ^ 8 := Nat.shiftRight_eq_div_pow xa 8
        (repeat (first | refine WL.step (Yl.move rfl) rfl ?_ | refine WL.step (Yl.assign rfl) rfl ?_ | (refine WL.k_bin .shr ?_; refine WL.step (Yl.shrC rfl (by decide)) rfl ?_) | (refine WL.k_bin .add ?_; refine WL.step (Yl.add64 rfl rfl (by omega)) rfl ?_) | refine WC.seq ?_ | refine WC.region ?_ | refine WL.nil ?_ | refine WN.then_normal ?_))
        rw [e3]
        generalize hy3 : xa / 2 ^ 8 = xac at *
        have hz3 : xac < 256 := by rw [← hy3]; omega
        have l8 : Big.len xac ≤ 8 := Big.len_le.2 (by omega)
        (repeat (first | refine WL.step (Yl.assign rfl) rfl ?_ | (refine WL.k_conv ?_; first | refine WL.step (Yl.convLt (s := 39) (t := 5) Try.underlying39 Try.underlying5 rfl rfl (by show _ < 256; omega)) rfl ?_ | refine WL.step (Yl.conv64 (s := 5) (t := 3) Try.underlying5 Try.underlying3 rfl (by omega)) rfl ?_) | (refine WL.k_index ?_; refine WL.step (Yl.indexStrF (f := Big.len) (b := 256) Try.underlying9 rfl rfl (by decide +kernel) (by omega)) rfl ?_) | (refine WL.k_bin .add ?_; refine WL.step (Yl.add64 rfl rfl (by omega)) rfl ?_) | refine WL.nil ?_ | refine WN.then_normal ?_ | refine WC.ret ?_))
        exact WN.ret1 rfl rfl ⟨congrArg (Value.int .i64) (by omega), rfl⟩ .nil
      · (repeat (first | refine WL.step (Yl.move rfl) rfl ?_ | refine WC.seq ?_ | refine WC.region ?_ | refine WN.then_normal ?_ | refine WC.skip ?_))
        have l8 : Big.len xa ≤ 8 := Big.len_le.2 (by omega)
        (repeat (first | refine WL.step (Yl.assign rfl) rfl ?_ | (refine WL.k_conv ?_; first | refine WL.step (Yl.convLt (s := 39) (t := 5) Try.underlying39 Try.underlying5 rfl rfl (by show _ < 256; omega)) rfl ?_ | refine WL.step (Yl.conv64 (s := 5) (t := 3) Try.underlying5 Try.underlying3 rfl (by omega)) rfl ?_) | (refine WL.k_index ?_; refine WL.step (Yl.indexStrF (f := Big.len) (b := 256) Try.underlying9 rfl rfl (by decide +kernel) (by omega)) rfl ?_) | (refine WL.k_bin .add ?_; refine WL.step (Yl.add64 rfl rfl (by omega)) rfl ?_) | refine WL.nil ?_ | refine WN.then_normal ?_ | refine WC.ret ?_))
        exact WN.ret1 rfl rfl ⟨congrArg (Value.int .i64) (by omega), rfl⟩ .nil
  · (repeat (first | refine WL.step (Yl.move rfl) rfl ?_ | refine WL.step (Yl.geq rfl rfl) rfl ?_ | refine WC.seq ?_ | refine WC.region ?_ | refine WL.nil ?_ | refine WN.then_normal ?_ | refine WC.skip ?_))
    refine WC.ite rfl (fun h2 => ?_) (fun h2 => ?_)
    · have s2 := Big.len_shift (n := x) (k := 16) (by omega)
      have e2 : x >>> 16 = x / 2 ^ 16 := Nat.shiftRight_eq_div_pow x 16
      (repeat (first | refine WL.step (Yl.move rfl) rfl ?_ | refine WL.step (Yl.assign rfl) rfl ?_ | (refine WL.k_bin .shr ?_; refine WL.step (Yl.shrC rfl (by decide)) rfl ?_) | refine WL.step (Yl.geq rfl rfl) rfl ?_ | (refine WL.k_bin .add ?_; refine WL.step (Yl.add64 rfl rfl (by omega)) rfl ?_) | refine WC.seq ?_ | refine WC.region ?_ | refine WL.nil ?_ | refine WN.then_normal ?_))
      rw [e2]
      generalize hy2 : x / 2 ^ 16 = xb at *
      have hz2 : xb < 65536 := by rw [← hy2]; omega
      refine WC.ite rfl (fun h3 => ?_) (fun h3 => ?_)
      · have s3 := Big.len_shift (n := xb) (k := 8) (by omega)
        have e3 : xb >>> 8 = xb / 2 ^ 8 := Nat.shiftRight_eq_div_pow xb 8
        (repeat (first | refine WL.step (Yl.move rfl) rfl ?_ | refine WL.step (Yl.assign rfl) rfl ?_ | (refine WL.k_bin .shr ?_; refine WL.step (Yl.shrC rfl (by decide)) rfl ?_) | (refine WL.k_bin .add ?_; refine WL.step (Yl.add64 rfl rfl (by omega)) rfl ?_) | refine WC.seq ?_ | refine WC.region ?_ | refine WL.nil ?_ | refine WN.then_normal ?_))
        rw [e3]
        generalize hy3 : xb / 2 ^ 8 = xbc at *
        have hz3 : xbc < 256 := by rw [← hy3]; omega
        have l8 : Big.len xbc ≤ 8 := Big.len_le.2 (by omega)
        (repeat (first | refine WL.step (Yl.assign rfl) rfl ?_ | (refine WL.k_conv ?_; first | refine WL.step (Yl.convLt (s := 39) (t := 5) Try.underlying39 Try.underlying5 rfl rfl (by show _ < 256; omega)) rfl ?_ | refine WL.step (Yl.conv64 (s := 5) (t := 3) Try.underlying5 Try.underlying3 rfl (by omega)) rfl ?_) | (refine WL.k_index ?_; refine WL.step (Yl.indexStrF (f := Big.len) (b := 256) Try.underlying9 rfl rfl (by decide +kernel) (by omega)) rfl ?_) | (refine WL.k_bin .add ?_; refine WL.step (Yl.add64 rfl rfl (by omega)) rfl ?_) | refine WL.nil ?_ | refine WN.then_normal ?_ | refine WC.ret ?_))
        exact WN.ret1 rfl rfl ⟨congrArg (Value.int .i64) (by omega), rfl⟩ .nil
      · (repeat (first | refine WL.step (Yl.move rfl) rfl ?_ | refine WC.seq ?_ | refine WC.region ?_ | refine WN.then_normal ?_ | refine WC.skip ?_))
        have l8 : Big.len xb ≤ 8 := Big.len_le.2 (by omega)
        (repeat (first | refine WL.step (Yl.assign rfl) rfl ?_ | (refine WL.k_conv ?_; first | refine WL.step (Yl.convLt (s := 39) (t := 5) Try.underlying39 Try.underlying5 rfl rfl (by show _ < 256; omega)) rfl ?_ | refine WL.step (Yl.conv64 (s := 5) (t := 3) Try.underlying5 Try.underlying3 rfl (by omega)) rfl ?_) | (refine WL.k_index ?_; refine WL.step (Yl.indexStrF (f := Big.len) (b := 256) Try.underlying9 rfl rfl (by decide +kernel) (by omega)) rfl ?_) | (refine WL.k_bin .add ?_; refine WL.step (Yl.add64 rfl rfl (by omega)) rfl ?_) | refine WL.nil ?_ | refine WN.then_normal ?_ | refine WC.ret ?_))
        exact WN.ret1 rfl rfl ⟨congrArg (Value.int .i64) (by omega), rfl⟩ .nil
    · (repeat (first | refine WL.step (Yl.move rfl) rfl ?_ | refine WL.step (Yl.geq rfl rfl) rfl ?_ | refine WC.seq ?_ | refine WC.region ?_ | refine WL.nil ?_ | refine WN.then_normal ?_ | refine WC.skip ?_))
      refine WC.ite rfl (fun h3 => ?_) (fun h3 => ?_)
      · have s3 := Big.len_shift (n := x) (k := 8) (by omega)
        have e3 : x >>> 8 = x / 2 ^ 8 := Nat.shiftRight_eq_div_pow x 8
        (repeat (first | refine WL.step (Yl.move rfl) rfl ?_ | refine WL.step (Yl.assign rfl) rfl ?_ | (refine WL.k_bin .shr ?_; refine WL.step (Yl.shrC rfl (by decide)) rfl ?_) | (refine WL.k_bin .add ?_; refine WL.step (Yl.add64 rfl rfl (by omega)) rfl ?_) | refine WC.seq ?_ | refine WC.region ?_ | refine WL.nil ?_ | refine WN.then_normal ?_))
        rw [e3]
        generalize hy3 : x / 2 ^ 8 = xc at *
        have hz3 : xc < 256 := by rw [← hy3]; omega
        have l8 : Big.len xc ≤ 8 := Big.len_le.2 (by omega)
        (repeat (first | refine WL.step (Yl.assign rfl) rfl ?_ | (refine WL.k_conv ?_; first | refine WL.step (Yl.convLt (s := 39) (t := 5) Try.underlying39 Try.underlying5 rfl rfl (by show _ < 256; omega)) rfl ?_ | refine WL.step (Yl.conv64 (s := 5) (t := 3) Try.underlying5 Try.underlying3 rfl (by omega)) rfl ?_) | (refine WL.k_index ?_; refine WL.step (Yl.indexStrF (f := Big.len) (b := 256) Try.underlying9 rfl rfl (by decide +kernel) (by omega)) rfl ?_) | (refine WL.k_bin .add ?_; refine WL.step (Yl.add64 rfl rfl (by omega)) rfl ?_) | refine WL.nil ?_ | refine WN.then_normal ?_ | refine WC.ret ?_))
        exact WN.ret1 rfl rfl ⟨congrArg (Value.int .i64) (by omega), rfl⟩ .nil
      · (repeat (first | refine WL.step (Yl.move rfl) rfl ?_ | refine WC.seq ?_ | refine WC.region ?_ | refine WN.then_normal ?_ | refine WC.skip ?_))
        have l8 : Big.len x ≤ 8 := Big.len_le.2 (by omega)
        (repeat (first | refine WL.step (Yl.assign rfl) rfl ?_ | (refine WL.k_conv ?_; first | refine WL.step (Yl.convLt (s := 39) (t := 5) Try.underlying39 Try.underlying5 rfl rfl (by show _ < 256; omega)) rfl ?_ | refine WL.step (Yl.conv64 (s := 5) (t := 3) Try.underlying5 Try.underlying3 rfl (by omega)) rfl ?_) | (refine WL.k_index ?_; refine WL.step (Yl.indexStrF (f := Big.len) (b := 256) Try.underlying9 rfl rfl (by decide +kernel) (by omega)) rfl ?_) | (refine WL.k_bin .add ?_; refine WL.step (Yl.add64 rfl rfl (by omega)) rfl ?_) | refine WL.nil ?_ | refine WN.then_normal ?_ | refine WC.ret ?_))
        exact WN.ret1 rfl rfl ⟨congrArg (Value.int .i64) (by omega), rfl⟩ .nil
/-- What 'valid' says. -/
theorem valid_c (x : Int) (w : World) : Calls Try.prog 55 #[.int .i64 x] w (Gives (Val (.bool (decide (¬ (x < 1 ∨ 8 < x))))) w) := by
  refine enter (args := [_]) Try.func55 Try.ntmps55 rfl rfl ?_
  by_cases h1 : x < 1
  · (repeat (first | refine WL.pass rfl rfl rfl rfl ?_ | refine WL.step (Yl.move rfl) rfl ?_ | refine WL.step (Yl.assign rfl) rfl ?_ | refine WL.step (Yl.pick_f rfl rfl rfl) rfl ?_ | (refine WL.k_bin .geq ?_; refine WL.step (Yl.geqF rfl rfl (by omega)) rfl ?_) | refine WC.seq ?_ | refine WC.region ?_ | refine WL.nil ?_ | refine WN.then_normal ?_ | refine WC.ret ?_))
    exact WN.ret1 rfl rfl ⟨by rw [decide_eq_false (by omega)], rfl⟩ .nil
  · by_cases h2 : 8 < x
    · (repeat (first | refine WL.want rfl rfl rfl ?_ | refine WL.step (Yl.move rfl) rfl ?_ | refine WL.step (Yl.assign rfl) rfl ?_ | refine WL.step (Yl.pick_t rfl rfl rfl) rfl ?_ | (refine WL.k_bin .geq ?_; refine WL.step (Yl.geqT rfl rfl (by omega)) rfl ?_) | (refine WL.k_bin .leq ?_; refine WL.step (Yl.leqF rfl rfl (by omega)) rfl ?_) | refine WC.seq ?_ | refine WC.region ?_ | refine WL.nil ?_ | refine WN.then_normal ?_ | refine WC.ret ?_))
      exact WN.ret1 rfl rfl ⟨by rw [decide_eq_false (by omega)], rfl⟩ .nil
    · (repeat (first | refine WL.want rfl rfl rfl ?_ | refine WL.step (Yl.move rfl) rfl ?_ | refine WL.step (Yl.assign rfl) rfl ?_ | refine WL.step (Yl.pick_t rfl rfl rfl) rfl ?_ | (refine WL.k_bin .geq ?_; refine WL.step (Yl.geqT rfl rfl (by omega)) rfl ?_) | (refine WL.k_bin .leq ?_; refine WL.step (Yl.leqT rfl rfl (by omega)) rfl ?_) | refine WC.seq ?_ | refine WC.region ?_ | refine WL.nil ?_ | refine WN.then_normal ?_ | refine WC.ret ?_))
      exact WN.ret1 rfl rfl ⟨by rw [decide_eq_true (by omega)], rfl⟩ .nil
/-- The result of an append: the bytes and an error number. -/
def Appended (l : List UInt8) (x : Nat) (wd : Int) : Value → List HA → Prop :=
  NewRow (fun s => .tuple #[s, .int .i64 ((Big.appended l x wd).1 : Nat)]) 5 1 (Big.appended l x wd).2.length (bs (Big.appended l x wd).2)
theorem bvof (m : Nat) : Value.int .u8 ((m % 2 ^ IntKind.u8.bits : Nat) : Int) = bv (UInt8.ofNat m) := by
  simp only [bv, UInt8.toNat_ofNat']; rfl
theorem flat1 (c : UInt8) : flat [bv c] = bs [c] := rfl
theorem append_c (a : Option Addr) (n cap : Nat) (l : List UInt8) (x : Nat) (wd : Int) (w : World) (hl : l.length = n) (hn : n ≤ 140737488355000) (hx : x < 18446744073709551616) (hr : CellsAt w a (bs l)) :
    Calls Try.prog 33 #[.slice a n cap, .int .u64 (x : Int), .int .i64 wd] w (Gives (Appended l x wd) w) := by
  refine enter (args := [_, _, _]) Try.func33 Try.ntmps33 rfl rfl ?_
  by_cases hbad : wd < 1 ∨ 8 < wd
  · have e : Big.appended l x wd = (2, []) := if_pos hbad
    (repeat (first | refine WL.step (Yl.move rfl) rfl ?_ | refine WL.step (Yl.assign rfl) rfl ?_ | (refine WL.k_call 55 ?_; refine WL.callV (g := 55) (v := .bool false) Try.call55 rfl (fun w _ => by have := valid_c wd w; rwa [decide_eq_false (fun h => h hbad)] at this) rfl ?_) | refine WL.step (Yl.not rfl) rfl ?_ | refine WC.seq ?_ | refine WC.region ?_ | refine WL.nil ?_ | refine WN.then_normal ?_ | refine WC.block ?_))
    refine WC.cond_true rfl rfl ?_
    (repeat (first | refine WL.step (Yl.assign rfl) rfl ?_ | refine WC.seq ?_ | refine WC.region ?_ | refine WL.nil ?_ | refine WN.then_normal ?_ | refine WC.ret ?_ | refine WN.then_ret ?_ | refine WN.block_ret ?_))
    exact WN.ret2 rfl rfl rfl ⟨none, 0, by rw [e]; exact Nat.le_refl _, by rw [e]; rfl, by rw [e]; rfl⟩ (.free .nil)
  · obtain ⟨W, rfl⟩ : ∃ W : Nat, wd = (W : Int) := ⟨wd.toNat, by omega⟩
    have hW : 1 ≤ W ∧ W ≤ 8 := by omega
    (repeat (first | refine WL.step (Yl.move rfl) rfl ?_ | refine WL.step (Yl.assign rfl) rfl ?_ | (refine WL.k_call 55 ?_; refine WL.callV (g := 55) (v := .bool true) Try.call55 rfl (fun w _ => by have := valid_c (W : Int) w; rwa [decide_eq_true hbad] at this) rfl ?_) | refine WL.step (Yl.not rfl) rfl ?_ | refine WC.seq ?_ | refine WC.region ?_ | refine WL.nil ?_ | refine WN.then_normal ?_ | refine WC.block ?_))
    refine WC.cond_false rfl rfl ?_
    by_cases hov : 2 ^ (8 * W) ≤ x
    · have e : Big.appended l x (W : Int) = (14, []) := by unfold Big.appended; rw [if_neg hbad, Int.toNat_natCast, if_pos hov]
      have hlen : 8 * W < Big.len x := Nat.lt_of_not_le fun h => by have := Big.len_le.1 h; omega
      (repeat (first | refine WL.step (Yl.move rfl) rfl ?_ | refine WL.step (Yl.assign rfl) rfl ?_ | refine WL.callV (g := 56) Try.call56 rfl (fun w _ => len64_c x w hx) rfl ?_ | (refine WL.k_bin .gtr ?_; refine WL.step (Yl.gtrT rfl rfl (by omega)) rfl ?_) | (refine WL.k_bin .mul ?_; refine WL.step (Yl.mulC64 rfl (by omega)) rfl ?_) | refine WC.seq ?_ | refine WC.region ?_ | refine WL.nil ?_ | refine WN.then_normal ?_))
      refine WC.cond_true rfl rfl ?_
      (repeat (first | refine WL.step (Yl.assign rfl) rfl ?_ | refine WC.seq ?_ | refine WC.region ?_ | refine WL.nil ?_ | refine WN.then_normal ?_ | refine WC.ret ?_ | refine WN.then_ret ?_ | refine WN.block_ret ?_))
      exact WN.ret2 rfl rfl rfl ⟨none, 0, by rw [e]; exact Nat.le_refl _, by rw [e]; rfl, by rw [e]; rfl⟩ (.free .nil)
    · have e : Big.appended l x (W : Int) = (0, l ++ Big.be W x) := by unfold Big.appended; rw [if_neg hbad, Int.toNat_natCast, if_neg hov]
      have hlen : Big.len x ≤ 8 * W := Big.len_le.2 (by omega)
      (repeat (first | refine WL.step (Yl.move rfl) rfl ?_ | refine WL.step (Yl.assign rfl) rfl ?_ | refine WL.callV (g := 56) Try.call56 rfl (fun w _ => len64_c x w hx) rfl ?_ | (refine WL.k_bin .gtr ?_; refine WL.step (Yl.gtrF rfl rfl (by omega)) rfl ?_) | (refine WL.k_bin .mul ?_; refine WL.step (Yl.mulC64 rfl (by omega)) rfl ?_) | refine WC.seq ?_ | refine WC.region ?_ | refine WL.nil ?_ | refine WN.then_normal ?_))
      refine WC.cond_false rfl rfl ?_
      (repeat (first | refine WL.step (Yl.move rfl) rfl ?_ | refine WC.seq ?_ | refine WC.region ?_ | refine WN.then_normal ?_ | refine WC.skip ?_ | refine WN.block_normal ?_))
      refine WL.callR (g := 57) Try.call57 rfl (fun w s => clone_c _ _ _ l w hl (by omega) (Rd.old hr w s)) rfl fun p hp => ?_
      (repeat (first | refine WL.step (Yl.move rfl) rfl ?_ | refine WL.step (Yl.assign rfl) rfl ?_ | refine WC.seq ?_ | refine WC.region ?_ | refine WL.nil ?_ | refine WN.then_normal ?_ | refine WC.block ?_))
      have hbl := Big.be_length W x
      refine WC.loop (α := Nat × Option Addr × Nat) (fun g => [(1, .int .u64 (x : Int)), (2, .int .i64 (W : Int)), (8, .slice g.2.1 (n + g.1) g.2.2), (22, .int .i64 (W : Int)), (23, .int .i64 (g.1 : Int))])
        (fun g => [.row g.2.1 g.2.2 5 1 (bs (l ++ (Big.be W x).take g.1))]) (fun g => g.1 ≤ W ∧ n + g.1 ≤ g.2.2) (fun g => W - g.1) (0, p.1, p.2) (by simpa using (by repeat (first | exact Sub.nil | refine Sub.cons rfl rfl ?_))) (by simpa using Part.cons .here .nil) ⟨by simp, by simpa using hp⟩ ?_
      intro ⟨i, p, q⟩ ⟨hi, hq⟩
      simp only at hi hq ⊢
      (repeat (first | refine WL.step (Yl.lss rfl rfl) rfl ?_ | refine WC.seq ?_ | refine WC.region ?_ | refine WL.nil ?_ | refine WN.then_normal ?_))
      refine WC.ite rfl (fun h1 => ?_) (fun h1 => ?_)
      · (repeat (first | refine WL.step (Yl.move rfl) rfl ?_ | refine WL.step (Yl.assign rfl) rfl ?_ | (refine WL.k_bin .shr ?_; refine WL.step (Yl.shrN rfl rfl (by show _ ≤ 64; omega)) rfl ?_) | refine WL.step (Yl.convN (s := 39) (t := 5) Try.underlying39 Try.underlying5 rfl rfl) rfl ?_ | (refine WL.k_bin .sub ?_; first | refine WL.step (Yl.sub64C rfl (by omega) (by omega)) rfl ?_ | refine WL.step (Yl.sub64N rfl rfl (by omega) (by omega)) rfl ?_) | (refine WL.k_bin .mul ?_; refine WL.step (Yl.mulC64 rfl (by omega)) rfl ?_) | refine WC.seq ?_ | refine WC.region ?_ | refine WL.nil ?_ | refine WN.then_normal ?_ | refine WC.block ?_ | refine WC.skip ?_))
        rw [bvof]
        refine WL.lit (t := 34) Try.underlying34 elemU8 rfl rfl rfl (by simp [bv, Value.cells]) rfl fun b => ?_
        refine WL.appendRow (t := 34) Try.underlying34 elemU8 rfl rfl (.there .here) (by rw [bs_length]; simp; omega) hq (Rd.row (.head _)) rfl (bs_one [_]) (by omega) (by simp only [maxLen]; omega) rfl fun p2 hp2 => ?_
        have hnew : bs (l ++ (Big.be W x).take i) ++ flat [bv (UInt8.ofNat (x / 2 ^ (8 * (W - 1 - i))))] = bs (l ++ (Big.be W x).take (i + 1)) := by
          rw [flat1, ← bs_append, List.append_assoc, take_snoc _ 0 (by omega), Big.be_get _ _ _ (by omega), Big.pow256]
        rw [hnew]
        (repeat (first | refine WL.step (Yl.move rfl) rfl ?_ | refine WL.step (Yl.assign rfl) rfl ?_ | (refine WL.k_bin .add ?_; refine WL.step (Yl.add64C rfl (by omega)) rfl ?_) | refine WC.region ?_ | refine WL.nil ?_ | refine WN.then_normal ?_ | refine WN.block_normal ?_))
        exact WN.next (i + 1, p2.1, p2.2) ⟨by simp only; omega, by simp only; omega⟩ (by simp only; omega) (by repeat (first | exact Sub.nil | refine Sub.cons rfl rfl ?_)) (.cons .here .nil)
      · obtain rfl : i = W := by omega
        (repeat (first | refine WL.step (Yl.move rfl) rfl ?_ | refine WL.step (Yl.assign rfl) rfl ?_ | refine WC.seq ?_ | refine WC.region ?_ | refine WL.nil ?_ | refine WN.then_normal ?_ | refine WC.exit ?_ | refine WC.ret ?_ | refine WN.then_exit ?_ | refine WN.block_here ?_))
        exact WN.ret2 rfl rfl rfl ⟨p, q, by rw [e]; simp; omega, by rw [e]; simp [hl, hbl], by rw [e, List.take_of_length_le (by omega)]⟩ (.cons .here .nil)
end Go.Proofs.Ytbfhdggfdhlkfaa
