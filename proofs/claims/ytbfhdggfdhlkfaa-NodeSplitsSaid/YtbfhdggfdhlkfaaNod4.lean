/- Copies of keys, values and kids; the reference's number as bytes and back; the reader of pages. -/
import Derived.Test.YtbfhdggfdhlkfaaNod3
import Derived.Test.YtbfhdggfdhlkfaaNodThm
import Derived.Test.YtbfhdggfdhlkfaaJoin
import Derived.Test.YtbfhdggfdhlkfaaBigV
namespace Go.Proofs.Ytbfhdggfdhlkfaa
set_option linter.unusedVariables false
set_option linter.unusedSimpArgs false
open Go Go.RowKit
set_option maxRecDepth 100000
set_option maxHeartbeats 4000000
abbrev zkey : Nod.K := ⟨0, List.replicate 32 0⟩
abbrev zval : List UInt8 := List.replicate 20 0
theorem elemKey : ElemT Try.prog 42 (kval zkey) 33 40 := ElemT.of (by kernel_rfl) rfl (by decide)
theorem elemVal : ElemT Try.prog 73 (.agg (bs zval).toArray) 20 20 := ElemT.of (by kernel_rfl) rfl (by decide)
theorem elemRKey : ElemT Try.prog 45 (kval zkey) 33 40 := ElemT.of (by kernel_rfl) rfl (by decide)
theorem elemRVal : ElemT Try.prog 78 (.agg (bs zval).toArray) 20 20 := ElemT.of (by kernel_rfl) rfl (by decide)
theorem zeroKey (w : World) : (zeroValue 42).run Try.prog w = .ok (.agg (kv zkey).toArray) w := elemKey.zero w
theorem zeroVal (w : World) : (zeroValue 73).run Try.prog w = .ok (.agg (bs zval).toArray) w := elemVal.zero w
theorem zeroRKey (w : World) : (zeroValue 45).run Try.prog w = .ok (.agg (kv zkey).toArray) w := elemRKey.zero w
theorem zeroRVal (w : World) : (zeroValue 78).run Try.prog w = .ok (.agg (bs zval).toArray) w := elemRVal.zero w
theorem kcells_one (l : List Nod.K) : ∀ u ∈ kcells l, u.oneCell' = true := by
  intro u hu; obtain ⟨k, _, h⟩ := List.mem_flatMap.1 hu; exact kv_one k u h
theorem vcells_one (l : List (List UInt8)) : ∀ u ∈ vcells l, u.oneCell' = true := by
  intro u hu; obtain ⟨k, _, h⟩ := List.mem_flatMap.1 hu; exact bs_one k u h
theorem kv_all (k : Nod.K) : (kv k).toArray.toList.all Value.oneCell' = true := List.all_eq_true.2 fun u hu => kv_one k u (by simpa using hu)
theorem bs_all (l : List UInt8) : (bs l).toArray.toList.all Value.oneCell' = true := List.all_eq_true.2 fun u hu => bs_one l u (by simpa using hu)
theorem bs_size {l : List UInt8} {n : Nat} (h : l.length = n) : Nat.beq (bs l).toArray.size n = true := by rw [List.size_toArray, bs_length, h]; exact Nat.beq_refl n
theorem kcells_snoc (l : List Nod.K) (k : Nod.K) : kcells (l ++ [k]) = kcells l ++ kv k := by simp [kcells]
theorem vcells_snoc (l : List (List UInt8)) (v : List UInt8) : vcells (l ++ [v]) = vcells l ++ bs v := by simp [vcells]
theorem icells_snoc (l : List Int) (c : Int) : icells (l ++ [c]) = icells l ++ [.int .i64 c] := by simp [icells]
theorem kcells_app (l m : List Nod.K) : kcells (l ++ m) = kcells l ++ kcells m := by simp [kcells]
theorem vcells_app (l m : List (List UInt8)) : vcells (l ++ m) = vcells l ++ vcells m := by simp [vcells]
theorem icells_app (l m : List Int) : icells (l ++ m) = icells l ++ icells m := by simp [icells]
theorem flatK (k : Nod.K) : flat [.agg (kv k).toArray] = kv k := by simp [flat, Value.cells]
theorem flatV (v : List UInt8) : flat [.agg (bs v).toArray] = bs v := by simp [flat, Value.cells]
theorem cells_nil {w : World} {vs : List Value} (h : CellsAt w none vs) : vs = [] := by
  rcases h with h | ⟨b, off, h, _⟩
  · exact h
  · cases h
attribute [local irreducible] WL WC WN Yl WH WQ WT
theorem clk_c (a : Option Addr) (n cap : Nat) (l : List Nod.K) (w : World) (hl : l.length = n) (hn : n ≤ 1000) (hw : ∀ k ∈ l, k.Wf) (hr : CellsAt w a (kcells l)) :
    Calls Try.prog 62 #[.slice a n cap] w (Gives (NewRow id 42 33 n (kcells l)) w) := by
  have hkl := kcells_len hw
  refine enter (args := [_]) Try.func62 Try.ntmps62 rfl rfl ?_
  cases a with
  | none =>
    have h0 := cells_nil hr
    rw [h0] at hkl ⊢
    obtain rfl : n = 0 := by simp at hkl; omega
    (repeat (first | refine WL.step (Yl.move rfl) rfl ?_ | refine WL.step (Yl.assign rfl) rfl ?_ | refine WL.step (Yl.eqNil (t := 22) Try.underlying22 rfl) rfl ?_ | refine WC.seq ?_ | refine WC.region ?_ | refine WL.nil ?_ | refine WN.then_normal ?_))
    refine WC.cond_true rfl rfl ?_
    (repeat (first | refine WL.step (Yl.assign rfl) rfl ?_ | refine WC.seq ?_ | refine WC.region ?_ | refine WL.nil ?_ | refine WN.then_normal ?_ | refine WC.ret ?_ | refine WN.then_ret ?_))
    exact WN.ret1 rfl rfl ⟨none, 0, by omega, rfl, rfl⟩ (.free .nil)
  | some ad =>
    (repeat (first | refine WL.step (Yl.move rfl) rfl ?_ | refine WL.step (Yl.assign rfl) rfl ?_ | refine WL.step (Yl.eqNil (t := 22) Try.underlying22 rfl) rfl ?_ | refine WC.seq ?_ | refine WC.region ?_ | refine WL.nil ?_ | refine WN.then_normal ?_))
    refine WC.cond_false rfl rfl ?_
    (repeat (first | refine WC.seq ?_ | refine WC.region ?_ | refine WN.then_normal ?_ | refine WC.skip ?_))
    refine WL.lit (t := 22) Try.underlying22 elemKey rfl rfl rfl (by simp) rfl fun b => ?_
    (repeat (first | refine WL.step (Yl.move rfl) rfl ?_))
    refine WL.appendRow (t := 22) Try.underlying22 elemKey rfl rfl .here rfl (by omega) (.old hr) (by rw [hkl, hl]) (kcells_one l) (by omega) (by simp only [maxLen]; omega) rfl fun p hp => ?_
    (repeat (first | refine WL.step (Yl.assign rfl) rfl ?_ | refine WL.nil ?_ | refine WN.then_normal ?_ | refine WC.ret ?_))
    exact WN.ret1 rfl rfl ⟨p.1, p.2, by omega, by rw [Nat.zero_add]; rfl, rfl⟩ (.cons .here .nil)
theorem clv_c (a : Option Addr) (n cap : Nat) (l : List (List UInt8)) (w : World) (hl : l.length = n) (hn : n ≤ 1000) (hw : ∀ k ∈ l, k.length = 20) (hr : CellsAt w a (vcells l)) :
    Calls Try.prog 63 #[.slice a n cap] w (Gives (NewRow id 73 20 n (vcells l)) w) := by
  have hkl := vcells_len hw
  refine enter (args := [_]) Try.func63 Try.ntmps63 rfl rfl ?_
  cases a with
  | none =>
    have h0 := cells_nil hr
    rw [h0] at hkl ⊢
    obtain rfl : n = 0 := by simp at hkl; omega
    (repeat (first | refine WL.step (Yl.move rfl) rfl ?_ | refine WL.step (Yl.assign rfl) rfl ?_ | refine WL.step (Yl.eqNil (t := 23) Try.underlying23 rfl) rfl ?_ | refine WC.seq ?_ | refine WC.region ?_ | refine WL.nil ?_ | refine WN.then_normal ?_))
    refine WC.cond_true rfl rfl ?_
    (repeat (first | refine WL.step (Yl.assign rfl) rfl ?_ | refine WC.seq ?_ | refine WC.region ?_ | refine WL.nil ?_ | refine WN.then_normal ?_ | refine WC.ret ?_ | refine WN.then_ret ?_))
    exact WN.ret1 rfl rfl ⟨none, 0, by omega, rfl, rfl⟩ (.free .nil)
  | some ad =>
    (repeat (first | refine WL.step (Yl.move rfl) rfl ?_ | refine WL.step (Yl.assign rfl) rfl ?_ | refine WL.step (Yl.eqNil (t := 23) Try.underlying23 rfl) rfl ?_ | refine WC.seq ?_ | refine WC.region ?_ | refine WL.nil ?_ | refine WN.then_normal ?_))
    refine WC.cond_false rfl rfl ?_
    (repeat (first | refine WC.seq ?_ | refine WC.region ?_ | refine WN.then_normal ?_ | refine WC.skip ?_))
    refine WL.lit (t := 23) Try.underlying23 elemVal rfl rfl rfl (by simp) rfl fun b => ?_
    (repeat (first | refine WL.step (Yl.move rfl) rfl ?_))
    refine WL.appendRow (t := 23) Try.underlying23 elemVal rfl rfl .here rfl (by omega) (.old hr) (by rw [hkl, hl]) (vcells_one l) (by omega) (by simp only [maxLen]; omega) rfl fun p hp => ?_
    (repeat (first | refine WL.step (Yl.assign rfl) rfl ?_ | refine WL.nil ?_ | refine WN.then_normal ?_ | refine WC.ret ?_))
    exact WN.ret1 rfl rfl ⟨p.1, p.2, by omega, by rw [Nat.zero_add]; rfl, rfl⟩ (.cons .here .nil)
theorem cli_c (a : Option Addr) (n cap : Nat) (l : List Int) (w : World) (hl : l.length = n) (hn : n ≤ 1000) (hr : CellsAt w a (icells l)) :
    Calls Try.prog 64 #[.slice a n cap] w (Gives (NewRow id 3 1 n (icells l)) w) := by
  have hkl := icells_len l
  refine enter (args := [_]) Try.func64 Try.ntmps64 rfl rfl ?_
  cases a with
  | none =>
    have h0 := cells_nil hr
    rw [h0] at hkl ⊢
    obtain rfl : n = 0 := by simp at hkl; omega
    (repeat (first | refine WL.step (Yl.move rfl) rfl ?_ | refine WL.step (Yl.assign rfl) rfl ?_ | refine WL.step (Yl.eqNil (t := 24) Try.underlying24 rfl) rfl ?_ | refine WC.seq ?_ | refine WC.region ?_ | refine WL.nil ?_ | refine WN.then_normal ?_))
    refine WC.cond_true rfl rfl ?_
    (repeat (first | refine WL.step (Yl.assign rfl) rfl ?_ | refine WC.seq ?_ | refine WC.region ?_ | refine WL.nil ?_ | refine WN.then_normal ?_ | refine WC.ret ?_ | refine WN.then_ret ?_))
    exact WN.ret1 rfl rfl ⟨none, 0, by omega, rfl, rfl⟩ (.free .nil)
  | some ad =>
    (repeat (first | refine WL.step (Yl.move rfl) rfl ?_ | refine WL.step (Yl.assign rfl) rfl ?_ | refine WL.step (Yl.eqNil (t := 24) Try.underlying24 rfl) rfl ?_ | refine WC.seq ?_ | refine WC.region ?_ | refine WL.nil ?_ | refine WN.then_normal ?_))
    refine WC.cond_false rfl rfl ?_
    (repeat (first | refine WC.seq ?_ | refine WC.region ?_ | refine WN.then_normal ?_ | refine WC.skip ?_))
    refine WL.lit (t := 24) Try.underlying24 elemInt rfl rfl rfl (by simp) rfl fun b => ?_
    (repeat (first | refine WL.step (Yl.move rfl) rfl ?_))
    refine WL.appendRow (t := 24) Try.underlying24 elemInt rfl rfl .here rfl (by omega) (.old hr) (by rw [hkl, hl, Nat.mul_one]) (icells_one l) (by omega) (by simp only [maxLen]; omega) rfl fun p hp => ?_
    (repeat (first | refine WL.step (Yl.assign rfl) rfl ?_ | refine WL.nil ?_ | refine WN.then_normal ?_ | refine WC.ret ?_))
    exact WN.ret1 rfl rfl ⟨p.1, p.2, by omega, by rw [Nat.zero_add]; rfl, rfl⟩ (.cons .here .nil)
theorem rbytes_c (x k : Nat) (w : World) (hk : k ≤ 8) :
    Calls Try.prog 34 #[.int .u64 (x : Int), .int .i64 (k : Int)] w (Gives (NewRow id 5 1 k (bs (Big.be k x))) w) := by
  refine enter (args := [_, _]) Try.func34 Try.ntmps34 rfl rfl ?_
  (repeat (first | refine WL.step (Yl.move rfl) rfl ?_ | refine WL.step (Yl.assign rfl) rfl ?_ | (refine WL.k_bin .sub ?_; refine WL.step (Yl.sub64 rfl rfl (by omega)) rfl ?_) | refine WC.seq ?_ | refine WC.region ?_ | refine WL.nil ?_ | refine WN.then_normal ?_ | refine WC.block ?_))
  have hbl := Big.be_length k x
  refine WC.loop (α := Nat × Option Addr × Nat) (fun g => [(0, .int .u64 (x : Int)), (5, .slice g.2.1 g.1 g.2.2), (6, .int .i64 ((k : Int) - 1 - (g.1 : Int)))])
    (fun g => [.row g.2.1 g.2.2 5 1 (bs ((Big.be k x).take g.1))]) (fun g => g.1 ≤ k ∧ g.1 ≤ g.2.2) (fun g => k - g.1) (0, none, 0) (.cons rfl rfl (.cons rfl rfl (.cons rfl (by simp) .nil))) (.free .nil) ⟨by simp, by simp⟩ ?_
  intro ⟨i, p, q⟩ ⟨hi, hq⟩
  simp only at hi hq ⊢
  (repeat (first | refine WL.step (Yl.move rfl) rfl ?_ | refine WL.step (Yl.geq rfl rfl) rfl ?_ | refine WC.seq ?_ | refine WC.region ?_ | refine WL.nil ?_ | refine WN.then_normal ?_))
  refine WC.ite rfl (fun h1 => ?_) (fun h1 => ?_)
  · obtain ⟨m, hm⟩ : ∃ m : Nat, (k : Int) - 1 - (i : Int) = (m : Int) := ⟨k - 1 - i, by omega⟩
    rw [hm]
    have hmk : m = k - 1 - i := by omega
    (repeat (first | refine WL.step (Yl.move rfl) rfl ?_ | (refine WL.k_conv ?_; first | refine WL.step (Yl.convLt (s := 3) (t := 103) Try.underlying3 Try.underlying103 rfl rfl (by show _ < 18446744073709551616; omega)) rfl ?_ | refine WL.step (Yl.convN (s := 39) (t := 5) Try.underlying39 Try.underlying5 rfl rfl) rfl ?_) | (refine WL.k_bin .shr ?_; refine WL.step (Yl.shrN rfl rfl (by show _ ≤ 64; omega)) rfl ?_) | (refine WL.k_bin .mul ?_; refine WL.step (Yl.mulC64 rfl (by omega)) rfl ?_) | refine WC.seq ?_ | refine WC.region ?_ | refine WN.then_normal ?_ | refine WC.block ?_ | refine WC.skip ?_))
    rw [show Value.int .u8 ((x / 2 ^ (8 * m) % 2 ^ IntKind.u8.bits : Nat) : Int) = bv (UInt8.ofNat (x / 2 ^ (8 * m))) from bvof _]
    refine WL.lit (t := 34) Try.underlying34 elemU8 rfl rfl rfl (by simp [bv, Value.cells]) rfl fun b => ?_
    refine WL.appendRow (t := 34) Try.underlying34 elemU8 rfl rfl (.there .here) (by rw [bs_length]; simp; omega) hq (Rd.row (.head _)) rfl (bs_one [_]) (by omega) (by simp only [maxLen]; omega) rfl fun p2 hp2 => ?_
    have hnew : bs ((Big.be k x).take i) ++ flat [bv (UInt8.ofNat (x / 2 ^ (8 * m)))] = bs ((Big.be k x).take (i + 1)) := by
      rw [flat1, ← bs_append, take_snoc _ 0 (by omega), Big.be_get _ _ _ (by omega), Big.pow256, hmk]
    rw [hnew]
    (repeat (first | refine WL.step (Yl.move rfl) rfl ?_ | refine WL.step (Yl.assign rfl) rfl ?_ | (refine WL.k_bin .sub ?_; refine WL.step (Yl.sub64 rfl rfl (by omega)) rfl ?_) | refine WC.region ?_ | refine WL.nil ?_ | refine WN.then_normal ?_ | refine WN.block_normal ?_))
    exact WN.next (i + 1, p2.1, p2.2) ⟨by simp only; omega, by simp only; omega⟩ (by simp only; omega) (.cons rfl rfl (.cons rfl rfl (.cons rfl (by show Value.int .i64 _ = Value.int .i64 _; congr 1; simp only; omega) .nil))) (.cons .here .nil)
  · obtain rfl : i = k := by omega
    (repeat (first | refine WL.step (Yl.move rfl) rfl ?_ | refine WL.step (Yl.assign rfl) rfl ?_ | refine WC.seq ?_ | refine WC.region ?_ | refine WL.nil ?_ | refine WN.then_normal ?_ | refine WC.exit ?_ | refine WC.ret ?_ | refine WN.then_exit ?_ | refine WN.block_here ?_))
    exact WN.ret1 rfl rfl ⟨p, q, hq, rfl, by rw [List.take_of_length_le (by omega)]⟩ (.cons .here .nil)
theorem rnumber_c (a : Option Addr) (n cap : Nat) (l : List UInt8) (w : World) (hl : l.length = n) (hn : n ≤ 8) (hr : CellsAt w a (bs l)) :
    Calls Try.prog 47 #[.slice a n cap] w (Gives (Val (.int .u64 ((Big.val 0 l : Nat) : Int))) w) := by
  refine enter (args := [_]) Try.func47 Try.ntmps47 rfl rfl ?_
  (repeat (first | refine WL.step (Yl.assign rfl) rfl ?_ | refine WC.seq ?_ | refine WC.region ?_ | refine WL.nil ?_ | refine WN.then_normal ?_ | refine WC.block ?_))
  refine WC.loop (α := Nat) (fun i => [(0, .slice a n cap), (3, .int .u64 ((Big.val 0 (l.take i) : Nat) : Int)), (4, .int .i64 (i : Int))]) (fun _ => []) (fun i => i ≤ n) (fun i => n - i) 0 (by repeat (first | exact Sub.nil | refine Sub.cons rfl rfl ?_)) .nil (by omega) ?_
  intro i hi
  (repeat (first | refine WL.step (Yl.move rfl) rfl ?_ | refine WL.step (Yl.len (t := 34) Try.underlying34 rfl) rfl ?_ | refine WL.step (Yl.lss rfl rfl) rfl ?_ | refine WC.seq ?_ | refine WC.region ?_ | refine WL.nil ?_ | refine WN.then_normal ?_))
  refine WC.ite rfl (fun h1 => ?_) (fun h1 => ?_)
  · have hil : i < l.length := by omega
    have hc := byte_lt (l.getD i 0)
    have hv : Big.val 0 (l.take i) < 72057594037927936 := by
      have h1 := Big.val_lt (l.take i)
      have h2 : (l.take i).length ≤ 7 := by rw [List.length_take]; omega
      have h3 : 256 ^ (l.take i).length ≤ 256 ^ 7 := Nat.pow_le_pow_right (by decide) h2
      omega
    have hs : Big.val 0 (l.take i) * 2 ^ 8 % 2 ^ 64 ||| (l.getD i 0).toNat = Big.val 0 (l.take (i + 1)) := by
      rw [Nat.mod_eq_of_lt (by omega), take_snoc _ 0 hil, Big.val_snoc, ← Nat.shiftLeft_eq, ← Nat.shiftLeft_add_eq_or_of_lt (by omega), Nat.shiftLeft_eq]
    (repeat (first | refine WL.step (Yl.move rfl) rfl ?_ | refine WL.step (Yl.assign rfl) rfl ?_ | refine WL.step (Yl.load (T := 5) Try.isAgg5 rfl (.old hr) (bs_get hil)) rfl ?_ | (refine WL.k_bin .shl ?_; refine WL.step (Yl.shlN (n := 8) rfl rfl rfl (by decide)) rfl ?_) | (refine WL.k_idxa ?_; refine WL.step (Yl.indexAddr1 (t := 34) Try.underlying34 Try.sizeOf5 rfl rfl (.old hr) (bs_ne hil) (by omega)) rfl ?_) | (refine WL.k_conv ?_; refine WL.step (Yl.convLt (s := 5) (t := 39) Try.underlying5 Try.underlying39 rfl rfl (by show _ < 18446744073709551616; omega)) rfl ?_) | (refine WL.k_bin .or ?_; refine WL.step (Yl.orN rfl rfl rfl (by show _ < 18446744073709551616; exact Nat.mod_lt _ (by decide)) (by show _ < 18446744073709551616; omega)) rfl ?_) | (refine WL.k_bin .add ?_; refine WL.step (Yl.add64C rfl (by omega)) rfl ?_) | refine WC.seq ?_ | refine WC.region ?_ | refine WL.nil ?_ | refine WN.then_normal ?_ | refine WC.block ?_ | refine WC.skip ?_ | refine WN.block_normal ?_))
    exact WN.next (i + 1) (by omega) (by omega) (.cons rfl rfl (.cons rfl (by show Value.int .u64 ((Big.val 0 (l.take i) * 2 ^ 8 % 2 ^ 64 ||| (l.getD i 0).toNat : Nat) : Int) = _; rw [hs]) (.cons rfl rfl .nil))) .nil
  · obtain rfl : i = n := by omega
    (repeat (first | refine WL.step (Yl.move rfl) rfl ?_ | refine WL.step (Yl.assign rfl) rfl ?_ | refine WC.seq ?_ | refine WC.region ?_ | refine WL.nil ?_ | refine WN.then_normal ?_ | refine WC.exit ?_ | refine WC.ret ?_ | refine WN.then_exit ?_ | refine WN.block_here ?_))
    exact WN.ret1 rfl rfl ⟨by rw [List.take_of_length_le (by omega)], rfl⟩ .nil
end Go.Proofs.Ytbfhdggfdhlkfaa
