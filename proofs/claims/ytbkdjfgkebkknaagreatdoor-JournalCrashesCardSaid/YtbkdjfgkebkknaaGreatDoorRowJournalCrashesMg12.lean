import Derived.Test.YtbkdjfgkebkknaaGreatDoorRowJournalCrashesMg6
import Derived.Test.YtbkdjfgkebkknaaGreatDoorRowJournalCrashesMg11
import Derived.Test.YtbkdjfgkebkknaaGreatDoorRowJournalCrashesMg10
import Derived.Test.YtbkdjfgkebkknaaGreatDoorProg
import Derived.Test.YtbkdjfgkebkknaaGreatDoorRowJournalCrashesMg3
namespace Go.Proofs.YtbkdjfgkebkknaaGreatDoor
set_option linter.unusedVariables false
set_option linter.unusedSimpArgs false
open Go Go.RowKit
set_option maxRecDepth 100000
attribute [local irreducible] WL WC WN Yl
def tv (i : Nat) : Value := .int .u32 (Crc.entry i : Nat)
def tbl (n : Nat) : List Value := (List.range 256).map fun i => if i < n then tv i else .int .u32 0
theorem tbl_length (n : Nat) : (tbl n).length = 256 := by simp [tbl]
theorem tbl_set {n : Nat} (h : n < 256) : (tbl n).set n (tv n) = tbl (n + 1) := by
  apply List.ext_getElem?
  intro i
  simp only [tbl, List.getElem?_set, List.length_map, List.length_range]
  by_cases e : n = i
  · subst e; simp [h]
  · simp only [e, if_false, List.getElem?_map]
    by_cases hi : i < 256
    · simp only [List.getElem?_range hi, Option.map_some]
      by_cases h2 : i < n
      · rw [if_pos h2, if_pos (by omega)]
      · rw [if_neg h2, if_neg (by omega)]
    · simp [hi]
theorem tbl_get {i : Nat} (h : i < 256) : (tbl 256)[i]? = some (tv i) := by
  simp [tbl, h]
theorem tbl_one (n : Nat) : ∀ u ∈ tbl n, u.oneCell' = true := by
  intro u hu
  obtain ⟨i, _, rfl⟩ := List.mem_map.1 hu
  split <;> rfl
theorem zero_tbl : tbl 0 = List.replicate 256 (Value.int .u32 0) := by
  apply List.ext_getElem?
  intro i
  simp only [tbl, List.getElem?_map, List.getElem?_replicate]
  by_cases hi : i < 256
  · simp [hi]
  · simp [hi]
theorem zeroTbl (w : World) : (zeroValue 249).run Tryz.prog w = .ok (.agg (tbl 0).toArray) w := by
  have h : (Tryz.prog.info? 249).map (fun i => i.zero) = some (some (.agg (List.replicate 256 (Value.int .u32 0)).toArray)) := by kernel_rfl
  rw [zero_tbl]
  exact zero_of h w
theorem entry_lt {i : Nat} (h : i < 256) (k : Nat) : Crc.steps k i < 4294967296 := Crc.steps_lt k (by omega)
theorem table_c (w : World) : Calls Tryz.prog 203 #[] w (Gives (Val (.agg (tbl 256).toArray)) w) := by
  refine enter (args := []) Tryz.func203 Tryz.ntmps203 rfl rfl ?_
  (repeat (first | refine WC.seq ?_ | refine WC.region ?_))
  refine WL.alloc zeroTbl rfl fun b0 => ?_
  (repeat (first | refine WC.seq ?_ | refine WC.region ?_ | refine WL.nil ?_ | refine WN.then_normal ?_))
  refine WL.alloc zeroTbl rfl fun b1 => ?_
  (repeat (first | refine WL.step (Yl.move rfl) rfl ?_ | refine WC.seq ?_ | refine WC.region ?_ | refine WL.nil ?_ | refine WN.then_normal ?_ | refine WC.block ?_))
  refine WC.loop (α := Nat) (fun i => [(0, .pointer (some ⟨b0, 0, none⟩)), (1, .pointer (some ⟨b1, 0, none⟩)), (4, .int .i64 (i : Int))])
    (fun i => [.blk b0 (.cells (tbl 0).toArray 249 (0, 0)), .blk b1 (.cells (tbl i).toArray 249 (0, 0))]) (fun i => i ≤ 256) (fun i => 256 - i) 0 (by repeat (first | exact Sub.nil | refine Sub.cons rfl rfl ?_)) (.cons (.there .here) (.cons .here .nil)) (by omega) ?_
  intro i hi
  (repeat (first | refine WL.step (Yl.lss rfl rfl) rfl ?_ | refine WC.seq ?_ | refine WC.region ?_ | refine WL.nil ?_ | refine WN.then_normal ?_))
  refine WC.ite rfl (fun h => ?_) (fun h => ?_)
  · have hi' : i < 256 := by omega
    (repeat (first | refine WL.step (Yl.move rfl) rfl ?_ | refine WL.step (Yl.assign rfl) rfl ?_ | refine WL.step (Yl.convN (s := 3) (t := 199) Tryz.underlying3 Tryz.underlying199 rfl rfl) rfl ?_ | refine WC.seq ?_ | refine WC.region ?_ | refine WL.nil ?_ | refine WN.then_normal ?_ | refine WC.block ?_ | refine WC.skip ?_))
    refine WC.loop (α := Nat) (fun j => [(0, .pointer (some ⟨b0, 0, none⟩)), (1, .pointer (some ⟨b1, 0, none⟩)), (4, .int .i64 (i : Int)), (2, .int .i64 (i : Int)), (3, .int .u32 (Crc.steps j i : Nat)), (9, .int .i64 (j : Int))])
      (fun _ => [.blk b0 (.cells (tbl 0).toArray 249 (0, 0)), .blk b1 (.cells (tbl i).toArray 249 (0, 0))]) (fun j => j ≤ 8) (fun j => 8 - j) 0
      (.cons rfl rfl (.cons rfl rfl (.cons rfl rfl (.cons rfl rfl (.cons rfl (by rw [show i % 2 ^ IntKind.u32.bits = i from Nat.mod_eq_of_lt (by show _ < 4294967296; omega)]; rfl) (.cons rfl rfl .nil)))))) (.cons .here (.cons .here .nil)) (by omega) ?_
    intro j hj
    have hx := entry_lt hi' j
    (repeat (first | refine WL.step (Yl.lss rfl rfl) rfl ?_ | refine WC.seq ?_ | refine WC.region ?_ | refine WL.nil ?_ | refine WN.then_normal ?_))
    refine WC.ite rfl (fun h2 => ?_) (fun h2 => ?_)
    · (repeat (first | refine WL.step (Yl.move rfl) rfl ?_ | (refine WL.k_bin .and ?_; refine WL.step (Yl.andC rfl rfl hx (by decide)) rfl ?_) | refine WL.step (Yl.eql rfl rfl) rfl ?_ | refine WC.seq ?_ | refine WC.region ?_ | refine WL.nil ?_ | refine WN.then_normal ?_ | refine WC.block ?_ | refine WC.skip ?_))
      refine WC.ite rfl (fun h3 => ?_) (fun h3 => ?_)
      · rw [Nat.and_one_is_mod] at h3
        have e : Crc.steps (j + 1) i = (Crc.steps j i >>> 1) ^^^ 2197175160 := by rw [Crc.steps_succ, Crc.step, if_pos (by omega)]; rfl
        (repeat (first | refine WL.step (Yl.move rfl) rfl ?_ | refine WL.step (Yl.assign rfl) rfl ?_ | (refine WL.k_bin .shr ?_; refine WL.step (Yl.shrC rfl (by decide)) rfl ?_) | (refine WL.k_bin .xor ?_; refine WL.step (Yl.xorC rfl rfl (by show _ < 4294967296; omega) (by decide)) rfl ?_) | (refine WL.k_bin .add ?_; refine WL.step (Yl.add64C rfl (by omega)) rfl ?_) | refine WC.region ?_ | refine WL.nil ?_ | refine WN.then_normal ?_ | refine WN.block_normal ?_))
        exact WN.next (j + 1) (by omega) (by omega) (.cons rfl rfl (.cons rfl rfl (.cons rfl rfl (.cons rfl rfl (.cons rfl (by rw [e]) (.cons rfl rfl .nil)))))) (.cons .here (.cons .here .nil))
      · rw [Nat.and_one_is_mod] at h3
        have e : Crc.steps (j + 1) i = Crc.steps j i >>> 1 := by rw [Crc.steps_succ, Crc.step, if_neg (by omega)]; rfl
        (repeat (first | refine WL.step (Yl.move rfl) rfl ?_ | refine WL.step (Yl.assign rfl) rfl ?_ | (refine WL.k_bin .shr ?_; refine WL.step (Yl.shrC rfl (by decide)) rfl ?_) | (refine WL.k_bin .add ?_; refine WL.step (Yl.add64C rfl (by omega)) rfl ?_) | refine WC.region ?_ | refine WL.nil ?_ | refine WN.then_normal ?_ | refine WN.block_normal ?_))
        exact WN.next (j + 1) (by omega) (by omega) (.cons rfl rfl (.cons rfl rfl (.cons rfl rfl (.cons rfl rfl (.cons rfl (by rw [e]) (.cons rfl rfl .nil)))))) (.cons .here (.cons .here .nil))
    · obtain rfl : j = 8 := by omega
      (repeat (first | refine WL.step (Yl.move rfl) rfl ?_ | refine WL.step (Yl.indexArr (t := 249) Tryz.underlying249 Tryz.sizeOf199 rfl rfl hi') rfl ?_ | refine WC.region ?_ | refine WN.then_normal ?_ | refine WC.exit ?_ | refine WN.then_exit ?_ | refine WN.block_here ?_))
      refine WL.store1 (T := 199) Tryz.sizeOf199 rfl rfl rfl (.there .here) (by simp [tbl_length, hi']) ?_
      (repeat (first | refine WL.step (Yl.move rfl) rfl ?_ | (refine WL.k_bin .add ?_; refine WL.step (Yl.add64C rfl (by omega)) rfl ?_) | refine WC.region ?_ | refine WL.nil ?_ | refine WN.then_normal ?_ | refine WN.block_normal ?_))
      rw [show (tbl i).toArray.toList.set (0 + i * 1) (Value.int .u32 ((Crc.steps 8 i : Nat) : Int)) = tbl (i + 1) from by rw [Nat.zero_add, Nat.mul_one]; exact tbl_set hi']
      refine WN.next (i + 1) (by omega) (by omega) (by repeat (first | exact Sub.nil | refine Sub.cons rfl rfl ?_)) (.cons (.there .here) (.cons .here .nil))
  · obtain rfl : i = 256 := by omega
    (repeat (first | refine WC.seq ?_ | refine WC.region ?_ | refine WN.then_normal ?_ | refine WC.exit ?_ | refine WN.then_exit ?_ | refine WN.block_here ?_))
    refine WL.step (Yl.loadAgg (T := 249) (us := tbl 256) Tryz.isAgg249 Tryz.sizeOf249 rfl (by repeat (first | exact .head _ | refine .tail _ ?_)) (tbl_length _) (fun j u hu => by simpa using hu)) rfl ?_
    refine WL.storeAll (us := tbl 256) (by rw [tbl_length]; exact Tryz.sizeOf249) rfl rfl (tbl_one _) .here (by simp [tbl_length]) ?_
    (repeat (first | refine WL.nil ?_ | refine WN.then_normal ?_ | refine WC.ret ?_))
    exact WN.retCell rfl Tryz.isAgg249 Tryz.sizeOf249 rfl (.head _) (tbl_length _) ⟨rfl, rfl⟩ .nil
theorem update_c (s : Nat) (a : Option Addr) (n cap : Nat) (l : List UInt8) (w : World) (hs : s < 4294967296) (hl : l.length = n) (hn : n ≤ 9223372036854775807) (hr : CellsAt w a (bs l)) :
    Calls Tryz.prog 199 #[.int .u32 (s : Int), .slice a n cap] w (Gives (Val (.int .u32 (Crc.update s l : Nat))) w) := by
  have h0 : s ^^^ 4294967295 < 4294967296 := Nat.xor_lt_two_pow (n := 32) hs (by decide)
  refine enter (args := [_, _]) Tryz.func199 Tryz.ntmps199 rfl rfl ?_
  (repeat (first | refine WL.step (Yl.assign rfl) rfl ?_ | refine WL.callV (g := 203) Tryz.call203 rfl (fun w _ => table_c w) rfl ?_ | refine WC.seq ?_ | refine WC.region ?_ | refine WL.nil ?_ | refine WN.then_normal ?_))
  refine WL.alloc zeroTbl rfl fun b => ?_
  refine WL.storeAll (us := tbl 256) (by rw [tbl_length]; exact Tryz.sizeOf249) rfl rfl (tbl_one _) .here (by simp [tbl_length, Value.cells]) ?_
  (repeat (first | refine WL.step (Yl.move rfl) rfl ?_ | refine WL.step (Yl.assign rfl) rfl ?_ | (refine WL.k_bin .xor ?_; refine WL.step (Yl.xorC rfl rfl hs (by decide)) rfl ?_) | refine WL.step (Yl.len (t := 23) Tryz.underlying23 rfl) rfl ?_ | refine WC.seq ?_ | refine WC.region ?_ | refine WL.nil ?_ | refine WN.then_normal ?_ | refine WC.block ?_))
  refine WC.loop (α := Nat) (fun i => [(12, .slice a n cap), (13, .int .i64 (n : Int)), (5, .pointer (some ⟨b, 0, none⟩)), (6, .int .u32 ((Crc.feeds (s ^^^ 4294967295) (l.take i) : Nat) : Int)), (14, .int .i64 (i : Int))])
    (fun _ => [.blk b (.cells (tbl 256).toArray 249 (0, 0))]) (fun i => i ≤ n) (fun i => n - i) 0 (by repeat (first | exact Sub.nil | refine Sub.cons rfl rfl ?_)) (.cons .here .nil) (by omega) ?_
  intro i hi
  have hf := Crc.feeds_lt h0 (l.take i)
  (repeat (first | refine WL.step (Yl.lss rfl rfl) rfl ?_ | refine WC.seq ?_ | refine WC.region ?_ | refine WL.nil ?_ | refine WN.then_normal ?_))
  refine WC.ite rfl (fun h => ?_) (fun h => ?_)
  · have hi' : i < l.length := by omega
    have hb := byte_lt (l.getD i 0)
    generalize hx : Crc.feeds (s ^^^ 4294967295) (l.take i) = x at *
    have hj : x % 2 ^ IntKind.u8.bits ^^^ (l.getD i 0).toNat < 256 := Nat.xor_lt_two_pow (n := 8) (by show x % 256 < 256; omega) hb
    have hlt := entry_lt hj 8
    (repeat (first | refine WL.step (Yl.move rfl) rfl ?_ | refine WL.step (Yl.assign rfl) rfl ?_ | (refine WL.k_load ?_; first | refine WL.step (Yl.load (T := 5) Tryz.isAgg5 rfl (.old hr) (bs_get hi')) rfl ?_ | refine WL.step (Yl.loadBlk (T := 199) Tryz.isAgg199 rfl (.head _) (by rw [Nat.mul_one, Nat.zero_add]; simpa using tbl_get hj)) rfl ?_) | (refine WL.k_idxa ?_; first | refine WL.step (Yl.indexAddr1 (t := 23) Tryz.underlying23 Tryz.sizeOf5 rfl rfl (.old hr) (bs_ne hi') (by omega)) rfl ?_ | refine WL.step (Yl.indexArr (t := 249) Tryz.underlying249 Tryz.sizeOf199 rfl rfl hj) rfl ?_) | refine WL.step (Yl.convN (s := 199) (t := 5) Tryz.underlying199 Tryz.underlying5 rfl rfl) rfl ?_ | (refine WL.k_bin .xor ?_; first | refine WL.step (Yl.xorN (k := .u8) rfl rfl rfl (by show _ % 256 < 256; omega) hb) rfl ?_ | refine WL.step (Yl.xorN (k := .u32) rfl rfl rfl hlt (by show _ < 4294967296; omega)) rfl ?_) | (refine WL.k_bin .shr ?_; refine WL.step (Yl.shrC rfl (by decide)) rfl ?_) | (refine WL.k_bin .add ?_; refine WL.step (Yl.add64C rfl (by omega)) rfl ?_) | refine WC.seq ?_ | refine WC.region ?_ | refine WL.nil ?_ | refine WN.then_normal ?_ | refine WC.block ?_ | refine WC.skip ?_ | refine WN.block_normal ?_))
    refine WN.next (i + 1) (by omega) (by omega) (.cons rfl rfl (.cons rfl rfl (.cons rfl rfl (.cons rfl ?_ (.cons rfl rfl .nil))))) (.cons .here .nil)
    rw [take_snoc l 0 hi', Crc.feeds_append, hx]
    show Value.int .u32 _ = .int .u32 ((Crc.feed x (l.getD i 0) : Nat) : Int)
    rw [Crc.feed_table, Nat.shiftRight_eq_div_pow]; rfl
  · obtain rfl : i = n := by omega
    (repeat (first | refine WL.step (Yl.move rfl) rfl ?_ | refine WL.step (Yl.assign rfl) rfl ?_ | (refine WL.k_bin .xor ?_; refine WL.step (Yl.xorC rfl rfl hf (by decide)) rfl ?_) | refine WC.seq ?_ | refine WC.region ?_ | refine WL.nil ?_ | refine WN.then_normal ?_ | refine WC.exit ?_ | refine WC.ret ?_ | refine WN.then_exit ?_ | refine WN.block_here ?_))
    refine WN.ret1 rfl rfl ⟨?_, rfl⟩ .nil
    rw [← hl, List.take_length]; rfl
theorem sum_c (a : Option Addr) (n cap : Nat) (l : List UInt8) (w : World) (hl : l.length = n) (hn : n ≤ 9223372036854775807) (hr : CellsAt w a (bs l)) :
    Calls Tryz.prog 186 #[.slice a n cap] w (Gives (Val (.int .u32 (Crc.sum l : Nat))) w) := by
  refine enter (args := [_]) Tryz.func186 Tryz.ntmps186 rfl rfl ?_
  (repeat (first | refine WL.step (Yl.move rfl) rfl ?_ | refine WL.step (Yl.assign rfl) rfl ?_ | (refine WL.k_call 199 ?_; refine WL.callV (g := 199) Tryz.call199 rfl (fun w s => update_c 0 _ _ _ l w (by decide) hl hn (Rd.old hr w s)) rfl ?_) | refine WC.seq ?_ | refine WC.region ?_ | refine WL.nil ?_ | refine WN.then_normal ?_ | refine WC.ret ?_))
  exact WN.ret1 rfl rfl ⟨rfl, rfl⟩ .nil

theorem be4_cells (s : Nat) : flat [Value.int .u8 ((s >>> 24 % 2 ^ IntKind.u8.bits : Nat) : Int), .int .u8 ((s >>> 16 % 2 ^ IntKind.u8.bits : Nat) : Int), .int .u8 ((s >>> 8 % 2 ^ IntKind.u8.bits : Nat) : Int), .int .u8 ((s % 2 ^ IntKind.u8.bits : Nat) : Int)] = bs (Crc.be4 s) := by
  rw [flat_one (by intro u hu; simp only [List.mem_cons, List.not_mem_nil, or_false] at hu; rcases hu with rfl | rfl | rfl | rfl <;> rfl)]
  simp only [bs, bv, Crc.be4, List.map_cons, List.map_nil, UInt8.toNat_ofNat', Nat.shiftRight_eq_div_pow]
  rfl
theorem seal_c (a : Option Addr) (n cap : Nat) (l : List UInt8) (w : World) (hl : l.length = n) (hc : n ≤ cap) (hn : n ≤ 140737488355324) (hr : CellsAt w a (bs l)) :
    Calls Tryz.prog 147 #[.slice a n cap] w (Gives (NewRow id 5 1 (n + 4) (bs (Crc.sealed l))) w) := by
  have hs := Crc.sum_lt l
  refine enter (args := [_]) Tryz.func147 Tryz.ntmps147 rfl rfl ?_
  (repeat (first | refine WL.step (Yl.move rfl) rfl ?_ | refine WL.step (Yl.assign rfl) rfl ?_ | (refine WL.k_call 186 ?_; refine WL.callV (g := 186) Tryz.call186 rfl (fun w s => sum_c _ _ _ l w hl (by omega) (Rd.old hr w s)) rfl ?_) | refine WL.step (Yl.cut3 (t := 23) Tryz.underlying23 Tryz.sizeOf5 rfl rfl rfl (Nat.le_refl _) hc) rfl ?_ | (refine WL.k_bin .shr ?_; refine WL.step (Yl.shrC rfl (by decide)) rfl ?_) | refine WL.step (Yl.convN (s := 199) (t := 5) Tryz.underlying199 Tryz.underlying5 rfl rfl) rfl ?_ | refine WL.step (Yl.len (t := 23) Tryz.underlying23 rfl) rfl ?_ | refine WC.seq ?_ | refine WC.region ?_ | refine WL.nil ?_ | refine WN.then_normal ?_))
  refine WL.lit (t := 23) Tryz.underlying23 elemU8 rfl rfl rfl (by intro u hu; simp only [List.mem_cons, List.not_mem_nil, or_false] at hu; rcases hu with rfl | rfl | rfl | rfl <;> rfl) rfl fun b => ?_
  rw [be4_cells]
  refine WL.appendGrow (t := 23) Tryz.underlying23 elemU8 rfl rfl (by rw [cutA_zero]; exact .old hr) (by rw [bs_length]; omega) (.row (.head _)) rfl (by omega) (by omega) (by simp only [maxLen]; omega) rfl fun p hp => ?_
  (repeat (first | refine WL.step (Yl.assign rfl) rfl ?_ | refine WL.nil ?_ | refine WN.then_normal ?_ | refine WC.ret ?_))
  exact WN.ret1 rfl rfl ⟨p.1, p.2, hp, rfl, by rw [← bs_append]; rfl⟩ (.cons .here .nil)
def Opened (l : List UInt8) : Value → List HA → Prop := NewRow (fun s => .tuple #[s, .int .i64 ((Crc.opened l).1 : Nat)]) 5 1 (Crc.opened l).2.length (bs (Crc.opened l).2)
theorem unseal_c (a : Option Addr) (n cap : Nat) (l : List UInt8) (w : World) (hl : l.length = n) (hc : n ≤ cap) (hn : n ≤ 140737488355324) (hr : CellsAt w a (bs l)) :
    Calls Tryz.prog 153 #[.slice a n cap] w (Gives (Opened l) w) := by
  refine enter (args := [_]) Tryz.func153 Tryz.ntmps153 rfl rfl ?_
  (repeat (first | refine WL.step (Yl.move rfl) rfl ?_ | refine WL.step (Yl.assign rfl) rfl ?_ | refine WL.step (Yl.len (t := 23) Tryz.underlying23 rfl) rfl ?_ | refine WL.step (Yl.lss rfl rfl) rfl ?_ | refine WC.seq ?_ | refine WC.region ?_ | refine WL.nil ?_ | refine WN.then_normal ?_))
  refine WC.ite rfl (fun h => ?_) (fun h => ?_)
  · have e : Crc.opened l = (13, []) := if_pos (by omega)
    (repeat (first | refine WL.step (Yl.assign rfl) rfl ?_ | refine WC.seq ?_ | refine WC.region ?_ | refine WL.nil ?_ | refine WN.then_normal ?_ | refine WC.ret ?_ | refine WN.then_ret ?_))
    exact WN.ret2 rfl rfl rfl ⟨none, 0, by rw [e]; exact Nat.le_refl _, by rw [e]; rfl, by rw [e]; rfl⟩ (.free .nil)
  · have hf : (l.take (n - 4)).length = n - 4 := by simp [hl]
    have hrd : ∀ {X : Cx} {A : List HA}, X.w0 = w → X.S = [] → Rd X A (cutA a 0 cap 1) (bs (l.take (n - 4))) := fun {X A} h1 h2 => by
      obtain ⟨P, m, w0, S⟩ := X
      cases h1; cases h2
      have := Rd.cut (lo := 0) (cap := cap) (k := 1) (m := n - 4) (Rd.old (P := P) (n := m) (A := A) hr) (by rw [bs_length]; omega)
      rw [bs_take]; simpa using this
    (repeat (first | refine WL.step (Yl.move rfl) rfl ?_ | (refine WL.k_slice ?_; refine WL.step (Yl.cutTo (t := 23) Tryz.underlying23 Tryz.sizeOf5 rfl rfl (by omega)) rfl ?_) | refine WL.step (Yl.len (t := 23) Tryz.underlying23 rfl) rfl ?_ | (refine WL.k_bin .sub ?_; refine WL.step (Yl.sub64C rfl (by omega) (by omega)) rfl ?_) | refine WC.seq ?_ | refine WC.region ?_ | refine WN.then_normal ?_ | refine WC.skip ?_))
    refine WL.callR (g := 185) Tryz.call185 rfl (fun w s => clone_c _ _ _ (l.take (n - 4)) w hf (by omega) (hrd rfl rfl w s)) rfl fun p hp => ?_
    (repeat (first | refine WL.step (Yl.move rfl) rfl ?_ | refine WL.step (Yl.assign rfl) rfl ?_ | refine WC.seq ?_ | refine WC.region ?_ | refine WL.nil ?_ | refine WN.then_normal ?_))
    refine WL.callR (g := 147) Tryz.call147 rfl (fun w s => seal_c _ _ _ (l.take (n - 4)) w hf hp (by omega) (Rd.row (.head _) w s)) rfl fun p2 hp2 => ?_
    (repeat (first | refine WL.step (Yl.move rfl) rfl ?_ | (refine WL.k_call 187 ?_; refine WL.callV (g := 187) Tryz.call187 rfl (fun w s => equal_c _ _ _ _ _ _ (Crc.sealed (l.take (n - 4))) l w (by rw [Crc.sealed_length, hf]) hl (by omega) (Rd.row (.head _) w s) (Rd.old hr w s)) rfl ?_) | refine WL.step (Yl.not rfl) rfl ?_ | refine WL.nil ?_ | refine WN.then_normal ?_))
    by_cases h2 : Crc.sealed (l.take (n - 4)) = l
    · have e : Crc.opened l = (0, l.take (n - 4)) := by unfold Crc.opened; rw [if_neg (by omega), hl, if_pos h2]
      refine WC.cond_false rfl (by rw [decide_eq_true h2]; rfl) ?_
      (repeat (first | refine WL.step (Yl.move rfl) rfl ?_ | refine WL.step (Yl.assign rfl) rfl ?_ | refine WC.seq ?_ | refine WC.region ?_ | refine WL.nil ?_ | refine WN.then_normal ?_ | refine WC.skip ?_ | refine WC.ret ?_))
      exact WN.ret2 rfl rfl rfl ⟨p.1, p.2, by rw [e, hf]; exact hp, by rw [e, hf]; rfl, by rw [e]⟩ (.cons (.there .here) .nil)
    · have e : Crc.opened l = (12, []) := by unfold Crc.opened; rw [if_neg (by omega), hl, if_neg h2]
      refine WC.cond_true rfl (by rw [decide_eq_false h2]; rfl) ?_
      (repeat (first | refine WL.step (Yl.assign rfl) rfl ?_ | refine WC.seq ?_ | refine WC.region ?_ | refine WL.nil ?_ | refine WN.then_normal ?_ | refine WC.ret ?_ | refine WN.then_ret ?_))
      exact WN.ret2 rfl rfl rfl ⟨none, 0, by rw [e]; exact Nat.le_refl _, by rw [e]; rfl, by rw [e]; rfl⟩ (.free .nil)
end Go.Proofs.YtbkdjfgkebkknaaGreatDoor
namespace Go.Proofs.YtbkdjfgkebkknaaGreatDoor
set_option linter.unusedVariables false
set_option linter.unusedSimpArgs false
open Go Go.RowKit
set_option maxHeartbeats 4000000
attribute [local irreducible] WL WC WN Yl WH WQ WT
def tabCells : List Value := [.int .i64 0, .int .i64 0, .int .i64 0, .int .i64 0, .int .i64 0, .int .i64 5, .int .i64 512, .int .i64 4095, .int .i64 0, .int .i64 4095, .int .i64 1, .int .i64 0, .int .i64 0, .int .i64 1, .int .i64 4096]
def Tab (w : World) : Prop := CellsAt w (some ⟨0, 0, none⟩) tabCells
theorem fl121 : flatT Tryz.prog 121 = true := by kernel_rfl
theorem fl211 : flatT Tryz.prog 211 = true := by kernel_rfl
theorem fl206 : flatT Tryz.prog 206 = true := by kernel_rfl
theorem known_t (x : Int) (w : World) (h : 1 ≤ x ∧ x ≤ 2) : Calls Tryz.prog 151 #[.int .i64 x] w (Gives (Val (.bool true)) w) := by
  refine enter (args := [_]) Tryz.func151 Tryz.ntmps151 rfl rfl ?_
  (repeat (first | refine WL.want rfl rfl rfl ?_ | refine WL.step (Yl.move rfl) rfl ?_ | refine WL.step (Yl.assign rfl) rfl ?_ | refine WL.step (Yl.pick_t rfl rfl rfl) rfl ?_ | refine WL.step (Yl.geqT rfl rfl h.1) rfl ?_ | refine WL.step (Yl.leqT rfl rfl h.2) rfl ?_ | refine WC.seq ?_ | refine WC.region ?_ | refine WL.nil ?_ | refine WN.then_normal ?_ | refine WC.ret ?_))
  exact WN.ret1 rfl rfl ⟨rfl, rfl⟩ .nil
theorem known_f (x : Int) (w : World) (h : ¬ (1 ≤ x ∧ x ≤ 2)) : Calls Tryz.prog 151 #[.int .i64 x] w (Gives (Val (.bool false)) w) := by
  refine enter (args := [_]) Tryz.func151 Tryz.ntmps151 rfl rfl ?_
  by_cases h1 : 1 ≤ x
  · (repeat (first | refine WL.want rfl rfl rfl ?_ | refine WL.step (Yl.move rfl) rfl ?_ | refine WL.step (Yl.assign rfl) rfl ?_ | refine WL.step (Yl.pick_t rfl rfl rfl) rfl ?_ | refine WL.step (Yl.geqT rfl rfl h1) rfl ?_ | (refine WL.k_bin .leq ?_; refine WL.step (Yl.leqF rfl rfl (by omega)) rfl ?_) | refine WC.seq ?_ | refine WC.region ?_ | refine WL.nil ?_ | refine WN.then_normal ?_ | refine WC.ret ?_))
    exact WN.ret1 rfl rfl ⟨rfl, rfl⟩ .nil
  · (repeat (first | refine WL.pass rfl rfl rfl rfl ?_ | refine WL.step (Yl.move rfl) rfl ?_ | refine WL.step (Yl.assign rfl) rfl ?_ | refine WL.step (Yl.pick_f rfl rfl rfl) rfl ?_ | refine WL.step (Yl.geqF rfl rfl h1) rfl ?_ | refine WC.seq ?_ | refine WC.region ?_ | refine WL.nil ?_ | refine WN.then_normal ?_ | refine WC.ret ?_))
    exact WN.ret1 rfl rfl ⟨rfl, rfl⟩ .nil
theorem epoch_t (x : Int) (w : World) (h : Frm.Ep x) : Calls Tryz.prog 178 #[.int .i64 x] w (Gives (Val (.bool true)) w) := by
  refine enter (args := [_]) Tryz.func178 Tryz.ntmps178 rfl rfl ?_
  (repeat (first | refine WL.want rfl rfl rfl ?_ | refine WL.step (Yl.move rfl) rfl ?_ | refine WL.step (Yl.assign rfl) rfl ?_ | refine WL.step (Yl.pick_t rfl rfl rfl) rfl ?_ | refine WL.step (Yl.geqT rfl rfl h.1) rfl ?_ | refine WL.step (Yl.leqT rfl rfl h.2) rfl ?_ | refine WC.seq ?_ | refine WC.region ?_ | refine WL.nil ?_ | refine WN.then_normal ?_ | refine WC.ret ?_))
  exact WN.ret1 rfl rfl ⟨rfl, rfl⟩ .nil
theorem epoch_f (x : Int) (w : World) (h : ¬ Frm.Ep x) : Calls Tryz.prog 178 #[.int .i64 x] w (Gives (Val (.bool false)) w) := by
  refine enter (args := [_]) Tryz.func178 Tryz.ntmps178 rfl rfl ?_
  by_cases h1 : 1 ≤ x
  · (repeat (first | refine WL.want rfl rfl rfl ?_ | refine WL.step (Yl.move rfl) rfl ?_ | refine WL.step (Yl.assign rfl) rfl ?_ | refine WL.step (Yl.pick_t rfl rfl rfl) rfl ?_ | refine WL.step (Yl.geqT rfl rfl h1) rfl ?_ | (refine WL.k_bin .leq ?_; refine WL.step (Yl.leqF rfl rfl (by omega)) rfl ?_) | refine WC.seq ?_ | refine WC.region ?_ | refine WL.nil ?_ | refine WN.then_normal ?_ | refine WC.ret ?_))
    exact WN.ret1 rfl rfl ⟨rfl, rfl⟩ .nil
  · (repeat (first | refine WL.pass rfl rfl rfl rfl ?_ | refine WL.step (Yl.move rfl) rfl ?_ | refine WL.step (Yl.assign rfl) rfl ?_ | refine WL.step (Yl.pick_f rfl rfl rfl) rfl ?_ | refine WL.step (Yl.geqF rfl rfl h1) rfl ?_ | refine WC.seq ?_ | refine WC.region ?_ | refine WL.nil ?_ | refine WN.then_normal ?_ | refine WC.ret ?_))
    exact WN.ret1 rfl rfl ⟨rfl, rfl⟩ .nil
theorem within_t (x lo hi : Int) (w : World) (h : lo ≤ x ∧ x ≤ hi) : Calls Tryz.prog 179 #[.int .i64 x, .int .i64 lo, .int .i64 hi] w (Gives (Val (.bool true)) w) := by
  refine enter (args := [_, _, _]) Tryz.func179 Tryz.ntmps179 rfl rfl ?_
  (repeat (first | refine WL.want rfl rfl rfl ?_ | refine WL.step (Yl.move rfl) rfl ?_ | refine WL.step (Yl.assign rfl) rfl ?_ | refine WL.step (Yl.pick_t rfl rfl rfl) rfl ?_ | refine WL.step (Yl.geqT rfl rfl h.1) rfl ?_ | refine WL.step (Yl.leqT rfl rfl h.2) rfl ?_ | refine WC.seq ?_ | refine WC.region ?_ | refine WL.nil ?_ | refine WN.then_normal ?_ | refine WC.ret ?_))
  exact WN.ret1 rfl rfl ⟨rfl, rfl⟩ .nil
theorem within_f (x lo hi : Int) (w : World) (h : ¬ (lo ≤ x ∧ x ≤ hi)) : Calls Tryz.prog 179 #[.int .i64 x, .int .i64 lo, .int .i64 hi] w (Gives (Val (.bool false)) w) := by
  refine enter (args := [_, _, _]) Tryz.func179 Tryz.ntmps179 rfl rfl ?_
  by_cases h1 : lo ≤ x
  · (repeat (first | refine WL.want rfl rfl rfl ?_ | refine WL.step (Yl.move rfl) rfl ?_ | refine WL.step (Yl.assign rfl) rfl ?_ | refine WL.step (Yl.pick_t rfl rfl rfl) rfl ?_ | refine WL.step (Yl.geqT rfl rfl h1) rfl ?_ | (refine WL.k_bin .leq ?_; refine WL.step (Yl.leqF rfl rfl (by omega)) rfl ?_) | refine WC.seq ?_ | refine WC.region ?_ | refine WL.nil ?_ | refine WN.then_normal ?_ | refine WC.ret ?_))
    exact WN.ret1 rfl rfl ⟨rfl, rfl⟩ .nil
  · (repeat (first | refine WL.pass rfl rfl rfl rfl ?_ | refine WL.step (Yl.move rfl) rfl ?_ | refine WL.step (Yl.assign rfl) rfl ?_ | refine WL.step (Yl.pick_f rfl rfl rfl) rfl ?_ | refine WL.step (Yl.geqF rfl rfl h1) rfl ?_ | refine WC.seq ?_ | refine WC.region ?_ | refine WL.nil ?_ | refine WN.then_normal ?_ | refine WC.ret ?_))
    exact WN.ret1 rfl rfl ⟨rfl, rfl⟩ .nil
end Go.Proofs.YtbkdjfgkebkknaaGreatDoor
namespace Go.Proofs.YtbkdjfgkebkknaaGreatDoor
set_option linter.unusedVariables false
set_option linter.unusedSimpArgs false
open Go Go.RowKit
set_option maxHeartbeats 4000000
set_option maxRecDepth 100000
attribute [local irreducible] WL WC WN Yl WH WQ WT
theorem check_c (kd ep tx ix no : Int) (a : Option Addr) (n cap : Nat) (w : World) (hT : Tab w) :
    Calls Tryz.prog 144 #[.agg #[.int .i64 kd, .int .i64 ep, .int .i64 tx, .int .i64 ix, .int .i64 no, .slice a n cap]] w (Gives (Val (.int .i64 ((Frm.check kd ep tx ix no n : Nat) : Int))) w) := by
  refine enter (args := [_]) Tryz.func144 Tryz.ntmps144 rfl rfl ?_
  (repeat (first | refine WC.seq ?_ | refine WC.region ?_))
  refine WL.box rfl rfl fun b => ?_
  by_cases hk : 1 ≤ kd ∧ kd ≤ 2
  · by_cases he : Frm.Ep ep
    · by_cases ht : 1 ≤ tx ∧ tx ≤ 4294967295
      · (repeat (first | refine WL.want rfl rfl rfl ?_ | refine WL.step (Yl.move rfl) rfl ?_ | refine WL.step (Yl.assign rfl) rfl ?_ | (refine WL.k_load ?_; first | refine WL.step (Yl.loadBlk (T := 3) Tryz.isAgg3 rfl (by repeat (first | exact .head _ | refine .tail _ ?_)) (by rfl)) rfl ?_ | refine WL.step (Yl.loadBlk (T := 2) Tryz.isAgg2 rfl (by repeat (first | exact .head _ | refine .tail _ ?_)) (by rfl)) rfl ?_) | refine WL.step (Yl.fld0 (t := 121) Tryz.underlying121 fl121 rfl rfl) rfl ?_ | refine WL.step (Yl.pick_f rfl rfl rfl) rfl ?_ | refine WL.callV (g := 151) (v := .bool true) Tryz.call151 rfl (fun w _ => known_t _ w hk) rfl ?_ | refine WL.callV (g := 178) (v := .bool true) Tryz.call178 rfl (fun w _ => epoch_t _ w he) rfl ?_ | refine WL.callV (g := 179) (v := .bool true) Tryz.call179 rfl (fun w _ => within_t _ _ _ w ht) rfl ?_ | refine WL.step (Yl.not rfl) rfl ?_ | refine WC.seq ?_ | refine WC.region ?_ | refine WL.nil ?_ | refine WN.then_normal ?_))
        refine WC.cond_false rfl rfl ?_
        rcases (show kd = ((1 : Nat) : Int) ∨ kd = ((2 : Nat) : Int) by omega) with rfl | rfl
        · (repeat (first | (refine WL.k_load ?_; first | refine WL.step (Yl.loadBlk (T := 3) Tryz.isAgg3 rfl (by repeat (first | exact .head _ | refine .tail _ ?_)) (by rfl)) rfl ?_ | refine WL.step (Yl.loadAggRd (T := 211) (us := [.int .i64 5, .int .i64 512, .int .i64 4095, .int .i64 0, .int .i64 4095]) Tryz.isAgg211 Tryz.sizeOf211 rfl (Rd.old hT) rfl rfl) rfl ?_) | refine WL.step (Yl.fld0 (t := 121) Tryz.underlying121 fl121 rfl rfl) rfl ?_ | (refine WL.k_idxa ?_; refine WL.step (Yl.indexArr (t := 212) Tryz.underlying212 Tryz.sizeOf211 rfl rfl (by decide)) rfl ?_) | refine WC.seq ?_ | refine WC.region ?_ | refine WN.then_normal ?_ | refine WC.skip ?_))
          refine WL.alloc (T := 211) Tryz.zeroValue211 rfl fun c => ?_
          refine WL.storeWhole (T := 211) (k := 5) Tryz.sizeOf211 rfl rfl rfl .here rfl rfl ?_
          by_cases h1 : 0 ≤ ix ∧ ix ≤ 4095
          · by_cases h2 : 0 ≤ no ∧ no ≤ 4095
            · by_cases h3 : n = 512
              · have e : Frm.check ((1 : Nat) : Int) ep tx ix no n = 0 := by unfold Frm.check; rw [if_pos]; exact ⟨he, ht.1, ht.2, .inl ⟨rfl, h1.1, h1.2, h2.1, h2.2, h3⟩⟩
                rw [e]
                (repeat (first | refine WL.want rfl rfl rfl ?_ | refine WL.step (Yl.move rfl) rfl ?_ | (refine WL.k_load ?_; first | refine WL.step (Yl.loadBlk (T := 3) Tryz.isAgg3 rfl (by repeat (first | exact .head _ | refine .tail _ ?_)) (by rfl)) rfl ?_ | refine WL.step (Yl.loadBlk (T := 23) Tryz.isAgg23 rfl (by repeat (first | exact .head _ | refine .tail _ ?_)) (by rfl)) rfl ?_) | (refine WL.k_fld ?_; first | refine WL.step (Yl.fld0 (t := 121) Tryz.underlying121 fl121 rfl rfl) rfl ?_ | refine WL.step (Yl.fld0 (t := 211) Tryz.underlying211 fl211 rfl rfl) rfl ?_) | refine WL.step (Yl.pick_f rfl rfl rfl) rfl ?_ | (refine WL.k_call 179 ?_; refine WL.callV (g := 179) (v := .bool true) Tryz.call179 rfl (fun w _ => within_t _ _ _ w (by omega)) rfl ?_) | (refine WL.k_bin .neq ?_; refine WL.step (Yl.neqF rfl rfl (by omega)) rfl ?_) | refine WL.step (Yl.len (t := 23) Tryz.underlying23 rfl) rfl ?_ | refine WL.step (Yl.not rfl) rfl ?_ | refine WC.seq ?_ | refine WC.region ?_ | refine WL.nil ?_ | refine WN.then_normal ?_))
                refine WC.cond_false rfl rfl ?_
                (repeat (first | refine WL.step (Yl.assign rfl) rfl ?_ | refine WC.seq ?_ | refine WC.region ?_ | refine WL.nil ?_ | refine WN.then_normal ?_ | refine WC.skip ?_ | refine WC.ret ?_))
                exact WN.ret1 rfl rfl ⟨rfl, rfl⟩ .nil
              · have e : Frm.check ((1 : Nat) : Int) ep tx ix no n = 2 := by unfold Frm.check; rw [if_neg]; omega
                rw [e]
                (repeat (first | refine WL.want rfl rfl rfl ?_ | refine WL.step (Yl.move rfl) rfl ?_ | (refine WL.k_load ?_; first | refine WL.step (Yl.loadBlk (T := 3) Tryz.isAgg3 rfl (by repeat (first | exact .head _ | refine .tail _ ?_)) (by rfl)) rfl ?_ | refine WL.step (Yl.loadBlk (T := 23) Tryz.isAgg23 rfl (by repeat (first | exact .head _ | refine .tail _ ?_)) (by rfl)) rfl ?_) | (refine WL.k_fld ?_; first | refine WL.step (Yl.fld0 (t := 121) Tryz.underlying121 fl121 rfl rfl) rfl ?_ | refine WL.step (Yl.fld0 (t := 211) Tryz.underlying211 fl211 rfl rfl) rfl ?_) | refine WL.step (Yl.pick_f rfl rfl rfl) rfl ?_ | (refine WL.k_call 179 ?_; refine WL.callV (g := 179) (v := .bool true) Tryz.call179 rfl (fun w _ => within_t _ _ _ w (by omega)) rfl ?_) | (refine WL.k_bin .neq ?_; refine WL.step (Yl.neqT rfl rfl (by omega)) rfl ?_) | refine WL.step (Yl.len (t := 23) Tryz.underlying23 rfl) rfl ?_ | refine WL.step (Yl.not rfl) rfl ?_ | refine WC.seq ?_ | refine WC.region ?_ | refine WL.nil ?_ | refine WN.then_normal ?_))
                refine WC.cond_true rfl rfl ?_
                (repeat (first | refine WL.step (Yl.assign rfl) rfl ?_ | refine WC.seq ?_ | refine WC.region ?_ | refine WL.nil ?_ | refine WN.then_normal ?_ | refine WC.ret ?_ | refine WN.then_ret ?_))
                exact WN.ret1 rfl rfl ⟨rfl, rfl⟩ .nil
            · have e : Frm.check ((1 : Nat) : Int) ep tx ix no n = 2 := by unfold Frm.check; rw [if_neg]; omega
              rw [e]
              (repeat (first | (refine WL.kG ?_; first | refine WL.want rfl rfl rfl ?_ | refine WL.pass rfl rfl rfl rfl ?_) | refine WL.step (Yl.move rfl) rfl ?_ | (refine WL.k_load ?_; refine WL.step (Yl.loadBlk (T := 3) Tryz.isAgg3 rfl (by repeat (first | exact .head _ | refine .tail _ ?_)) (by rfl)) rfl ?_) | (refine WL.k_fld ?_; first | refine WL.step (Yl.fld0 (t := 121) Tryz.underlying121 fl121 rfl rfl) rfl ?_ | refine WL.step (Yl.fld0 (t := 211) Tryz.underlying211 fl211 rfl rfl) rfl ?_) | (refine WL.k_pick ?_; first | refine WL.step (Yl.pick_t rfl rfl rfl) rfl ?_ | refine WL.step (Yl.pick_f rfl rfl rfl) rfl ?_) | (refine WL.k_call 179 ?_; first | refine WL.callV (g := 179) (v := .bool true) Tryz.call179 rfl (fun w _ => within_t _ _ _ w h1) rfl ?_ | refine WL.callV (g := 179) (v := .bool false) Tryz.call179 rfl (fun w _ => within_f _ _ _ w h2) rfl ?_) | refine WL.step (Yl.not rfl) rfl ?_ | refine WC.seq ?_ | refine WC.region ?_ | refine WL.nil ?_ | refine WN.then_normal ?_))
              refine WC.cond_true rfl rfl ?_
              (repeat (first | refine WL.step (Yl.assign rfl) rfl ?_ | refine WC.seq ?_ | refine WC.region ?_ | refine WL.nil ?_ | refine WN.then_normal ?_ | refine WC.ret ?_ | refine WN.then_ret ?_))
              exact WN.ret1 rfl rfl ⟨rfl, rfl⟩ .nil
          · have e : Frm.check ((1 : Nat) : Int) ep tx ix no n = 2 := by unfold Frm.check; rw [if_neg]; omega
            rw [e]
            (repeat (first | refine WL.pass rfl rfl rfl rfl ?_ | refine WL.step (Yl.move rfl) rfl ?_ | (refine WL.k_load ?_; refine WL.step (Yl.loadBlk (T := 3) Tryz.isAgg3 rfl (by repeat (first | exact .head _ | refine .tail _ ?_)) (by rfl)) rfl ?_) | (refine WL.k_fld ?_; first | refine WL.step (Yl.fld0 (t := 121) Tryz.underlying121 fl121 rfl rfl) rfl ?_ | refine WL.step (Yl.fld0 (t := 211) Tryz.underlying211 fl211 rfl rfl) rfl ?_) | refine WL.step (Yl.pick_t rfl rfl rfl) rfl ?_ | refine WL.callV (g := 179) (v := .bool false) Tryz.call179 rfl (fun w _ => within_f _ _ _ w h1) rfl ?_ | refine WL.step (Yl.not rfl) rfl ?_ | refine WC.seq ?_ | refine WC.region ?_ | refine WL.nil ?_ | refine WN.then_normal ?_))
            refine WC.cond_true rfl rfl ?_
            (repeat (first | refine WL.step (Yl.assign rfl) rfl ?_ | refine WC.seq ?_ | refine WC.region ?_ | refine WL.nil ?_ | refine WN.then_normal ?_ | refine WC.ret ?_ | refine WN.then_ret ?_))
            exact WN.ret1 rfl rfl ⟨rfl, rfl⟩ .nil
        · (repeat (first | (refine WL.k_load ?_; first | refine WL.step (Yl.loadBlk (T := 3) Tryz.isAgg3 rfl (by repeat (first | exact .head _ | refine .tail _ ?_)) (by rfl)) rfl ?_ | refine WL.step (Yl.loadAggRd (T := 211) (us := [.int .i64 1, .int .i64 0, .int .i64 0, .int .i64 1, .int .i64 4096]) Tryz.isAgg211 Tryz.sizeOf211 rfl (Rd.old hT) rfl rfl) rfl ?_) | refine WL.step (Yl.fld0 (t := 121) Tryz.underlying121 fl121 rfl rfl) rfl ?_ | (refine WL.k_idxa ?_; refine WL.step (Yl.indexArr (t := 212) Tryz.underlying212 Tryz.sizeOf211 rfl rfl (by decide)) rfl ?_) | refine WC.seq ?_ | refine WC.region ?_ | refine WN.then_normal ?_ | refine WC.skip ?_))
          refine WL.alloc (T := 211) Tryz.zeroValue211 rfl fun c => ?_
          refine WL.storeWhole (T := 211) (k := 5) Tryz.sizeOf211 rfl rfl rfl .here rfl rfl ?_
          by_cases h1 : 0 ≤ ix ∧ ix ≤ 0
          · by_cases h2 : 1 ≤ no ∧ no ≤ 4096
            · by_cases h3 : n = 0
              · have e : Frm.check ((2 : Nat) : Int) ep tx ix no n = 0 := by unfold Frm.check; rw [if_pos]; exact ⟨he, ht.1, ht.2, .inr ⟨rfl, by omega, h2.1, h2.2, h3⟩⟩
                rw [e]
                (repeat (first | refine WL.want rfl rfl rfl ?_ | refine WL.step (Yl.move rfl) rfl ?_ | (refine WL.k_load ?_; first | refine WL.step (Yl.loadBlk (T := 3) Tryz.isAgg3 rfl (by repeat (first | exact .head _ | refine .tail _ ?_)) (by rfl)) rfl ?_ | refine WL.step (Yl.loadBlk (T := 23) Tryz.isAgg23 rfl (by repeat (first | exact .head _ | refine .tail _ ?_)) (by rfl)) rfl ?_) | (refine WL.k_fld ?_; first | refine WL.step (Yl.fld0 (t := 121) Tryz.underlying121 fl121 rfl rfl) rfl ?_ | refine WL.step (Yl.fld0 (t := 211) Tryz.underlying211 fl211 rfl rfl) rfl ?_) | refine WL.step (Yl.pick_f rfl rfl rfl) rfl ?_ | (refine WL.k_call 179 ?_; refine WL.callV (g := 179) (v := .bool true) Tryz.call179 rfl (fun w _ => within_t _ _ _ w (by omega)) rfl ?_) | (refine WL.k_bin .neq ?_; refine WL.step (Yl.neqF rfl rfl (by omega)) rfl ?_) | refine WL.step (Yl.len (t := 23) Tryz.underlying23 rfl) rfl ?_ | refine WL.step (Yl.not rfl) rfl ?_ | refine WC.seq ?_ | refine WC.region ?_ | refine WL.nil ?_ | refine WN.then_normal ?_))
                refine WC.cond_false rfl rfl ?_
                (repeat (first | refine WL.step (Yl.assign rfl) rfl ?_ | refine WC.seq ?_ | refine WC.region ?_ | refine WL.nil ?_ | refine WN.then_normal ?_ | refine WC.skip ?_ | refine WC.ret ?_))
                exact WN.ret1 rfl rfl ⟨rfl, rfl⟩ .nil
              · have e : Frm.check ((2 : Nat) : Int) ep tx ix no n = 2 := by unfold Frm.check; rw [if_neg]; omega
                rw [e]
                (repeat (first | refine WL.want rfl rfl rfl ?_ | refine WL.step (Yl.move rfl) rfl ?_ | (refine WL.k_load ?_; first | refine WL.step (Yl.loadBlk (T := 3) Tryz.isAgg3 rfl (by repeat (first | exact .head _ | refine .tail _ ?_)) (by rfl)) rfl ?_ | refine WL.step (Yl.loadBlk (T := 23) Tryz.isAgg23 rfl (by repeat (first | exact .head _ | refine .tail _ ?_)) (by rfl)) rfl ?_) | (refine WL.k_fld ?_; first | refine WL.step (Yl.fld0 (t := 121) Tryz.underlying121 fl121 rfl rfl) rfl ?_ | refine WL.step (Yl.fld0 (t := 211) Tryz.underlying211 fl211 rfl rfl) rfl ?_) | refine WL.step (Yl.pick_f rfl rfl rfl) rfl ?_ | (refine WL.k_call 179 ?_; refine WL.callV (g := 179) (v := .bool true) Tryz.call179 rfl (fun w _ => within_t _ _ _ w (by omega)) rfl ?_) | (refine WL.k_bin .neq ?_; refine WL.step (Yl.neqT rfl rfl (by omega)) rfl ?_) | refine WL.step (Yl.len (t := 23) Tryz.underlying23 rfl) rfl ?_ | refine WL.step (Yl.not rfl) rfl ?_ | refine WC.seq ?_ | refine WC.region ?_ | refine WL.nil ?_ | refine WN.then_normal ?_))
                refine WC.cond_true rfl rfl ?_
                (repeat (first | refine WL.step (Yl.assign rfl) rfl ?_ | refine WC.seq ?_ | refine WC.region ?_ | refine WL.nil ?_ | refine WN.then_normal ?_ | refine WC.ret ?_ | refine WN.then_ret ?_))
                exact WN.ret1 rfl rfl ⟨rfl, rfl⟩ .nil
            · have e : Frm.check ((2 : Nat) : Int) ep tx ix no n = 2 := by unfold Frm.check; rw [if_neg]; omega
              rw [e]
              (repeat (first | (refine WL.kG ?_; first | refine WL.want rfl rfl rfl ?_ | refine WL.pass rfl rfl rfl rfl ?_) | refine WL.step (Yl.move rfl) rfl ?_ | (refine WL.k_load ?_; refine WL.step (Yl.loadBlk (T := 3) Tryz.isAgg3 rfl (by repeat (first | exact .head _ | refine .tail _ ?_)) (by rfl)) rfl ?_) | (refine WL.k_fld ?_; first | refine WL.step (Yl.fld0 (t := 121) Tryz.underlying121 fl121 rfl rfl) rfl ?_ | refine WL.step (Yl.fld0 (t := 211) Tryz.underlying211 fl211 rfl rfl) rfl ?_) | (refine WL.k_pick ?_; first | refine WL.step (Yl.pick_t rfl rfl rfl) rfl ?_ | refine WL.step (Yl.pick_f rfl rfl rfl) rfl ?_) | (refine WL.k_call 179 ?_; first | refine WL.callV (g := 179) (v := .bool true) Tryz.call179 rfl (fun w _ => within_t _ _ _ w h1) rfl ?_ | refine WL.callV (g := 179) (v := .bool false) Tryz.call179 rfl (fun w _ => within_f _ _ _ w h2) rfl ?_) | refine WL.step (Yl.not rfl) rfl ?_ | refine WC.seq ?_ | refine WC.region ?_ | refine WL.nil ?_ | refine WN.then_normal ?_))
              refine WC.cond_true rfl rfl ?_
              (repeat (first | refine WL.step (Yl.assign rfl) rfl ?_ | refine WC.seq ?_ | refine WC.region ?_ | refine WL.nil ?_ | refine WN.then_normal ?_ | refine WC.ret ?_ | refine WN.then_ret ?_))
              exact WN.ret1 rfl rfl ⟨rfl, rfl⟩ .nil
          · have e : Frm.check ((2 : Nat) : Int) ep tx ix no n = 2 := by unfold Frm.check; rw [if_neg]; omega
            rw [e]
            (repeat (first | refine WL.pass rfl rfl rfl rfl ?_ | refine WL.step (Yl.move rfl) rfl ?_ | (refine WL.k_load ?_; refine WL.step (Yl.loadBlk (T := 3) Tryz.isAgg3 rfl (by repeat (first | exact .head _ | refine .tail _ ?_)) (by rfl)) rfl ?_) | (refine WL.k_fld ?_; first | refine WL.step (Yl.fld0 (t := 121) Tryz.underlying121 fl121 rfl rfl) rfl ?_ | refine WL.step (Yl.fld0 (t := 211) Tryz.underlying211 fl211 rfl rfl) rfl ?_) | refine WL.step (Yl.pick_t rfl rfl rfl) rfl ?_ | refine WL.callV (g := 179) (v := .bool false) Tryz.call179 rfl (fun w _ => within_f _ _ _ w h1) rfl ?_ | refine WL.step (Yl.not rfl) rfl ?_ | refine WC.seq ?_ | refine WC.region ?_ | refine WL.nil ?_ | refine WN.then_normal ?_))
            refine WC.cond_true rfl rfl ?_
            (repeat (first | refine WL.step (Yl.assign rfl) rfl ?_ | refine WC.seq ?_ | refine WC.region ?_ | refine WL.nil ?_ | refine WN.then_normal ?_ | refine WC.ret ?_ | refine WN.then_ret ?_))
            exact WN.ret1 rfl rfl ⟨rfl, rfl⟩ .nil
      · have e : Frm.check kd ep tx ix no n = 2 := by unfold Frm.check; rw [if_neg]; omega
        rw [e]
        (repeat (first | refine WL.want rfl rfl rfl ?_ | refine WL.step (Yl.move rfl) rfl ?_ | refine WL.step (Yl.assign rfl) rfl ?_ | (refine WL.k_load ?_; first | refine WL.step (Yl.loadBlk (T := 3) Tryz.isAgg3 rfl (by repeat (first | exact .head _ | refine .tail _ ?_)) (by rfl)) rfl ?_ | refine WL.step (Yl.loadBlk (T := 2) Tryz.isAgg2 rfl (by repeat (first | exact .head _ | refine .tail _ ?_)) (by rfl)) rfl ?_) | refine WL.step (Yl.fld0 (t := 121) Tryz.underlying121 fl121 rfl rfl) rfl ?_ | refine WL.step (Yl.pick_f rfl rfl rfl) rfl ?_ | refine WL.callV (g := 151) (v := .bool true) Tryz.call151 rfl (fun w _ => known_t _ w hk) rfl ?_ | refine WL.callV (g := 178) (v := .bool true) Tryz.call178 rfl (fun w _ => epoch_t _ w he) rfl ?_ | refine WL.callV (g := 179) (v := .bool false) Tryz.call179 rfl (fun w _ => within_f _ _ _ w ht) rfl ?_ | refine WL.step (Yl.not rfl) rfl ?_ | refine WC.seq ?_ | refine WC.region ?_ | refine WL.nil ?_ | refine WN.then_normal ?_))
        refine WC.cond_true rfl rfl ?_
        (repeat (first | refine WL.step (Yl.assign rfl) rfl ?_ | refine WC.seq ?_ | refine WC.region ?_ | refine WL.nil ?_ | refine WN.then_normal ?_ | refine WC.ret ?_ | refine WN.then_ret ?_))
        exact WN.ret1 rfl rfl ⟨rfl, rfl⟩ .nil
    · have e : Frm.check kd ep tx ix no n = 2 := by unfold Frm.check; rw [if_neg]; exact fun h => he h.1
      rw [e]
      (repeat (first | (refine WL.kG ?_; first | refine WL.want rfl rfl rfl ?_ | refine WL.pass rfl rfl rfl rfl ?_) | refine WL.step (Yl.move rfl) rfl ?_ | refine WL.step (Yl.assign rfl) rfl ?_ | (refine WL.k_load ?_; first | refine WL.step (Yl.loadBlk (T := 3) Tryz.isAgg3 rfl (by repeat (first | exact .head _ | refine .tail _ ?_)) (by rfl)) rfl ?_ | refine WL.step (Yl.loadBlk (T := 2) Tryz.isAgg2 rfl (by repeat (first | exact .head _ | refine .tail _ ?_)) (by rfl)) rfl ?_) | refine WL.step (Yl.fld0 (t := 121) Tryz.underlying121 fl121 rfl rfl) rfl ?_ | (refine WL.k_pick ?_; first | refine WL.step (Yl.pick_t rfl rfl rfl) rfl ?_ | refine WL.step (Yl.pick_f rfl rfl rfl) rfl ?_) | refine WL.callV (g := 151) (v := .bool true) Tryz.call151 rfl (fun w _ => known_t _ w hk) rfl ?_ | refine WL.callV (g := 178) (v := .bool false) Tryz.call178 rfl (fun w _ => epoch_f _ w he) rfl ?_ | refine WL.step (Yl.not rfl) rfl ?_ | refine WC.seq ?_ | refine WC.region ?_ | refine WL.nil ?_ | refine WN.then_normal ?_))
      refine WC.cond_true rfl rfl ?_
      (repeat (first | refine WL.step (Yl.assign rfl) rfl ?_ | refine WC.seq ?_ | refine WC.region ?_ | refine WL.nil ?_ | refine WN.then_normal ?_ | refine WC.ret ?_ | refine WN.then_ret ?_))
      exact WN.ret1 rfl rfl ⟨rfl, rfl⟩ .nil
  · have e : Frm.check kd ep tx ix no n = 2 := by unfold Frm.check; rw [if_neg]; omega
    rw [e]
    (repeat (first | refine WL.pass rfl rfl rfl rfl ?_ | refine WL.step (Yl.move rfl) rfl ?_ | refine WL.step (Yl.assign rfl) rfl ?_ | (refine WL.k_load ?_; refine WL.step (Yl.loadBlk (T := 3) Tryz.isAgg3 rfl (by repeat (first | exact .head _ | refine .tail _ ?_)) (by rfl)) rfl ?_) | refine WL.step (Yl.fld0 (t := 121) Tryz.underlying121 fl121 rfl rfl) rfl ?_ | refine WL.step (Yl.pick_t rfl rfl rfl) rfl ?_ | refine WL.callV (g := 151) (v := .bool false) Tryz.call151 rfl (fun w _ => known_f _ w hk) rfl ?_ | refine WL.step (Yl.not rfl) rfl ?_ | refine WC.seq ?_ | refine WC.region ?_ | refine WL.nil ?_ | refine WN.then_normal ?_))
    refine WC.cond_true rfl rfl ?_
    (repeat (first | refine WL.step (Yl.assign rfl) rfl ?_ | refine WC.seq ?_ | refine WC.region ?_ | refine WL.nil ?_ | refine WN.then_normal ?_ | refine WC.ret ?_ | refine WN.then_ret ?_))
    exact WN.ret1 rfl rfl ⟨rfl, rfl⟩ .nil
end Go.Proofs.YtbkdjfgkebkknaaGreatDoor
namespace Go.Proofs.YtbkdjfgkebkknaaGreatDoor.Big
set_option linter.unusedVariables false
set_option linter.unusedSimpArgs false
theorem val_be (k x : Nat) (h : x < 256 ^ k) : val 0 (be k x) = x := by
  have key : ∀ (k y x : Nat), val y (be k x) = y * 256 ^ k + x % 256 ^ k := by
    intro k
    induction k with
    | zero => intro y x; simp [val, be, Nat.mod_one]
    | succ k ih =>
      intro y x
      have hp : 0 < 256 ^ k := Nat.pow_pos (by decide)
      have h1 : val y (be (k + 1) x) = val (y * 256 + (UInt8.ofNat (x / 256 ^ k)).toNat) (be k x) := rfl
      rw [h1, ih, UInt8.toNat_ofNat', show (256 : Nat) ^ (k + 1) = 256 ^ k * 256 from Nat.pow_succ .., Nat.mod_mul, show (2 : Nat) ^ 8 = 256 from rfl]
      rw [Nat.add_mul, Nat.mul_assoc, Nat.mul_comm 256 (256 ^ k), Nat.mul_comm (x / 256 ^ k % 256)]
      omega
  rw [key, Nat.mod_eq_of_lt h]; omega
theorem val_add (l : List UInt8) : ∀ (y : Nat), val y l = y * 256 ^ l.length + val 0 l := by
  induction l with
  | nil => intro y; simp [val]
  | cons c l ih =>
    intro y
    have h1 : ∀ y, val y (c :: l) = val (y * 256 + c.toNat) l := fun _ => rfl
    rw [h1, h1, ih (y * 256 + c.toNat), ih (0 * 256 + c.toNat), Nat.zero_mul, Nat.zero_add, List.length_cons, Nat.pow_succ, Nat.add_mul, Nat.mul_assoc, Nat.mul_comm 256 (256 ^ l.length)]
    omega
theorem val_one (c : UInt8) (l : List UInt8) : val 0 (c :: l) = c.toNat * 256 ^ l.length + val 0 l := by
  have h1 : val 0 (c :: l) = val (0 * 256 + c.toNat) l := rfl
  rw [h1, val_add, Nat.zero_mul, Nat.zero_add]
theorem be_mod (n : Nat) : ∀ (y v : Nat), be n (y * 256 ^ n + v) = be n v := by
  induction n with
  | zero => intro y v; rfl
  | succ n ih =>
    intro y v
    have hp : 0 < 256 ^ n := Nat.pow_pos (by decide)
    have e : y * 256 ^ (n + 1) + v = (y * 256) * 256 ^ n + v := by rw [Nat.pow_succ, Nat.mul_assoc, Nat.mul_comm 256]
    have h1 : be (n + 1) (y * 256 ^ (n + 1) + v) = UInt8.ofNat ((y * 256 ^ (n + 1) + v) / 256 ^ n) :: be n (y * 256 ^ (n + 1) + v) := rfl
    have h2 : be (n + 1) v = UInt8.ofNat (v / 256 ^ n) :: be n v := rfl
    have h3 : UInt8.ofNat (y * 256 + v / 256 ^ n) = UInt8.ofNat (v / 256 ^ n) := by
      apply UInt8.toNat_inj.1
      rw [UInt8.toNat_ofNat', UInt8.toNat_ofNat', show (2 : Nat) ^ 8 = 256 from rfl]; omega
    rw [h1, h2, e, ih (y * 256) v, Nat.add_comm, Nat.add_mul_div_right _ _ hp, Nat.add_comm, h3]
theorem be_val (l : List UInt8) : be l.length (val 0 l) = l := by
  induction l with
  | nil => rfl
  | cons c l ih =>
    have hp : 0 < 256 ^ l.length := Nat.pow_pos (by decide)
    have hlt := val_lt l
    rw [val_one, List.length_cons]
    have h1 : be (l.length + 1) (c.toNat * 256 ^ l.length + val 0 l) = UInt8.ofNat ((c.toNat * 256 ^ l.length + val 0 l) / 256 ^ l.length) :: be l.length (c.toNat * 256 ^ l.length + val 0 l) := rfl
    rw [h1, be_mod, ih, Nat.add_comm, Nat.add_mul_div_right _ _ hp, Nat.div_eq_of_lt hlt, Nat.zero_add]
    congr 1
    exact UInt8.ofNat_toNat
theorem be_eq {l : List UInt8} {k x : Nat} (hl : l.length = k) (hx : x < 256 ^ k) : l = be k x ↔ val 0 l = x := by
  constructor
  · rintro rfl; exact val_be k x hx
  · rintro rfl; subst hl; exact (be_val l).symm
end Go.Proofs.YtbkdjfgkebkknaaGreatDoor.Big
namespace Go.Proofs.YtbkdjfgkebkknaaGreatDoor
set_option linter.unusedVariables false
set_option linter.unusedSimpArgs false
open Go Go.RowKit
set_option maxRecDepth 100000
theorem append_v (a : Option Addr) (n cap : Nat) (l u : List UInt8) (x e : Nat) (wd : Int) (w : World) (hl : l.length = n) (hn : n ≤ 140737488355000) (hx : x < 18446744073709551616) (hr : CellsAt w a (bs l)) (h : Big.appended l x wd = (e, u)) :
    Calls Tryz.prog 146 #[.slice a n cap, .int .u64 (x : Int), .int .i64 wd] w (Gives (NewRow (fun s => .tuple #[s, .int .i64 (e : Int)]) 5 1 u.length (bs u)) w) := by
  have := append_c a n cap l x wd w hl hn hx hr
  rw [Appended, h] at this
  exact this
theorem uint_v (a : Option Addr) (n cap : Nat) (l : List UInt8) (at_ wd : Int) (p : Nat × Nat) (w : World) (hl : l.length = n) (hn : n ≤ 140737488355000) (hat : -9223372036854775808 ≤ at_ ∧ at_ ≤ 9223372036854775807) (hr : CellsAt w a (bs l)) (h : Big.uintAt l at_ wd = p) :
    Calls Tryz.prog 152 #[.slice a n cap, .int .i64 at_, .int .i64 wd] w (Gives (Val (two p)) w) := h ▸ uint_c a n cap l at_ wd w hl hn hat hr
end Go.Proofs.YtbkdjfgkebkknaaGreatDoor
namespace Go.Proofs.YtbkdjfgkebkknaaGreatDoor
set_option linter.unusedVariables false
set_option linter.unusedSimpArgs false
open Go Go.RowKit
set_option maxHeartbeats 4000000
set_option maxRecDepth 100000
attribute [local irreducible] WL WC WN Yl WH WQ WT Big.be Frm.stamp
abbrev Slc (T : TypeId) (r : Nat × List UInt8) : Value → List HA → Prop := NewRow (fun s => .tuple #[s, .int .i64 ((r.1 : Nat) : Int)]) T 1 r.2.length (bs r.2)
theorem Slc.none (T : TypeId) (e : Nat) : Slc T (e, []) (.tuple #[.slice none 0 0, .int .i64 (e : Int)]) [.row none 0 T 1 []] := ⟨_, 0, Nat.le_refl _, rfl, rfl⟩
theorem zeroBlock (w : World) : (zeroValue 150).run Tryz.prog w = .ok (.agg (bs (List.replicate 128 0)).toArray) w := by
  have h : (Tryz.prog.info? 150).map (fun i => i.zero) = some (some (.agg (bs (List.replicate 128 0)).toArray)) := by kernel_rfl
  exact zero_of h w
theorem bs_put (l m : List UInt8) (k : Nat) : (bs l).take k ++ bs m ++ (bs l).drop (k + (bs m).length) = bs (l.take k ++ m ++ l.drop (k + m.length)) := by
  simp only [bs, List.map_append, List.map_take, List.map_drop, List.length_map]
theorem put1 {m : List UInt8} (hm : m.length = 8) : (List.replicate 128 (0 : UInt8)).take 0 ++ m ++ (List.replicate 128 0).drop (0 + m.length) = m ++ List.replicate 120 0 := by
  simp [hm]
theorem put2 {m d : List UInt8} (hm : m.length = 8) : (m ++ List.replicate 120 0).take 8 ++ d ++ (m ++ List.replicate 120 0).drop (8 + d.length) = m ++ d ++ List.replicate (120 - d.length) 0 := by
  rw [List.take_append_of_le_length (by omega), List.take_of_length_le (by omega), ← List.drop_drop, ← hm, List.drop_left, List.drop_replicate]
theorem put3 {m d : List UInt8} (hm : m.length = 8) (hd : d.length ≤ 112) : (m ++ d ++ List.replicate (120 - d.length) 0).take 120 ++ m ++ (m ++ d ++ List.replicate (120 - d.length) 0).drop (120 + m.length) = m ++ d ++ List.replicate (112 - d.length) 0 ++ m := by
  have h1 : (m ++ d ++ List.replicate (120 - d.length) 0).drop (120 + m.length) = [] := List.drop_eq_nil_of_le (by simp; omega)
  have h2 : (m ++ d ++ List.replicate (120 - d.length) (0 : UInt8)).take 120 = m ++ d ++ List.replicate (112 - d.length) 0 := by
    rw [List.take_append, List.take_of_length_le (by simp; omega), List.take_replicate]
    congr 2
    simp; omega
  rw [h1, h2, List.append_nil]
theorem app8 {X : Nat} (h : X < 18446744073709551616) : Big.appended [] X 8 = (0, Big.be 8 X) := by
  unfold Big.appended
  rw [if_neg (by decide), if_neg (by show ¬ 18446744073709551616 ≤ X; omega)]; rfl
theorem stamp_c (x : Int) (a : Option Addr) (n cap : Nat) (l : List UInt8) (w : World) (hl : l.length = n) (hr : CellsAt w a (bs l)) :
    Calls Tryz.prog 148 #[.int .i64 x, .slice a n cap] w (Gives (Slc 150 (Frm.stamped x l)) w) := by
  refine enter (args := [_, _]) Tryz.func148 Tryz.ntmps148 rfl rfl ?_
  by_cases he : Frm.Ep x
  · by_cases hd : l.length ≤ 112
    · have e : Frm.stamped x l = (0, Frm.stamp x l) := if_pos ⟨he, hd⟩
      rw [e]
      obtain ⟨X, rfl⟩ : ∃ X : Nat, x = (X : Int) := ⟨x.toNat, by omega⟩
      have hX : X < 18446744073709551616 := by omega
      have hb8 := Big.be_length 8 X
      (repeat (first | refine WL.want rfl rfl rfl ?_ | refine WL.step (Yl.move rfl) rfl ?_ | refine WL.step (Yl.assign rfl) rfl ?_ | refine WL.step (Yl.pick_f rfl rfl rfl) rfl ?_ | refine WL.callV (g := 178) (v := .bool true) Tryz.call178 rfl (fun w _ => epoch_t _ w he) rfl ?_ | (refine WL.k_bin .gtr ?_; refine WL.step (Yl.gtrF rfl rfl (by omega)) rfl ?_) | refine WL.step (Yl.len (t := 23) Tryz.underlying23 rfl) rfl ?_ | refine WL.step (Yl.not rfl) rfl ?_ | refine WC.seq ?_ | refine WC.region ?_ | refine WL.nil ?_ | refine WN.then_normal ?_))
      refine WC.cond_false rfl rfl ?_
      (repeat (first | refine WC.seq ?_ | refine WC.region ?_ | refine WN.then_normal ?_ | refine WC.skip ?_))
      refine WL.alloc zeroBlock rfl fun b => ?_
      (repeat (first | refine WL.step (Yl.move rfl) rfl ?_ | (refine WL.k_conv ?_; refine WL.step (Yl.convLt (s := 2) (t := 49) Tryz.underlying2 Tryz.underlying49 rfl rfl (by show _ < 18446744073709551616; omega)) rfl ?_) | refine WC.seq ?_ | refine WC.region ?_ | refine WL.nil ?_ | refine WN.then_normal ?_))
      refine WL.callR (g := 146) Tryz.call146 rfl (fun w _ => append_v none 0 0 [] (Big.be 8 X) X 0 8 w rfl (by omega) hX (CellsAt.nil _ _) (app8 hX)) rfl fun p hp => ?_
      (repeat (first | refine WL.step (Yl.move rfl) rfl ?_ | refine WL.step (Yl.assign rfl) rfl ?_ | refine WL.step (Yl.extract rfl rfl) rfl ?_ | refine WL.step (Yl.arrAll (t := 150) Tryz.underlying150 Tryz.sizeOf5 rfl) rfl ?_ | refine WC.seq ?_ | refine WC.region ?_ | refine WL.nil ?_ | refine WN.then_normal ?_))
      refine WL.copy (t := 23) (cs := bs (List.replicate 128 0)) (vs := bs (Big.be 8 X)) Tryz.underlying23 (by kernel_rfl) rfl rfl (.there .here) (Rd.row (.head _)) (by rw [bs_length]; omega) (by rw [bs_length, bs_length, List.length_replicate]; omega) (bs_one _) rfl ?_
      rw [bs_put, put1 hb8]
      (repeat (first | refine WL.step (Yl.move rfl) rfl ?_ | (refine WL.k_slice ?_; refine WL.step (Yl.arrFrom (t := 150) (lo := 8) Tryz.underlying150 Tryz.sizeOf5 rfl rfl (by decide)) rfl ?_) | refine WC.seq ?_ | refine WC.region ?_ | refine WL.nil ?_ | refine WN.then_normal ?_))
      refine WL.copy (t := 23) (cs := bs (Big.be 8 X ++ List.replicate 120 0)) (vs := bs l) Tryz.underlying23 (by kernel_rfl) rfl rfl .here (Rd.old hr) (by rw [bs_length]; omega) (by rw [bs_length, bs_length, List.length_append, List.length_replicate]; omega) (bs_one _) rfl ?_
      rw [bs_put, show (0 : Nat) + 8 = 8 from rfl, put2 hb8]
      (repeat (first | refine WL.step (Yl.move rfl) rfl ?_ | (refine WL.k_slice ?_; refine WL.step (Yl.arrFrom (t := 150) (lo := 120) Tryz.underlying150 Tryz.sizeOf5 rfl rfl (by decide)) rfl ?_) | refine WC.seq ?_ | refine WC.region ?_ | refine WL.nil ?_ | refine WN.then_normal ?_))
      refine WL.copy (cs := bs (Big.be 8 X ++ l ++ List.replicate (120 - l.length) 0)) (vs := bs (Big.be 8 X)) Tryz.underlying23 (by kernel_rfl) rfl rfl .here (Rd.row (.tail _ (.head _))) (by rw [bs_length]; omega) (by simp only [bs_length, List.length_append, List.length_replicate]; omega) (bs_one _) rfl ?_
      rw [bs_put, show (0 : Nat) + 120 = 120 from rfl, put3 hb8 hd]
      have hs : Big.be 8 X ++ l ++ List.replicate (112 - l.length) 0 ++ Big.be 8 X = Frm.stamp (X : Int) l := by unfold Frm.stamp; rw [Int.toNat_natCast]
      have hsl := Frm.stamp_length (n := (X : Int)) hd
      rw [hs]
      (repeat (first | refine WL.step (Yl.assign rfl) rfl ?_ | refine WL.step (Yl.arrAll (t := 150) Tryz.underlying150 Tryz.sizeOf5 rfl) rfl ?_ | refine WC.seq ?_ | refine WC.region ?_ | refine WL.nil ?_ | refine WN.then_normal ?_ | refine WC.ret ?_))
      refine WN.asRow (n := 128) .here (by rw [bs_length]; exact hsl) (by decide) ?_
      exact WN.ret2 rfl rfl rfl ⟨some ⟨b, 0, none⟩, 128, Nat.le_of_eq hsl, by rw [hsl]; rfl, rfl⟩ (.cons .here .nil)
    · have e : Frm.stamped x l = (2, []) := if_neg fun h => hd h.2
      rw [e]
      (repeat (first | refine WL.want rfl rfl rfl ?_ | refine WL.step (Yl.move rfl) rfl ?_ | refine WL.step (Yl.assign rfl) rfl ?_ | refine WL.step (Yl.pick_f rfl rfl rfl) rfl ?_ | refine WL.callV (g := 178) (v := .bool true) Tryz.call178 rfl (fun w _ => epoch_t _ w he) rfl ?_ | (refine WL.k_bin .gtr ?_; refine WL.step (Yl.gtrT rfl rfl (by omega)) rfl ?_) | refine WL.step (Yl.len (t := 23) Tryz.underlying23 rfl) rfl ?_ | refine WL.step (Yl.not rfl) rfl ?_ | refine WC.seq ?_ | refine WC.region ?_ | refine WL.nil ?_ | refine WN.then_normal ?_))
      refine WC.cond_true rfl rfl ?_
      (repeat (first | refine WL.step (Yl.assign rfl) rfl ?_ | refine WC.seq ?_ | refine WC.region ?_ | refine WL.nil ?_ | refine WN.then_normal ?_ | refine WC.ret ?_ | refine WN.then_ret ?_))
      exact WN.ret2 rfl rfl rfl (Slc.none _ 2) (.free .nil)
  · have e : Frm.stamped x l = (2, []) := if_neg fun h => he h.1
    rw [e]
    (repeat (first | refine WL.pass rfl rfl rfl rfl ?_ | refine WL.step (Yl.move rfl) rfl ?_ | refine WL.step (Yl.assign rfl) rfl ?_ | refine WL.step (Yl.pick_t rfl rfl rfl) rfl ?_ | refine WL.callV (g := 178) (v := .bool false) Tryz.call178 rfl (fun w _ => epoch_f _ w he) rfl ?_ | refine WL.step (Yl.not rfl) rfl ?_ | refine WC.seq ?_ | refine WC.region ?_ | refine WL.nil ?_ | refine WN.then_normal ?_))
    refine WC.cond_true rfl rfl ?_
    (repeat (first | refine WL.step (Yl.assign rfl) rfl ?_ | refine WC.seq ?_ | refine WC.region ?_ | refine WL.nil ?_ | refine WN.then_normal ?_ | refine WC.ret ?_ | refine WN.then_ret ?_))
    exact WN.ret2 rfl rfl rfl (Slc.none _ 2) (.free .nil)
end Go.Proofs.YtbkdjfgkebkknaaGreatDoor
