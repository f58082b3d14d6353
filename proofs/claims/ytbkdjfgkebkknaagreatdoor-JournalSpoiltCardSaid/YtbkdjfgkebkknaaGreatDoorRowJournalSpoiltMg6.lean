import Derived.Test.YtbkdjfgkebkknaaGreatDoorRowJournalSpoiltMg5
import Derived.Test.YtbkdjfgkebkknaaGreatDoorRowJournalSpoiltMg4
import Derived.Laws.MakeOwn
import Derived.Sort.LoopGhostIn
import Derived.RangeFuncBound
import Derived.Test.YtbkdjfgkebkknaaGreatDoorRowJournalSpoiltMg3
namespace Go.Proofs.YtbkdjfgkebkknaaGreatDoor
set_option linter.unusedVariables false
set_option linter.unusedSimpArgs false
open Go Go.RowKit
set_option maxRecDepth 100000
set_option maxHeartbeats 4000000
theorem fl154 : flatT Tryz.prog 154 = true := by kernel_rfl
def encB (v : List UInt8) : Value := .agg (bs v).toArray
def zblk : List UInt8 := List.replicate 128 0
theorem zeroBlk (w : World) : (zeroValue 151).run Tryz.prog w = .ok (encB zblk) w := by
  have h : (Tryz.prog.info? 151).map (fun i => i.zero) = some (some (.agg (bs zblk).toArray)) := by kernel_rfl
  exact zero_of h w
structure BkWf (d : List (List UInt8)) (F : Nat → Option (List UInt8)) : Prop where
  pos : 0 < d.length
  le : d.length ≤ 4096
  len : ∀ x ∈ d, x.length = 128
  val : ∀ k v, F k = some v → v.length = 128
structure BankAt (w : World) (bk : Nat) (da : Option Addr) (cap mb : Nat) (d : List (List UInt8)) (F : Nat → Option (List UInt8)) : Prop where
  wf : BkWf d F
  blk : w.heap[bk]? = some (.cells #[.slice da d.length cap, .map (some mb)] 154 (0, 0))
  row : CellsAt w da (bs d.flatten)
  cap : d.length ≤ cap
  map : ∃ M c, w.heap[mb]? = some (mobj encB M c) ∧ MapIs d.length F M c
def bptr (bk : Nat) : Value := .pointer (some ⟨bk, 0, none⟩)
theorem bchunk {α β : Type} {f : α → List β} {k : Nat} : ∀ {l : List α} {i : Nat} {x : α}, (∀ y ∈ l, (f y).length = k) → l[i]? = some x → ((l.flatMap f).drop (i * k)).take k = f x
  | [], _, _, _, h => by simp at h
  | y :: l, 0, x, hk, h => by
    obtain rfl : y = x := by simpa using h
    rw [Nat.zero_mul, List.drop_zero, List.flatMap_cons, ← hk y (.head _), List.take_left]
  | y :: l, i + 1, x, hk, h => by
    have e : (i + 1) * k = (f y).length + i * k := by rw [hk y (.head _), Nat.add_mul]; omega
    rw [List.flatMap_cons, e, ← List.drop_drop, List.drop_left]
    exact bchunk (fun z hz => hk z (.tail _ hz)) (by simpa using h)
theorem ball (l : List UInt8) : (bs l).toArray.toList.all Value.oneCell' = true := List.all_eq_true.2 fun u hu => bs_one l u (by simpa using hu)
theorem bsize {l : List UInt8} {n : Nat} (h : l.length = n) : Nat.beq (bs l).toArray.size n = true := by rw [List.size_toArray, bs_length, h]; exact Nat.beq_refl n
theorem flat_get {d : List (List UInt8)} (hd : ∀ x ∈ d, x.length = 128) {i : Nat} (h : i < d.length) : ((bs d.flatten).drop (i * 128)).take (bs (d.getD i [])).length = bs (d.getD i []) := by
  have e : d[i]? = some (d.getD i []) := by simp [List.getD, h]
  have hl := hd _ (List.mem_of_getElem? e)
  have := bchunk (f := fun x : List UInt8 => bs x) (k := 128) (l := d) (fun x hx => by rw [bs_length]; exact hd x hx) e
  rw [bs_length, hl]
  rw [show bs d.flatten = d.flatMap fun x => bs x by simp [bs, List.map_flatten, List.flatMap]]
  exact this
theorem blk_mem {d : List (List UInt8)} {i : Nat} (h : i < d.length) : d.getD i [] ∈ d := List.mem_of_getElem? (by simp [List.getD, h] : d[i]? = some (d.getD i []))
theorem flat_len128 {d : List (List UInt8)} (hd : ∀ x ∈ d, x.length = 128) : (bs d.flatten).length = d.length * 128 := by
  rw [bs_length, List.length_flatten, List.map_congr_left (g := fun _ => 128) (fun x hx => hd x hx)]
  induction d with
  | nil => rfl
  | cons x d ih => simp only [List.map_cons, List.sum_cons, List.length_cons, ih (fun y hy => hd y (.tail _ hy))]; omega
theorem flat_ne {d : List (List UInt8)} (hd : ∀ x ∈ d, x.length = 128) (h : 0 < d.length) : bs d.flatten ≠ [] := fun e => by
  have := flat_len128 hd
  rw [e] at this; simp at this; omega
attribute [local irreducible] WL WC WN Yl WH WQ WT WE WU
inductive BadAt (w : World) : Value → Prop
  | none : BadAt w (.pointer none)
  | zero (bk : Nat) : w.heap[bk]? = some (.cells #[.slice none 0 0, .map none] 154 (0, 0)) → BadAt w (bptr bk)
theorem valid_c {bk n cap : Nat} {da : Option Addr} {mv : Value} (w : World) (hb : w.heap[bk]? = some (.cells #[.slice da n cap, mv] 154 (0, 0))) :
    Calls Tryz.prog 97 #[bptr bk] w (Gives (Val (.bool (decide (0 < n)))) w) := by
  refine enter (args := [.pointer (some ⟨bk, 0, none⟩)]) Tryz.func97 Tryz.ntmps97 rfl rfl ?_
  (repeat (first | refine WL.want rfl rfl rfl ?_ | refine WL.step (Yl.move rfl) rfl ?_ | refine WL.step (Yl.assign rfl) rfl ?_ | refine WL.step (Yl.loadH Tryz.isAgg152 rfl (Has.old hb) rfl) rfl ?_ | refine WL.step (Yl.fld0 (t := 154) Tryz.underlying154 fl154 rfl rfl) rfl ?_ | refine WL.step (Yl.pick_t rfl rfl rfl) rfl ?_ | (refine WL.k_bin .neq ?_; refine WL.step (Yl.neqPN (by kernel_rfl) rfl) rfl ?_) | refine WL.step (Yl.nilCheck rfl) rfl ?_ | refine WL.step (Yl.len (t := 152) Tryz.underlying152 rfl) rfl ?_ | refine WL.step (Yl.gtr rfl rfl) rfl ?_ | refine WC.seq ?_ | refine WC.region ?_ | refine WL.nil ?_ | refine WN.then_normal ?_ | refine WC.ret ?_))
  exact WN.ret1 rfl rfl ⟨by rw [show decide (0 < n) = decide ((0 : Int) < (n : Int)) from decide_eq_decide.2 (by omega)], rfl⟩ .nil
theorem valid_n (w : World) : Calls Tryz.prog 97 #[.pointer none] w (Gives (Val (.bool false)) w) := by
  refine enter (args := [.pointer none]) Tryz.func97 Tryz.ntmps97 rfl rfl ?_
  (repeat (first | refine WL.pass rfl rfl rfl rfl ?_ | refine WL.step (Yl.move rfl) rfl ?_ | refine WL.step (Yl.assign rfl) rfl ?_ | refine WL.step (Yl.pick_f rfl rfl rfl) rfl ?_ | (refine WL.k_bin .neq ?_; refine WL.step (Yl.neqPN (by kernel_rfl) rfl) rfl ?_) | refine WC.seq ?_ | refine WC.region ?_ | refine WL.nil ?_ | refine WN.then_normal ?_ | refine WC.ret ?_))
  exact WN.ret1 rfl rfl ⟨rfl, rfl⟩ .nil
theorem valid_bad {v : Value} (w : World) (h : BadAt w v) : Calls Tryz.prog 97 #[v] w (Gives (Val (.bool false)) w) := by
  cases h with
  | none => exact valid_n w
  | zero bk hb => exact valid_c (n := 0) w hb
theorem valid_ok {bk cap mb : Nat} {da : Option Addr} {d : List (List UInt8)} {F : Nat → Option (List UInt8)} (w : World) (h : BankAt w bk da cap mb d F) : Calls Tryz.prog 97 #[bptr bk] w (Gives (Val (.bool true)) w) := by
  have := valid_c w h.blk
  rwa [decide_eq_true h.wf.pos] at this
theorem BankAt.keep {w w' : World} {bk cap mb : Nat} {da : Option Addr} {d : List (List UInt8)} {F : Nat → Option (List UInt8)} (h : BankAt w bk da cap mb d F) (k : Kept w [] w') : BankAt w' bk da cap mb d F := by
  obtain ⟨M, c, hm, hM⟩ := h.map
  exact ⟨h.wf, (k.block bk (lt_of_heap h.blk) (by simp)).trans h.blk, h.row.keep k, h.cap, M, c, (k.block mb (lt_of_heap hm) (by simp)).trans hm, hM⟩
theorem BadAt.keep {w w' : World} {v : Value} (h : BadAt w v) (k : Kept w [] w') : BadAt w' v := by
  cases h with
  | none => exact .none
  | zero bk hb => exact .zero bk ((k.block bk (lt_of_heap hb) (by simp)).trans hb)
section
variable {bk cap mb : Nat} {da : Option Addr} {d : List (List UInt8)} {F : Nat → Option (List UInt8)}
theorem len_c (w : World) (h : BankAt w bk da cap mb d F) : Calls Tryz.prog 107 #[bptr bk] w (Gives (Val (.int .i64 (d.length : Int))) w) := by
  refine enter (args := [.pointer (some ⟨bk, 0, none⟩)]) Tryz.func107 Tryz.ntmps107 rfl rfl ?_
  (repeat (first | refine WL.step (Yl.move rfl) rfl ?_ | refine WL.step (Yl.assign rfl) rfl ?_ | (refine WL.k_call 97 ?_; refine WL.callV (g := 97) (v := .bool true) Tryz.call97 rfl (fun w s => valid_ok w (h.keep s.kept)) rfl ?_) | refine WL.step (Yl.not rfl) rfl ?_ | refine WC.seq ?_ | refine WC.region ?_ | refine WL.nil ?_ | refine WN.then_normal ?_))
  refine WC.cond_false rfl rfl ?_
  (repeat (first | refine WL.step (Yl.move rfl) rfl ?_ | refine WL.step (Yl.assign rfl) rfl ?_ | refine WL.step (Yl.loadH Tryz.isAgg152 rfl (Has.old h.blk) rfl) rfl ?_ | refine WL.step (Yl.fld0 (t := 154) Tryz.underlying154 fl154 rfl rfl) rfl ?_ | refine WL.step (Yl.nilCheck rfl) rfl ?_ | refine WL.step (Yl.len (t := 152) Tryz.underlying152 rfl) rfl ?_ | refine WC.seq ?_ | refine WC.region ?_ | refine WL.nil ?_ | refine WN.then_normal ?_ | refine WC.skip ?_ | refine WC.ret ?_))
  exact WN.ret1 rfl rfl ⟨rfl, rfl⟩ .nil
def bchk (n : Nat) (s : Int) : Nat := if s < 0 ∨ (n : Int) ≤ s then 3 else 0
theorem bcheck_c (s : Int) (w : World) (h : BankAt w bk da cap mb d F) : Calls Tryz.prog 99 #[bptr bk, .int .i64 s] w (Gives (Val (.int .i64 (bchk d.length s : Nat))) w) := by
  refine enter (args := [.pointer (some ⟨bk, 0, none⟩), _]) Tryz.func99 Tryz.ntmps99 rfl rfl ?_
  (repeat (first | refine WL.step (Yl.move rfl) rfl ?_ | refine WL.step (Yl.assign rfl) rfl ?_ | (refine WL.k_call 97 ?_; refine WL.callV (g := 97) (v := .bool true) Tryz.call97 rfl (fun w s => valid_ok w (h.keep s.kept)) rfl ?_) | refine WL.step (Yl.not rfl) rfl ?_ | refine WC.seq ?_ | refine WC.region ?_ | refine WL.nil ?_ | refine WN.then_normal ?_ | refine WC.block ?_))
  refine WC.cond_false rfl rfl ?_
  unfold bchk
  by_cases h1 : s < 0
  · rw [if_pos (.inl h1)]
    (repeat (first | refine WL.pass rfl rfl rfl rfl ?_ | refine WL.step (Yl.move rfl) rfl ?_ | refine WL.step (Yl.assign rfl) rfl ?_ | refine WL.step (Yl.pick_t rfl rfl rfl) rfl ?_ | refine WL.step (Yl.lssT rfl rfl h1) rfl ?_ | refine WC.seq ?_ | refine WC.region ?_ | refine WL.nil ?_ | refine WN.then_normal ?_))
    refine WC.cond_true rfl rfl ?_
    (repeat (first | refine WL.step (Yl.assign rfl) rfl ?_ | refine WC.seq ?_ | refine WC.region ?_ | refine WL.nil ?_ | refine WN.then_normal ?_ | refine WC.ret ?_ | refine WN.then_ret ?_ | refine WN.block_ret ?_))
    exact WN.ret1 rfl rfl ⟨rfl, rfl⟩ .nil
  · by_cases h2 : (d.length : Int) ≤ s
    · rw [if_pos (.inr h2)]
      (repeat (first | refine WL.want rfl rfl rfl ?_ | refine WL.step (Yl.move rfl) rfl ?_ | refine WL.step (Yl.assign rfl) rfl ?_ | refine WL.step (Yl.loadH Tryz.isAgg152 rfl (Has.old h.blk) rfl) rfl ?_ | refine WL.step (Yl.fld0 (t := 154) Tryz.underlying154 fl154 rfl rfl) rfl ?_ | refine WL.step (Yl.pick_f rfl rfl rfl) rfl ?_ | refine WL.step (Yl.lssF rfl rfl h1) rfl ?_ | refine WL.step (Yl.nilCheck rfl) rfl ?_ | refine WL.step (Yl.len (t := 152) Tryz.underlying152 rfl) rfl ?_ | refine WL.step (Yl.geqT rfl rfl h2) rfl ?_ | refine WC.seq ?_ | refine WC.region ?_ | refine WL.nil ?_ | refine WN.then_normal ?_))
      refine WC.cond_true rfl rfl ?_
      (repeat (first | refine WL.step (Yl.assign rfl) rfl ?_ | refine WC.seq ?_ | refine WC.region ?_ | refine WL.nil ?_ | refine WN.then_normal ?_ | refine WC.ret ?_ | refine WN.then_ret ?_ | refine WN.block_ret ?_))
      exact WN.ret1 rfl rfl ⟨rfl, rfl⟩ .nil
    · rw [if_neg (by omega)]
      (repeat (first | refine WL.want rfl rfl rfl ?_ | refine WL.step (Yl.move rfl) rfl ?_ | refine WL.step (Yl.assign rfl) rfl ?_ | refine WL.step (Yl.loadH Tryz.isAgg152 rfl (Has.old h.blk) rfl) rfl ?_ | refine WL.step (Yl.fld0 (t := 154) Tryz.underlying154 fl154 rfl rfl) rfl ?_ | refine WL.step (Yl.pick_f rfl rfl rfl) rfl ?_ | refine WL.step (Yl.lssF rfl rfl h1) rfl ?_ | refine WL.step (Yl.nilCheck rfl) rfl ?_ | refine WL.step (Yl.len (t := 152) Tryz.underlying152 rfl) rfl ?_ | refine WL.step (Yl.geqF rfl rfl h2) rfl ?_ | refine WC.seq ?_ | refine WC.region ?_ | refine WL.nil ?_ | refine WN.then_normal ?_))
      refine WC.cond_false rfl rfl ?_
      (repeat (first | refine WL.step (Yl.assign rfl) rfl ?_ | refine WC.seq ?_ | refine WC.region ?_ | refine WL.nil ?_ | refine WN.then_normal ?_ | refine WC.skip ?_ | refine WC.ret ?_ | refine WN.block_normal ?_))
      exact WN.ret1 rfl rfl ⟨rfl, rfl⟩ .nil
theorem bchk_cases (n : Nat) (s : Int) : (bchk n s = 3 ∧ (s < 0 ∨ (n : Int) ≤ s)) ∨ (bchk n s = 0 ∧ ∃ k : Nat, s = (k : Int) ∧ k < n) := by
  by_cases h : s < 0 ∨ (n : Int) ≤ s
  · exact .inl ⟨if_pos h, h⟩
  · exact .inr ⟨if_neg h, s.toNat, by omega, by omega⟩
def BOut (r : List UInt8 × Nat) : Value → List HA → Prop := NewRow (fun s => .tuple #[s, .int .i64 (r.2 : Int)]) 151 1 r.1.length (bs r.1)
def readR (d : List (List UInt8)) (F : Nat → Option (List UInt8)) (s : Int) : List UInt8 × Nat := if bchk d.length s = 0 then ((F s.toNat).getD (d.getD s.toNat []), 0) else ([], 3)
theorem bread_c (s : Int) (w : World) (h : BankAt w bk da cap mb d F) : Calls Tryz.prog 46 #[bptr bk, .int .i64 s] w (Gives (BOut (readR d F s)) w) := by
  refine enter (args := [.pointer (some ⟨bk, 0, none⟩), _]) Tryz.func46 Tryz.ntmps46 rfl rfl ?_
  rcases bchk_cases d.length s with ⟨hc, hs⟩ | ⟨hc, k, rfl, hk⟩
  · rw [readR, if_neg (by rw [hc]; decide)]
    (repeat (first | refine WL.step (Yl.move rfl) rfl ?_ | refine WL.step (Yl.assign rfl) rfl ?_ | (refine WL.k_call 99 ?_; refine WL.callV (g := 99) (v := .int .i64 3) Tryz.call99 rfl (fun w s0 => by have := bcheck_c s w (h.keep s0.kept); rwa [hc] at this) rfl ?_) | (refine WL.k_bin .neq ?_; refine WL.step (Yl.neqT rfl rfl (by decide)) rfl ?_) | refine WC.seq ?_ | refine WC.region ?_ | refine WL.nil ?_ | refine WN.then_normal ?_))
    refine WC.cond_true rfl rfl ?_
    (repeat (first | refine WL.step (Yl.move rfl) rfl ?_ | refine WL.step (Yl.assign rfl) rfl ?_ | refine WC.seq ?_ | refine WC.region ?_ | refine WL.nil ?_ | refine WN.then_normal ?_ | refine WC.ret ?_ | refine WN.then_ret ?_))
    exact WN.ret2 rfl rfl rfl ⟨none, 0, Nat.le_refl _, rfl, rfl⟩ (.free .nil)
  · rw [readR, if_pos hc]
    obtain ⟨M, c, hm, hM⟩ := h.map
    have hmem := blk_mem hk
    have hlen := h.wf.len _ hmem
    have hne := flat_ne h.wf.len h.wf.pos
    (repeat (first | refine WL.step (Yl.move rfl) rfl ?_ | refine WL.step (Yl.assign rfl) rfl ?_ | (refine WL.k_call 99 ?_; refine WL.callV (g := 99) (v := .int .i64 0) Tryz.call99 rfl (fun w s0 => by have := bcheck_c (k : Int) w (h.keep s0.kept); rwa [hc] at this) rfl ?_) | (refine WL.k_bin .neq ?_; refine WL.step (Yl.neqF rfl rfl (by decide)) rfl ?_) | refine WC.seq ?_ | refine WC.region ?_ | refine WL.nil ?_ | refine WN.then_normal ?_))
    refine WC.cond_false rfl rfl ?_
    rw [Int.toNat_natCast]
    cases hF : F k with
    | none =>
      have hb := bsize hlen
      simp only [Option.getD_none]
      (repeat (first | refine WL.step (Yl.lookupF (k := k) (enc := encB) Tryz.underlying149 Tryz.underlying3 zeroBlk rfl rfl hM hF (Has.old hm)) rfl ?_ | refine WL.step (Yl.move rfl) rfl ?_ | refine WL.step (Yl.extract rfl rfl) rfl ?_ | refine WL.step (Yl.loadH Tryz.isAgg149 rfl (Has.old h.blk) rfl) rfl ?_ | refine WL.step (Yl.fld0 (t := 154) Tryz.underlying154 fl154 rfl rfl) rfl ?_ | refine WL.step (Yl.nilCheck rfl) rfl ?_ | refine WC.seq ?_ | refine WC.region ?_ | refine WN.then_normal ?_ | refine WC.skip ?_))
      refine WL.allocA zeroBlk rfl fun b => ?_
      refine WL.storeWhole (T := 151) (k := 128) (us := (bs zblk).toArray) Tryz.sizeOf151 rfl rfl (ball _) .here rfl rfl ?_
      (repeat (first | refine WL.step (Yl.move rfl) rfl ?_ | refine WL.step (Yl.assign rfl) rfl ?_ | refine WL.step (Yl.not rfl) rfl ?_ | refine WC.seq ?_ | refine WC.region ?_ | refine WL.nil ?_ | refine WN.then_normal ?_))
      refine WC.join (α := Unit) (fun _ => [(7, .pointer (some ⟨b, 0, none⟩))]) (fun _ => [.blk b (.cells (bs (d.getD k [])).toArray 151 (0, 0))]) (fun _ => True) ?_ ?_
      · refine WC.cond_true rfl rfl ?_
        (repeat (first | refine WL.step (Yl.move rfl) rfl ?_ | (refine WL.k_load ?_; first | refine WL.step (Yl.loadH Tryz.isAgg152 rfl (Has.old h.blk) rfl) rfl ?_ | refine WL.step (Yl.loadEl (bs (d.getD k [])) Tryz.isAgg151 Tryz.sizeOf151 rfl (Rd.old h.row) (by rw [bs_length]; exact hlen) (bs_ne (i := 0) (by omega)) (flat_get h.wf.len hk)) rfl ?_) | refine WL.step (Yl.fld0 (t := 154) Tryz.underlying154 fl154 rfl rfl) rfl ?_ | refine WL.step (Yl.nilCheck rfl) rfl ?_ | refine WL.step (Yl.indexAddr (t := 152) (j := k) Tryz.underlying152 Tryz.sizeOf151 rfl rfl (Rd.old h.row) hne hk) rfl ?_ | refine WC.region ?_))
        refine WL.storeWhole (k := 128) (us := (bs (d.getD k [])).toArray) Tryz.sizeOf151 rfl rfl (ball _) .here hb rfl ?_
        (repeat (first | refine WL.nil ?_))
        exact WN.join () trivial (by repeat (first | exact Sub.nil | refine Sub.cons rfl rfl ?_)) (by repeat (first | exact Part.nil | refine Part.cons (by repeat (first | exact Pick.here | apply Pick.there)) ?_ | refine Part.free ?_))
      · intro _ _
        (repeat (first | refine WL.step (Yl.assign rfl) rfl ?_ | refine WL.step (Yl.arrAll (t := 151) Tryz.underlying151 Tryz.sizeOf5 rfl) rfl ?_ | refine WC.seq ?_ | refine WC.region ?_ | refine WL.nil ?_ | refine WN.then_normal ?_ | refine WC.ret ?_))
        refine WN.asRow (n := 128) .here (by rw [bs_length]; exact hlen) (by decide) ?_
        exact WN.ret2 rfl rfl rfl ⟨some ⟨b, 0, none⟩, 128, by show (d.getD k []).length ≤ 128; omega, by show _ = Value.tuple #[.slice _ (d.getD k []).length 128, _]; rw [hlen]; rfl, rfl⟩ (.cons .here .nil)
    | some u =>
      have hul := h.wf.val k u hF
      have hb := bsize hul
      simp only [Option.getD_some]
      (repeat (first | refine WL.step (Yl.lookupT (k := k) (enc := encB) (u := u) Tryz.underlying149 Tryz.underlying3 zeroBlk rfl rfl hM hF (Has.old hm)) rfl ?_ | refine WL.step (Yl.move rfl) rfl ?_ | refine WL.step (Yl.extract rfl rfl) rfl ?_ | refine WL.step (Yl.loadH Tryz.isAgg149 rfl (Has.old h.blk) rfl) rfl ?_ | refine WL.step (Yl.fld0 (t := 154) Tryz.underlying154 fl154 rfl rfl) rfl ?_ | refine WL.step (Yl.nilCheck rfl) rfl ?_ | refine WC.seq ?_ | refine WC.region ?_ | refine WN.then_normal ?_ | refine WC.skip ?_))
      refine WL.allocA zeroBlk rfl fun b => ?_
      refine WL.storeWhole (T := 151) (k := 128) (us := (bs u).toArray) Tryz.sizeOf151 rfl rfl (ball _) .here hb rfl ?_
      (repeat (first | refine WL.step (Yl.move rfl) rfl ?_ | refine WL.step (Yl.assign rfl) rfl ?_ | refine WL.step (Yl.not rfl) rfl ?_ | refine WC.seq ?_ | refine WC.region ?_ | refine WL.nil ?_ | refine WN.then_normal ?_))
      refine WC.cond_false rfl rfl ?_
      (repeat (first | refine WL.step (Yl.assign rfl) rfl ?_ | refine WL.step (Yl.arrAll (t := 151) Tryz.underlying151 Tryz.sizeOf5 rfl) rfl ?_ | refine WC.seq ?_ | refine WC.region ?_ | refine WL.nil ?_ | refine WN.then_normal ?_ | refine WC.skip ?_ | refine WC.ret ?_))
      refine WN.asRow (n := 128) .here (by rw [bs_length]; exact hul) (by decide) ?_
      exact WN.ret2 rfl rfl rfl ⟨some ⟨b, 0, none⟩, 128, by show u.length ≤ 128; omega, by show _ = Value.tuple #[.slice _ u.length 128, _]; rw [hul]; rfl, rfl⟩ (.cons .here .nil)
def DirtyV (v : Value) : Value → List HA → Prop := fun u B => ∃ bx, u = .func (.func 96) #[] #[.pointer (some ⟨bx, 0, none⟩)] ∧ B = [.blk bx (.cells #[v] 70 (0, 0))]
theorem bdirty_c (p : Option Addr) (w : World) : Calls Tryz.prog 45 #[.pointer p] w (Gives (DirtyV (.pointer p)) w) := by
  refine enter (args := [.pointer p]) Tryz.func45 Tryz.ntmps45 rfl rfl ?_
  (repeat (first | refine WC.seq ?_ | refine WC.region ?_))
  refine WL.box rfl rfl fun bx => ?_
  (repeat (first | refine WL.step (Yl.assign rfl) rfl ?_ | refine WL.step (Yl.makeFunc (xs := [.tmp 1]) rfl) rfl ?_ | refine WC.seq ?_ | refine WC.region ?_ | refine WL.nil ?_ | refine WN.then_normal ?_ | refine WC.ret ?_))
  exact WN.ret1 rfl rfl ⟨bx, rfl, rfl⟩ (.cons .here .nil)
end
end Go.Proofs.YtbkdjfgkebkknaaGreatDoor
namespace Go.Proofs.YtbkdjfgkebkknaaGreatDoor
set_option linter.unusedVariables false
set_option linter.unusedSimpArgs false
open Go Go.RowKit
set_option maxRecDepth 100000
set_option maxHeartbeats 8000000
section
variable {X : Cx} {ops : Array Oper} {Q : Exit → Act → World → Prop} {ρ : Env} {A B : List HA} {rest : List Oper} {d : Tmp} {ty : TypeId} {ps : String} {af : Array Edge}
theorem madeCells_same {z : Value} {k : Nat} (hk : 0 < k) (n : Nat) : madeCells (List.replicate k z).toArray n = (List.replicate n z).toArray := by
  apply Array.ext
  · simp [madeCells]
  · intro i h1 h2
    have : i % k < k := Nat.mod_lt _ hk
    simp [madeCells, this]
theorem WL.makeSame {x y : Operand} {t e : TypeId} {z z0 : Value} {bytes k m n : Nat} {k1 k2 : IntKind} (hu : X.P.underlying t = some (.slice e)) (he : ElemT X.P e z k bytes) (hz0 : z.cells = (List.replicate k z0).toArray)
    (hx : ev ρ x = some (.int k1 (m : Int))) (hy : ev ρ y = some (.int k2 (n : Int))) (hmn : m ≤ n) (hb : bytes * n ≤ 281474976710656) (h63 : n ≤ maxLen) (hd : Nat.blt d X.n = true)
    (h : ∀ b : Nat, WL X ops Q rest ((d, .slice (some ⟨b, 0, none⟩) m n) :: ρ) (.row (some ⟨b, 0, none⟩) n e k (List.replicate (n * k) z0) :: A)) :
    WL X ops Q (⟨some d, .makeSlice t x y, ty, ps, af, none⟩ :: rest) ρ A :=
  WL.stepE (fun b : Nat => .slice (some ⟨b, 0, none⟩) m n) (fun b => .row (some ⟨b, 0, none⟩) n e k (List.replicate (n * k) z0) :: A) (fun o ho _ a w f s => by
    obtain ⟨i, hi, hz, hk, hby⟩ := he.info
    have h63' : (n : Int) ≤ 9223372036854775807 := by simp only [maxLen] at h63; omega
    have hb' : (i.bytes : Int) * (n : Int) ≤ 281474976710656 := by
      have h : ((i.bytes * n : Nat) : Int) ≤ 281474976710656 := by rw [hby]; omega
      rwa [Int.natCast_mul] at h
    have hr := run_make (P := X.P) w t e i z hu hi hz k1 k2 m n (by omega) (by omega) hb' h63'
    rw [hz0, madeCells_same he.pos, Int.toNat_natCast, Int.toNat_natCast, hk] at hr
    refine ⟨w.heap.size, { w with heap := w.heap.push (.cells (List.replicate (n * k) z0).toArray e) }, ?_, s.new (Kept.alloc w _) (.inr ⟨w.heap.size, (List.replicate (n * k) z0).toArray, rfl, by simp, by simp, h63, by simp, by simp⟩) (fun b hb => ?_)⟩
    · simp only [execOp, ho, f.ev hx, f.ev hy, Sem.run_bind, hr, Result.andThen_ok, Sem.run_pure]
      rfl
    · simp only [HA.foot] at hb
      split at hb
      · cases hb
      · simp only [Option.map_some, Option.some.injEq] at hb; omega) hd h
theorem row_out {w0 w : World} {S : List Nat} {A A0 B : List HA} {a : Option Addr} {cap k : Nat} {T : TypeId} {vs : List Value} (s : St w0 S A w) (hp : A.Perm (A0 ++ B)) (hm : HA.row a cap T k vs ∈ B) : CellsOut w (A0.filterMap HA.foot) a vs := by
  have s1 := s.perm hp
  rcases s1.holds _ (List.mem_append_right _ hm) with ⟨_, h⟩ | ⟨b, cs, rfl, hc, hsz, _, hl, ht⟩
  · exact .inl h
  · by_cases h0 : cap = 0
    · subst h0
      simp only [Nat.zero_mul] at hsz
      exact .inl (List.eq_nil_of_length_eq_zero (by omega))
    · refine .inr ⟨b, 0, rfl, fun hb => ?_, fun i v hv => ?_⟩
      · have hap := s1.apart
        rw [List.filterMap_append, List.nodup_append] at hap
        exact hap.2.2 b hb b (List.mem_filterMap.2 ⟨_, hm, by simp [HA.foot, h0]⟩) rfl
      · have : cs.toList[i]? = some v := by
          rw [← ht] at hv
          rw [List.getElem?_take] at hv
          split at hv
          · exact hv
          · cases hv
        rw [Nat.zero_add]
        simp only [World.cell?, hc]
        simpa using this
theorem old_out {w0 w : World} {S : List Nat} {A A0 B : List HA} {a : Option Addr} {vs : List Value} (s : St w0 S A w) (hp : A.Perm (A0 ++ B)) (h : CellsOut w0 S a vs) : CellsOut w (A0.filterMap HA.foot) a vs :=
  h.pass s fun b hb => by
    obtain ⟨x, hx, hf⟩ := List.mem_filterMap.1 hb
    exact ⟨x, hp.mem_iff.2 (List.mem_append_left _ hx), hf⟩
theorem WL.callS3 {x1 x2 x3 : HA} {A1 A2 : List HA} {R : Value → List HA → Prop} {g : FuncId} {xs : List Operand} {ts : Array TypeId} {vs : List Value} (he : ∀ args w, (callFunc g args).run X.P w = .ok (.enter g args) w) (hx : evs ρ xs = some vs)
    (p1 : Pick x1 A A1) (p2 : Pick x2 A1 A2) (p3 : Pick x3 A2 B)
    (hc : ∀ w, St X.w0 X.S A w → A.Perm ([x1, x2, x3] ++ B) → St w ([x1, x2, x3].filterMap HA.foot) [x1, x2, x3] w → Calls X.P g vs.toArray w (GivesS ([x1, x2, x3].filterMap HA.foot) R w)) (hd : Nat.blt d X.n = true) (h : ∀ v C, R v C → WL X ops Q rest ((d, v) :: ρ) (C ++ B)) :
    WL X ops Q (⟨some d, .call { callee := .value (.func g), args := xs.toArray, argTypes := ts }, ty, ps, af, none⟩ :: rest) ρ A := by
  have hp : A.Perm ([x1, x2, x3] ++ B) := (p1.perm).trans (((p2.perm).trans ((p3.perm).cons _)).cons _)
  exact WL.callS he hx hp (fun w s s1 => hc w s hp s1) hd h
end
theorem elemBlk : ElemT Tryz.prog 151 (encB zblk) 128 128 := ElemT.of (by kernel_rfl) rfl (by decide)
def bankItems (bk : Nat) (da : Option Addr) (cap mb : Nat) (d : List (List UInt8)) (M : List (Nat × List UInt8 × Nat)) (c : Nat) : List HA :=
  [.blk bk (.cells #[.slice da d.length cap, .map (some mb)] 154 (0, 0)), .row da cap 151 128 (bs d.flatten), .blk mb (mobj encB M c)]
theorem BankAt.of {w0 : World} {S : List Nat} {A : List HA} {w : World} {bk cap mb c : Nat} {da : Option Addr} {d : List (List UInt8)} {F : Nat → Option (List UInt8)} {M : List (Nat × List UInt8 × Nat)} (hw : BkWf d F) (hcap : d.length ≤ cap) (hM : MapIs d.length F M c)
    (h1 : HA.blk bk (.cells #[.slice da d.length cap, .map (some mb)] 154 (0, 0)) ∈ A) (h2 : HA.row da cap 151 128 (bs d.flatten) ∈ A) (h3 : HA.blk mb (mobj encB M c) ∈ A) (s : St w0 S A w) : BankAt w bk da cap mb d F :=
  ⟨hw, s.holds _ h1, Rd.row (X := ⟨Tryz.prog, 0, w0, S⟩) h2 w s, hcap, M, c, s.holds _ h3, hM⟩
theorem buildBank (a : Option Addr) (n c : Nat) (m : Option Nat) (w : World) : (Instr.build 154 [(0, Value.slice a n c), (1, .map m)].toArray).run Tryz.prog w = .ok (.agg #[.slice a n c, .map m]) w := by
  simp [Instr.build, Tryz.zeroValue154, run_underlying Tryz.underlying154, Tryz.sizeOf152, Tryz.sizeOf149, Value.cells, Instr.fill]
attribute [local irreducible] WL WC WN Yl WH WQ WT WE WU
def NewV (n : Nat) : Value → List HA → Prop := fun u B => ∃ bk da cap mb, n ≤ cap ∧ u = .tuple #[bptr bk, .int .i64 0] ∧ B = bankItems bk da cap mb (List.replicate n zblk) [] 0
theorem flat_zeros (n : Nat) : bs (List.replicate n zblk).flatten = List.replicate (n * 128) (.int .u8 0) := by
  have : (List.replicate n zblk).flatten = List.replicate (n * 128) 0 := by
    induction n with
    | zero => rfl
    | succ n ih => rw [List.replicate_succ, List.flatten_cons, ih, zblk, List.replicate_append_replicate]; congr 1; omega
  rw [this]; simp [bs, bv]
theorem bnew_c (n : Nat) (w : World) (h1 : 1 ≤ n) (h2 : n ≤ 4096) : Calls Tryz.prog 55 #[.int .i64 (n : Int)] w (Gives (NewV n) w) := by
  refine enter (args := [_]) Tryz.func55 Tryz.ntmps55 rfl rfl ?_
  (repeat (first | refine WL.want rfl rfl rfl ?_ | refine WL.step (Yl.move rfl) rfl ?_ | refine WL.step (Yl.assign rfl) rfl ?_ | refine WL.step (Yl.pick_f rfl rfl rfl) rfl ?_ | (refine WL.k_bin .lss ?_; refine WL.step (Yl.lssF rfl rfl (by omega)) rfl ?_) | (refine WL.k_bin .gtr ?_; refine WL.step (Yl.gtrF rfl rfl (by omega)) rfl ?_) | refine WC.seq ?_ | refine WC.region ?_ | refine WL.nil ?_ | refine WN.then_normal ?_))
  refine WC.cond_false rfl rfl ?_
  (repeat (first | refine WL.step (Yl.move rfl) rfl ?_ | refine WC.seq ?_ | refine WC.region ?_ | refine WN.then_normal ?_ | refine WC.skip ?_))
  refine WL.makeSame (z0 := .int .u8 0) Tryz.underlying152 elemBlk rfl rfl rfl (Nat.le_refl _) (by omega) (by simp only [maxLen]; omega) rfl fun b1 => ?_
  refine WL.makeMap (enc := encB) rfl fun b2 => ?_
  (repeat (first | refine WL.step (Yl.build (ps := [(0, .tmp 11), (1, .tmp 12)]) rfl (buildBank _ _ _ _)) rfl ?_))
  refine WL.boxA rfl rfl fun b3 => ?_
  (repeat (first | refine WL.step (Yl.assign rfl) rfl ?_ | refine WL.nil ?_ | refine WN.then_normal ?_ | refine WC.ret ?_))
  exact WN.ret2 rfl rfl rfl ⟨b3, some ⟨b1, 0, none⟩, n, b2, Nat.le_refl _, rfl, by rw [bankItems, flat_zeros, List.length_replicate]⟩ (by repeat (first | exact Part.nil | refine Part.cons (by repeat (first | exact Pick.here | apply Pick.there)) ?_ | refine Part.free ?_))
section
variable {bk cap mb : Nat} {da : Option Addr} {d : List (List UInt8)} {F : Nat → Option (List UInt8)}
def writeF (n : Nat) (F : Nat → Option (List UInt8)) (s : Int) (x : List UInt8) : Nat → Option (List UInt8) := if bchk n s = 0 ∧ x.length = 128 then setF F s.toNat (some x) else F
def writeE (n : Nat) (s : Int) (x : List UInt8) : Nat := if bchk n s = 0 then (if x.length = 128 then 0 else 2) else 3
def BankV (bk : Nat) (da : Option Addr) (cap mb : Nat) (d : List (List UInt8)) (F : Nat → Option (List UInt8)) (e : Nat) : Value → List HA → Prop := fun u B => ∃ M c, MapIs d.length F M c ∧ u = .int .i64 (e : Int) ∧ B = bankItems bk da cap mb d M c
theorem bwrite_r (a : Option Addr) (n c2 : Nat) (x : List UInt8) (s : Int) (M : List (Nat × List UInt8 × Nat)) (c : Nat) (w : World) (hwf : BkWf d F) (hcap : d.length ≤ cap) (hM : MapIs d.length F M c) (hx : x.length = n)
    (st : St w ((bankItems bk da cap mb d M c).filterMap HA.foot) (bankItems bk da cap mb d M c) w) (hr : CellsOut w ((bankItems bk da cap mb d M c).filterMap HA.foot) a (bs x)) :
    Calls Tryz.prog 90 #[bptr bk, .int .i64 s, .slice a n c2] w (GivesS ((bankItems bk da cap mb d M c).filterMap HA.foot) (BankV bk da cap mb d (writeF d.length F s x) (writeE d.length s x)) w) := by
  refine enterS (args := [.pointer (some ⟨bk, 0, none⟩), _, _]) Tryz.func90 Tryz.ntmps90 rfl rfl st ?_
  have hbank : ∀ w', St w ((bankItems bk da cap mb d M c).filterMap HA.foot) (bankItems bk da cap mb d M c) w' → BankAt w' bk da cap mb d F := fun w' s' => BankAt.of hwf hcap hM (.head _) (.tail _ (.head _)) (.tail _ (.tail _ (.head _))) s'
  generalize hS : List.filterMap HA.foot (bankItems bk da cap mb d M c) = S at *
  unfold bankItems at *
  rcases bchk_cases d.length s with ⟨hc, hs⟩ | ⟨hc, k, rfl, hk⟩
  · rw [writeF, writeE, if_neg (by rw [hc]; simp), if_neg (by rw [hc]; decide)]
    (repeat (first | refine WL.step (Yl.move rfl) rfl ?_ | refine WL.step (Yl.assign rfl) rfl ?_ | (refine WL.k_call 99 ?_; refine WL.callV (g := 99) (v := .int .i64 3) Tryz.call99 rfl (fun w s0 => by have := bcheck_c s w (hbank w s0); rwa [hc] at this) rfl ?_) | (refine WL.k_bin .neq ?_; refine WL.step (Yl.neqT rfl rfl (by decide)) rfl ?_) | refine WC.seq ?_ | refine WC.region ?_ | refine WL.nil ?_ | refine WN.then_normal ?_ | refine WC.block ?_))
    refine WC.cond_true rfl rfl ?_
    (repeat (first | refine WL.step (Yl.move rfl) rfl ?_ | refine WL.step (Yl.assign rfl) rfl ?_ | refine WC.seq ?_ | refine WC.region ?_ | refine WL.nil ?_ | refine WN.then_normal ?_ | refine WC.ret ?_ | refine WN.then_ret ?_ | refine WN.block_ret ?_))
    exact WN.ret1S rfl rfl ⟨M, c, hM, rfl, rfl⟩ (by repeat (first | exact Part.nil | refine Part.cons (by repeat (first | exact Pick.here | apply Pick.there)) ?_ | refine Part.free ?_))
  · (repeat (first | refine WL.step (Yl.move rfl) rfl ?_ | refine WL.step (Yl.assign rfl) rfl ?_ | (refine WL.k_call 99 ?_; refine WL.callV (g := 99) (v := .int .i64 0) Tryz.call99 rfl (fun w s0 => by have := bcheck_c (k : Int) w (hbank w s0); rwa [hc] at this) rfl ?_) | (refine WL.k_bin .neq ?_; refine WL.step (Yl.neqF rfl rfl (by decide)) rfl ?_) | refine WC.seq ?_ | refine WC.region ?_ | refine WL.nil ?_ | refine WN.then_normal ?_ | refine WC.block ?_))
    refine WC.cond_false rfl rfl ?_
    by_cases hn : n = 128
    · subst hn
      rw [writeF, writeE, if_pos ⟨hc, hx⟩, if_pos hc, if_pos hx, Int.toNat_natCast]
      (repeat (first | refine WL.step (Yl.move rfl) rfl ?_ | refine WL.step (Yl.assign rfl) rfl ?_ | refine WL.step (Yl.neqF rfl rfl rfl) rfl ?_ | refine WL.step (Yl.len (t := 23) Tryz.underlying23 rfl) rfl ?_ | refine WC.seq ?_ | refine WC.region ?_ | refine WL.nil ?_ | refine WN.then_normal ?_))
      refine WC.cond_false rfl rfl ?_
      (repeat (first | refine WC.seq ?_ | refine WN.then_normal ?_ | refine WC.skip ?_ | refine WN.block_normal ?_))
      refine WC.regionH [.blk bk (.cells #[.slice da d.length cap, .map (some mb)] 154 (0, 0))] (by kernel_rfl) ?_
      (refine WH.order [0, 1, 2, 3, 4, 5, 6, 7] (by repeat (first | exact Part.nil | refine Part.cons (by repeat (first | exact Pick.here | apply Pick.there)) ?_ | refine Part.free ?_)) (by kernel_rfl) ?_; (repeat (first | (refine WT.k_move rfl ?_; refine WT.take rfl rfl (fun _ _ _ h => h) (Yl.move rfl) rfl (by kernel_rfl) (by kernel_rfl) ?_) | (refine WT.k_load rfl ?_; first | refine WT.take rfl rfl (fun _ _ _ h => h) (Yl.loadBlk (T := 149) Tryz.isAgg149 rfl (by repeat (first | exact .head _ | refine .tail _ ?_)) (by rfl)) rfl (by kernel_rfl) (by kernel_rfl) ?_ | refine WT.take rfl rfl (fun _ _ _ h => h) (Yl.loadArr (T := 151) (vs := bs x) Tryz.isAgg151 Tryz.sizeOf151 rfl (Rd.out hr) (by rw [bs_length]; exact hx) (bs_ne (i := 0) (by omega))) rfl (by kernel_rfl) (by kernel_rfl) ?_) | (refine WT.k_fld rfl ?_; refine WT.take rfl rfl (fun _ _ _ h => h) (Yl.fld0 (t := 154) Tryz.underlying154 fl154 rfl rfl) rfl (by kernel_rfl) (by kernel_rfl) ?_) | (refine WT.k_nilc rfl ?_; refine WT.take rfl rfl (fun _ _ _ h => h) (Yl.nilCheck rfl) rfl (by kernel_rfl) (by kernel_rfl) ?_) | (refine WT.k_s2a rfl ?_; refine WT.take rfl rfl (fun _ _ _ h => h) (Yl.s2a (t := 151) Tryz.underlying151 rfl (Nat.le_refl _)) rfl (by kernel_rfl) (by kernel_rfl) ?_))); refine WT.nil ?_)
      refine WH.only (i := 8) (by kernel_rfl) rfl ?_
      refine WL.mapUpdate (k := k) (enc := encB) (u := x) Tryz.underlying149 Tryz.underlying3 rfl rfl rfl hM hk (by repeat (first | exact Pick.here | apply Pick.there)) fun M' c' hM' => ?_
      refine WL.nil (WN.nextH (by repeat (first | exact Part.nil | refine Part.cons (by repeat (first | exact Pick.here | apply Pick.there)) ?_ | refine Part.free ?_)) ?_)
      refine WH.done (by kernel_rfl) ?_
      (repeat (first | refine WL.step (Yl.assign rfl) rfl ?_ | refine WC.seq ?_ | refine WC.region ?_ | refine WL.nil ?_ | refine WN.then_normal ?_ | refine WC.ret ?_))
      exact WN.ret1S rfl rfl ⟨M', c', hM', rfl, rfl⟩ (by repeat (first | exact Part.nil | refine Part.cons (by repeat (first | exact Pick.here | apply Pick.there)) ?_ | refine Part.free ?_))
    · rw [writeF, writeE, if_neg (by omega), if_pos hc, if_neg (by omega)]
      (repeat (first | refine WL.step (Yl.move rfl) rfl ?_ | refine WL.step (Yl.assign rfl) rfl ?_ | (refine WL.k_bin .neq ?_; refine WL.step (Yl.neqT rfl rfl (by omega)) rfl ?_) | refine WL.step (Yl.len (t := 23) Tryz.underlying23 rfl) rfl ?_ | refine WC.seq ?_ | refine WC.region ?_ | refine WL.nil ?_ | refine WN.then_normal ?_))
      refine WC.cond_true rfl rfl ?_
      (repeat (first | refine WL.step (Yl.assign rfl) rfl ?_ | refine WC.seq ?_ | refine WC.region ?_ | refine WL.nil ?_ | refine WN.then_normal ?_ | refine WC.ret ?_ | refine WN.then_ret ?_ | refine WN.block_ret ?_))
      exact WN.ret1S rfl rfl ⟨M, c, hM, rfl, rfl⟩ (by repeat (first | exact Part.nil | refine Part.cons (by repeat (first | exact Pick.here | apply Pick.there)) ?_ | refine Part.free ?_))
end
end Go.Proofs.YtbkdjfgkebkknaaGreatDoor
namespace Go.Proofs.YtbkdjfgkebkknaaGreatDoor
set_option linter.unusedVariables false
set_option linter.unusedSimpArgs false
open Go Go.RowKit
def endI (P : Program) (fn : Func) (R : Ending → World → Prop) : Exit → Act → World → Prop
  | .normal, a, w | .ret, a, w => a.defers = [] ∧ ∃ v, (results fn a.tmps).run P w = .ok v w ∧ R (.returned v) w
  | _, _, _ => False
theorem enterI {P : Program} {g : FuncId} {fn : Func} {c : Code} {args : List Value} {w : World} {R : Ending → World → Prop} {n m : Nat} (hf : P.funcs[g]? = some fn) (hn : fn.ntmps = n) (hb : fn.body = some c) (hl : Nat.ble args.length n = true)
    (h : WG ⟨P, n, w, []⟩ none [] c (endI P fn R) (argEnv 0 args) []) : CallsIn (fence none) m P g args.toArray w R := by
  have hle : args.length ≤ n := Nat.le_of_ble_eq_true hl
  refine callsIn_of_wp hf hb trivial ?_ rfl
  have h1 := h { tmps := args.toArray ++ Array.replicate (fn.ntmps - args.toArray.size) undef, defers := [] } w ⟨?_, rfl, fun t v ht => ?_⟩ (St.start w)
  rw [sd_nil rfl] at h1
  refine wpIn_mono (Q := endI P fn R) (wpIn_any h1) fun e a w hq => ?_
  rotate_left
  · simp [hn]; omega
  · obtain ⟨j, hj, hv⟩ := lk_argEnv args 0 t v ht
    have hj' : t = j := by omega
    subst hj'
    have hlt : t < args.length := (List.getElem?_eq_some_iff.1 hv).1
    have h2 : args[t] = v := (List.getElem?_eq_some_iff.1 hv).2
    simp [Array.getD_eq_getD_getElem?, Array.getElem?_append, hlt, h2]
  cases e with
  | normal => exact hq
  | ret => exact hq
  | _ => exact hq.elim
theorem WN.iend {P : Program} {fn : Func} {R : Ending → World → Prop} {n : Nat} {w0 : World} {S : List Nat} {ρ : Env} {A : List HA} (hr : fn.results = #[]) (h : ∀ w, St w0 S A w → R (.returned (.tuple #[])) w) :
    WN ⟨P, n, w0, S⟩ (Post [] (endI P fn R)) .normal ρ A := fun a w f s => ⟨by simp [sd, f.defers], _, results_none hr _ _ _, h w s⟩
theorem WN.iret {P : Program} {fn : Func} {R : Ending → World → Prop} {n : Nat} {w0 : World} {S : List Nat} {ρ : Env} {A : List HA} (hr : fn.results = #[]) (h : ∀ w, St w0 S A w → R (.returned (.tuple #[])) w) :
    WN ⟨P, n, w0, S⟩ (Post [] (endI P fn R)) .ret ρ A := fun a w f s => ⟨by simp [sd, f.defers], _, results_none hr _ _ _, h w s⟩
section
variable {X : Cx} {Q : Exit → Act → World → Prop} {ρ : Env} {A : List HA} {ds : List Deferred}
theorem WG.yield {l m : Nat} {v : Value} {x0 x1 : Operand} {t0 t1 t2 t3 ty0 ty1 ty2 ty3 tb : Nat} {p0 p1 p2 p3 : String} {a0 a1 a2 a3 : Array Edge} {ts : Array TypeId} {id : Nat} {R : Ending → World → Prop}
    (h0 : ev ρ x0 = some (.func (.yield l) #[] #[])) (h1 : ev ρ x1 = some v) (n01 : Nat.beq t0 t1 = false) (hx1 : ∀ u, ev ((t0, u) :: ρ) x1 = ev ρ x1)
    (d0 : Nat.blt t0 X.n = true) (d1 : Nat.blt t1 X.n = true) (d2 : Nat.blt t2 X.n = true) (d3 : Nat.blt t3 X.n = true)
    (hy : ∀ w, St X.w0 X.S A w → YieldAt (fence none) m X.P l #[v] w R)
    (hR : ∀ e w, R e w → ∃ b, e = .returned (.bool b))
    (h : ∀ b a w, R (.returned (.bool b)) w → Fr X.n ((t3, .bool (!b)) :: ρ) a → Q .normal (sd ds a) w) (hfresh : ∀ u0 u1 u2 u3, Sub ((t3, u3) :: (t2, u2) :: (t1, u1) :: (t0, u0) :: ρ) ((t3, u3) :: ρ)) :
    WG X none ds (.region id [⟨some t0, .move x0, ty0, p0, a0, none⟩, ⟨some t1, .move x1, ty1, p1, a1, none⟩, ⟨some t2, .call { callee := .value (.tmp t0), args := [Operand.tmp t1].toArray, argTypes := ts }, ty2, p2, a2, none⟩,
      ⟨some t3, .unOp .not tb (.tmp t2), ty3, p3, a3, none⟩].toArray false) Q ρ A := fun a w f s => by
  refine wpIn_region_lit ?_
  have e0 : a.eval x0 = .func (.yield l) #[] #[] := f.ev h0
  have f1 := f.put (blt_lt d0) (Value.func (.yield l) #[] #[])
  have e1 : (a.put (some t0) (.func (.yield l) #[] #[])).eval x1 = v := f1.ev (by rw [hx1, h1])
  have f2 := f1.put (blt_lt d1) v
  have l0 : ((a.put (some t0) (.func (.yield l) #[] #[])).put (some t1) v).eval (.tmp t0) = .func (.yield l) #[] #[] := f2.ev (x := .tmp t0) (by
    have n10 : Nat.beq t1 t0 = false := by
      cases e : Nat.beq t1 t0 with
      | false => rfl
      | true => have := Nat.eq_of_beq_eq_true e; subst this; rw [Nat.beq_refl] at n01; cases n01
    show lk _ t0 = _
    simp only [lk, n10, Nat.beq_refl]; rfl)
  have l1 : ((a.put (some t0) (.func (.yield l) #[] #[])).put (some t1) v).eval (.tmp t1) = v := f2.ev (x := .tmp t1) (by show lk _ t1 = _; simp only [lk, Nat.beq_refl]; rfl)
  obtain ⟨fn, tmps, assign, body, hrun, hround⟩ := hy w s
  refine wpListIn_plain rfl fun K hK => ⟨fun _ _ => trivial, ?_⟩
  have q0 : (Oper.semAt (fence none).round (sd ds a).eval ⟨some t0, .move x0, ty0, p0, a0, none⟩).run X.P w = .ok (.value (.func (.yield l) #[] #[])) w := by
    rw [Oper.semAt_eq _ _ _ (fun c e => by cases e)]
    show (execOp a.eval _).run X.P w = _
    simp [execOp, e0]
  rw [q0, Oper.uponIn_value, ← sd_put]
  refine hK _ _ (wpListIn_plain rfl fun K hK => ⟨fun _ _ => trivial, ?_⟩)
  have q1 : (Oper.semAt (fence none).round (sd ds (a.put (some t0) (.func (.yield l) #[] #[]))).eval ⟨some t1, .move x1, ty1, p1, a1, none⟩).run X.P w = .ok (.value v) w := by
    rw [Oper.semAt_eq _ _ _ (fun c e => by cases e)]
    show (execOp (a.put (some t0) (.func (.yield l) #[] #[])).eval _).run X.P w = _
    simp [execOp, e1]
  rw [q1, Oper.uponIn_value, ← sd_put]
  refine hK _ _ (wpListIn_plain rfl fun K hK => ⟨fun _ _ => trivial, ?_⟩)
  have q2 : (Oper.semAt (fence none).round (sd ds ((a.put (some t0) (.func (.yield l) #[] #[])).put (some t1) v)).eval ⟨some t2, .call { callee := .value (.tmp t0), args := [Operand.tmp t1].toArray, argTypes := ts }, ty2, p2, a2, none⟩).run X.P w = .ok (.round l fn tmps assign body) w := by
    rw [Oper.semAt_eq _ _ _ (fun c e => by cases e)]
    show (execOp ((a.put (some t0) (.func (.yield l) #[] #[])).put (some t1) v).eval _).run X.P w = _
    simp [execOp, resolve, Deferred.ofValue, l0, l1, invoke, hrun]
  rw [q2, Oper.uponIn_round]
  refine ⟨fun hd => (by cases hd), ?_⟩
  have hround' : RoundIn (fence none) (0 - 1) X.P l fn tmps assign body w R := ⟨hround.1, fun c cs _ => hround.2 c cs (room_fence _ _)⟩
  refine hround'.mono fun e w' hr => ?_
  obtain ⟨b, rfl⟩ := hR e w' hr
  simp only
  rw [← sd_put]
  have f3 := f2.put (blt_lt d2) (Value.bool b)
  refine hK _ _ (wpListIn_plain rfl fun K hK => ⟨fun _ _ => trivial, ?_⟩)
  have l2 : (((a.put (some t0) (.func (.yield l) #[] #[])).put (some t1) v).put (some t2) (.bool b)).eval (.tmp t2) = .bool b := f3.ev (x := .tmp t2) (by show lk _ t2 = _; simp only [lk, Nat.beq_refl]; rfl)
  have q3 : (Oper.semAt (fence none).round (sd ds (((a.put (some t0) (.func (.yield l) #[] #[])).put (some t1) v).put (some t2) (.bool b))).eval ⟨some t3, .unOp .not tb (.tmp t2), ty3, p3, a3, none⟩).run X.P w' = .ok (.value (.bool (!b))) w' := by
    rw [Oper.semAt_eq _ _ _ (fun c e => by cases e)]
    show (execOp (((a.put (some t0) (.func (.yield l) #[] #[])).put (some t1) v).put (some t2) (.bool b)).eval _).run X.P w' = _
    have hn : (Op.unary .not (.bool b)).run X.P w' = .ok (.bool (!b)) w' := by simp [Op.unary]
    simp [execOp, l2, hn]
  rw [q3, Oper.uponIn_value, ← sd_put]
  exact hK _ _ (wpListIn_nil (h b _ w' hr ((f3.put (blt_lt d3) (.bool (!b))).of_sub (hfresh _ _ _ _))))
end
end Go.Proofs.YtbkdjfgkebkknaaGreatDoor
namespace Go.Proofs.YtbkdjfgkebkknaaGreatDoor
set_option linter.unusedVariables false
set_option linter.unusedSimpArgs false
open Go Go.RowKit
set_option maxRecDepth 100000
set_option maxHeartbeats 8000000
abbrev Sec (n : Nat) := { k : Nat // k < n }
def secv {n : Nat} (x : Sec n) : Value := .int .i64 (x.1 : Int)
def AllOf (n : Nat) (D : List Nat) (xs : List (Sec n)) : Prop := xs.map (·.1) = D
def PartOf (n : Nat) (D : List Nat) (xs : List (Sec n)) : Prop := xs.map (·.1) <+: D
def RowAt (B : Nat) (w : World) (a : Option Addr) (D : List Nat) : Prop := D = [] ∨ ∃ b cs, a = some ⟨b, 0, none⟩ ∧ B ≤ b ∧ w.heap[b]? = some (.cells cs 3 (0, 0)) ∧ cs.toList.take D.length = ncells D
theorem RowAt.cells {B : Nat} {w : World} {a : Option Addr} {D : List Nat} (h : RowAt B w a D) : CellsAt w a (ncells D) := by
  rcases h with rfl | ⟨b, cs, rfl, _, hc, ht⟩
  · exact .inl rfl
  · refine .inr ⟨b, 0, rfl, fun i v hv => ?_⟩
    rw [← ht, List.getElem?_take] at hv
    split at hv
    · rw [Nat.zero_add]; simp only [World.cell?, hc]; simpa using hv
    · cases hv
theorem RowAt.kp {B : Nat} {w w' : World} {a : Option Addr} {D : List Nat} (h : RowAt B w a D) (k : Kp B w w') : RowAt B w' a D := by
  rcases h with rfl | ⟨b, cs, rfl, hB, hc, ht⟩
  · exact .inl rfl
  · exact .inr ⟨b, cs, rfl, hB, k.cells b _ hB hc rfl, ht⟩
theorem RowAt.keep {B : Nat} {w w' : World} {a : Option Addr} {D : List Nat} (h : RowAt B w a D) (k : Kept w [] w') : RowAt B w' a D := by
  rcases h with rfl | ⟨b, cs, rfl, hB, hc, ht⟩
  · exact .inl rfl
  · exact .inr ⟨b, cs, rfl, hB, (k.block b (lt_of_heap hc) (by simp)).trans hc, ht⟩
theorem RowAt.of {w0 w : World} {A : List HA} {a : Option Addr} {cap B : Nat} {D : List Nat} (hm : HA.row a cap 3 1 (ncells D) ∈ A) (hB : B ≤ w0.heap.size) (s : St w0 [] A w) : RowAt B w a D := by
  rcases s.holds _ hm with ⟨_, h⟩ | ⟨b, cs, rfl, hc, hsz, _, hl, ht⟩
  · exact .inl (by simpa [ncells] using h)
  · by_cases h0 : cap = 0
    · subst h0
      rw [ncells_len] at hl
      exact .inl (List.eq_nil_of_length_eq_zero (by omega))
    · refine .inr ⟨b, cs, rfl, ?_, hc, by rw [ncells_len] at ht; exact ht⟩
      rcases s.mine _ hm b (by simp [HA.foot, h0]) with h | h
      · cases h
      · omega
theorem Kept.grown {w w' : World} (k : Kept w [] w') : w.grownBy w' none := ⟨k.os, k.tape, k.output, k.size, fun b hb _ => k.block b hb (by simp)⟩
theorem Kept.kp {w w' : World} (k : Kept w [] w') (B : Nat) : Kp B w w' := ⟨k.size, fun b o _ hb _ => (k.block b (lt_of_heap hb) (by simp)).trans hb⟩
attribute [local irreducible] WL WC WN Yl WH WQ WT WE WU WG Post
section
variable {bk cap mb bx : Nat} {da : Option Addr} {d : List (List UInt8)} {F : Nat → Option (List UInt8)}
theorem take_pre {n : Nat} {D : List Nat} {pre : List (Sec n)} (h : pre.map (·.1) = D.take pre.length) (hl : pre.length = D.length) : AllOf n D pre := by
  unfold AllOf; rw [h, hl, List.take_length]
theorem dirty_seq (w : World) (B : Nat) (hB : B ≤ w.heap.size) (h : BankAt w bk da cap mb d F) (hbx : w.heap[bx]? = some (.cells #[bptr bk] 70 (0, 0))) :
    SeqStopsK (fence none) 1 Tryz.prog 96 #[.pointer (some ⟨bx, 0, none⟩)] (fun x : Sec d.length => #[secv x]) (Kp B) (AllOf d.length (dirtyOf d.length F)) (PartOf d.length (dirtyOf d.length F)) (dirtyOf d.length F).length w := by
  intro l J Jx W hW hJ hJx hY h0
  have kW := Kept.of_below hW
  have hb := h.keep kW
  have hx := (kW.block bx (lt_of_heap hbx) (by simp)).trans hbx
  have hBW : B ≤ W.heap.size := Nat.le_trans hB kW.size
  obtain ⟨M, c, hm, hM⟩ := hb.map
  have hle := hb.wf.le
  have hD := dirty_len d.length F
  have hlt : ∀ k ∈ dirtyOf d.length F, k < d.length := fun k hk => dirty_lt hk
  generalize hDD : dirtyOf d.length F = D at *
  have hk0 : ∀ w', Kept W [] w' → J [] w' := fun w' k => hJ [] W w' none h0 k.grown (fun r e => by cases e)
  have e : (#[Value.func (.yield l) #[] #[]] ++ #[Value.pointer (some ⟨bx, 0, none⟩)] : Array Value) = [Value.func (.yield l) #[] #[], .pointer (some ⟨bx, 0, none⟩)].toArray := by simp
  rw [e]
  refine enterI (args := [_, _]) Tryz.func96 Tryz.ntmps96 rfl rfl ?_
  (repeat (first | refine WL.step (Yl.loadH Tryz.isAgg70 rfl (Has.old hx) rfl) rfl ?_ | (refine WL.k_call 97 ?_; refine WL.callV (g := 97) (v := .bool true) Tryz.call97 rfl (fun w s => valid_ok w (hb.keep s.kept)) rfl ?_) | refine WL.step (Yl.not rfl) rfl ?_ | refine WG.seq ?_ | refine WG.region (fun _ _ h => h) rfl ?_ | refine WL.nil ?_ | refine WN.g_then ?_))
  refine WG.cond_false rfl rfl ?_
  (repeat (first | (refine WL.k_load ?_; first | refine WL.step (Yl.loadH Tryz.isAgg70 rfl (Has.old hx) rfl) rfl ?_ | refine WL.step (Yl.loadH Tryz.isAgg149 rfl (Has.old hb.blk) rfl) rfl ?_) | refine WL.step (Yl.fld0 (t := 154) Tryz.underlying154 fl154 rfl rfl) rfl ?_ | refine WL.step (Yl.nilCheck rfl) rfl ?_ | refine WG.seq ?_ | refine WG.region (fun _ _ h => h) rfl ?_ | refine WN.g_then ?_ | refine WG.skip ?_))
  refine WL.call (g := 98) Tryz.call98 rfl (fun w s => keys_c mb w) rfl fun v1 B1 hv1 => ?_
  obtain ⟨b2, rfl, rfl⟩ := hv1
  simp only [List.cons_append, List.nil_append]
  refine WL.callR (g := 41) Tryz.call41 rfl (fun w s => by have := sorted_c b2 mb w hM (by omega) (s.holds _ (.head _)) ((s.kept.block mb (lt_of_heap hm) (by simp)).trans hm); rwa [hDD] at this) rfl fun q hq => ?_
  (repeat (first | refine WL.step (Yl.move rfl) rfl ?_ | refine WL.step (Yl.len (t := 61) Tryz.underlying61 rfl) rfl ?_ | refine WL.nil ?_ | refine WN.g_then ?_ | refine WG.block ?_))
  refine WG.intro fun a w2 f s => ?_
  have hr0 : RowAt B w2 q.1 D := RowAt.of (.head _) hBW s
  have hJ0 := hk0 w2 s.kept
  refine wpIn_loop_ghost (a := sd [] a) (fun m a w => ∃ pre : List (Sec d.length), m + pre.length = D.length ∧ pre.map (·.1) = D.take pre.length ∧ J pre w ∧ RowAt B w q.1 D ∧ ∃ b, a = sd [] b ∧
    Fr 24 [(0, .func (.yield l) #[] #[]), (13, .slice q.1 D.length q.2), (14, .int .i64 (D.length : Int)), (15, .int .i64 (pre.length : Int))] b) D.length ⟨[], rfl, rfl, hJ0, hr0, a, rfl, f.of_sub (by repeat (first | exact Sub.nil | refine Sub.cons rfl rfl ?_))⟩ ?_
  rintro m _ w ⟨pre, hm, hp, hj, hr, b, rfl, f⟩
  refine WG.elim (X := ⟨Tryz.prog, 24, w, []⟩) (A := []) ?_ b w f (St.start w)
  have hkJ : ∀ w', Kept w [] w' → J pre w' := fun w' k => hJ pre w w' none hj k.grown (fun r e => by cases e)
  (repeat (first | refine WL.step (Yl.lss rfl rfl) rfl ?_ | refine WG.seq ?_ | refine WG.region (fun _ _ h => h) rfl ?_ | refine WL.nil ?_ | refine WN.g_then ?_))
  refine WG.ite rfl (fun h1 => ?_) (fun h1 => ?_)
  · have hil : pre.length < D.length := by omega
    have hkd : D.getD pre.length 0 < d.length := hlt _ (List.mem_of_getElem? (by simp [List.getD, hil] : D[pre.length]? = some (D.getD pre.length 0)))
    have hnext : (pre ++ [(⟨D.getD pre.length 0, hkd⟩ : Sec d.length)]).map (·.1) = D.take (pre.length + 1) := by
      rw [List.map_append, hp, List.take_add_one]
      simp [List.getD, hil]
    refine WG.skip (WN.g_then (WG.seq (WG.block (WG.seq (WG.region (fun _ _ h => h) rfl ?_)))))
    (repeat (first | refine WL.step (Yl.assign rfl) rfl ?_ | refine WL.step (Yl.load (T := 3) Tryz.isAgg3 rfl (Rd.old hr.cells) (ncells_at hil)) rfl ?_ | refine WL.step (Yl.indexAddr1 (t := 61) (j := pre.length) Tryz.underlying61 Tryz.sizeOf3 rfl rfl (Rd.old hr.cells) (ne_nil_of (ncells_at hil)) hil) rfl ?_))
    refine WL.nil (WN.g_then (WG.seq ?_))
    refine WG.yield (l := l) (m := 1 - 1) (v := .int .i64 ((D.getD pre.length 0 : Nat) : Int)) (R := fun e W' => (e = .returned (.bool true) ∧ J (pre ++ [(⟨D.getD pre.length 0, hkd⟩ : Sec d.length)]) W' ∧ Kp B w W') ∨ (e = .returned (.bool false) ∧ Jx (pre ++ [(⟨D.getD pre.length 0, hkd⟩ : Sec d.length)]) W')) ?_ ?_ ?_ ?_ ?_ ?_ ?_ ?_ ?_ ?_ ?_ ?_
    · rfl
    · rfl
    · rfl
    · exact fun _ => rfl
    · rfl
    · rfl
    · rfl
    · rfl
    · intro w' s'
      refine YieldAt.mono (hY pre (⟨_, hkd⟩ : Sec d.length) w' (hkJ w' s'.kept) hil) fun e W' hq => ?_
      rcases hq with ⟨h1, h2, h3⟩ | h2
      · exact .inl ⟨h1, h2, (s'.kept.kp B).trans h3⟩
      · exact .inr h2
    · intro e w' hq
      rcases hq with h | h
      · exact ⟨true, h.1⟩
      · exact ⟨false, h.1⟩
    rotate_left
    · intro _ _ _ _
      exact (by repeat (first | exact Sub.nil | refine Sub.cons rfl rfl ?_))
    intro bb a' w' hR f'
    rcases hR with ⟨hb1, hJ', hK'⟩ | ⟨hb1, hJ'⟩
    · obtain rfl : bb = true := by simpa using hb1
      refine WG.elim (X := ⟨Tryz.prog, 24, w', []⟩) (A := []) ?_ a' w' f' (St.start w')
      refine WG.cond_false rfl rfl ?_
      (repeat (first | refine WL.step (Yl.move rfl) rfl ?_ | (refine WL.k_bin .add ?_; refine WL.step (Yl.add64C rfl (by omega)) rfl ?_) | refine WG.region (fun _ _ h => h) rfl ?_ | refine WL.nil ?_ | refine WN.g_then ?_ | refine WG.skip ?_ | refine WN.g_bnormal ?_))
      refine WN.g_done fun a3 w3 f3 s3 => ⟨m - 1, by omega, pre ++ [⟨_, hkd⟩], by simp only [List.length_append, List.length_singleton]; omega, by rw [List.length_append, List.length_singleton]; exact hnext, hJ _ w' w3 none hJ' s3.kept.grown (fun r e => by cases e), (hr.kp hK').keep s3.kept, a3, rfl, f3.of_sub (by rw [List.length_append, List.length_singleton]; exact (by repeat (first | exact Sub.nil | refine Sub.cons rfl rfl ?_)))⟩
    · obtain rfl : bb = false := by simpa using hb1
      refine WG.elim (X := ⟨Tryz.prog, 24, w', []⟩) (A := []) ?_ a' w' f' (St.start w')
      refine WG.cond_true rfl rfl ?_
      (repeat (first | refine WG.ret ?_ | refine WN.g_ret ?_ | refine WN.g_bret ?_))
      exact WN.iret rfl (fun w3 s3 => ⟨⟨_, rfl⟩, .inr ⟨pre ++ [⟨_, hkd⟩], by unfold PartOf; rw [hnext]; exact List.take_prefix _ _, hJx _ w' w3 none hJ' s3.kept.grown (fun r e => by cases e)⟩⟩)
  · have hN : pre.length = D.length := by omega
    (repeat (first | refine WG.exit ?_ | refine WN.g_exit ?_ | refine WN.g_bhere ?_))
    exact WN.iend rfl (fun w s => ⟨⟨_, rfl⟩, .inl ⟨pre, take_pre hp hN, hkJ w s.kept⟩⟩)
theorem dirty_seq_bad (v : Value) (n : Nat) (w : World) (B : Nat) (h : BadAt w v) (hbx : w.heap[bx]? = some (.cells #[v] 70 (0, 0))) :
    SeqStopsK (fence none) 1 Tryz.prog 96 #[.pointer (some ⟨bx, 0, none⟩)] (fun x : Sec n => #[secv x]) (Kp B) (AllOf n []) (PartOf n []) 0 w := by
  intro l J Jx W hW hJ hJx hY h0
  have kW := Kept.of_below hW
  have hx := (kW.block bx (lt_of_heap hbx) (by simp)).trans hbx
  have e : (#[Value.func (.yield l) #[] #[]] ++ #[Value.pointer (some ⟨bx, 0, none⟩)] : Array Value) = [Value.func (.yield l) #[] #[], .pointer (some ⟨bx, 0, none⟩)].toArray := by simp
  rw [e]
  refine enterI (args := [_, _]) Tryz.func96 Tryz.ntmps96 rfl rfl ?_
  (repeat (first | refine WL.step (Yl.loadH Tryz.isAgg70 rfl (Has.old hx) rfl) rfl ?_ | (refine WL.k_call 97 ?_; refine WL.callV (g := 97) (v := .bool false) Tryz.call97 rfl (fun w s => valid_bad w ((h.keep kW).keep s.kept)) rfl ?_) | refine WL.step (Yl.not rfl) rfl ?_ | refine WG.seq ?_ | refine WG.region (fun _ _ h => h) rfl ?_ | refine WL.nil ?_ | refine WN.g_then ?_))
  refine WG.cond_true rfl rfl ?_
  (repeat (first | refine WG.ret ?_ | refine WN.g_ret ?_))
  exact WN.iret rfl (fun w s => ⟨⟨_, rfl⟩, .inl ⟨[], rfl, hJ [] W w none h0 s.kept.grown (fun r e => by cases e)⟩⟩)
end
def DirtyOk (p : Option Addr) (n : Nat) (D : List Nat) (w0 : World) : Prop := ∀ w, Kept w0 [] w → ∀ bx, w.heap[bx]? = some (.cells #[.pointer p] 70 (0, 0)) → ∀ B, B ≤ w.heap.size →
  SeqStopsK (fence none) 1 Tryz.prog 96 #[.pointer (some ⟨bx, 0, none⟩)] (fun x : Sec n => #[secv x]) (Kp B) (AllOf n D) (PartOf n D) D.length w
theorem BankAt.dirty {w : World} {bk cap mb : Nat} {da : Option Addr} {d : List (List UInt8)} {F : Nat → Option (List UInt8)} (h : BankAt w bk da cap mb d F) : DirtyOk (some ⟨bk, 0, none⟩) d.length (dirtyOf d.length F) w :=
  fun w' k bx hb B hB => dirty_seq w' B hB (h.keep k) hb
theorem BadAt.dirty {w : World} {p : Option Addr} (h : BadAt w (.pointer p)) (n : Nat) : DirtyOk p n [] w :=
  fun w' k bx hb B hB => dirty_seq_bad (.pointer p) n w' B (h.keep k) hb
end Go.Proofs.YtbkdjfgkebkknaaGreatDoor
namespace Go.Proofs.YtbkdjfgkebkknaaGreatDoor
set_option linter.unusedVariables false
set_option linter.unusedSimpArgs false
open Go Go.RowKit
set_option maxRecDepth 100000
set_option maxHeartbeats 4000000
def zcells (L : List Int) : List Value := L.map fun k => Value.int .i64 k
theorem zcells_len (L : List Int) : (zcells L).length = L.length := List.length_map _
theorem zcells_at {L : List Int} {i : Nat} (h : i < L.length) : (zcells L)[i]? = some (.int .i64 (L.getD i 0)) := by simp [zcells, List.getD, h]
theorem zcells_ne {L : List Int} {i : Nat} (h : i < L.length) : zcells L ≠ [] := ne_nil_of (zcells_at h)
attribute [local irreducible] WL WC WN Yl WH WQ WT WE WU WG Post
end Go.Proofs.YtbkdjfgkebkknaaGreatDoor
namespace Go.Proofs.YtbkdjfgkebkknaaGreatDoor
set_option linter.unusedVariables false
set_option linter.unusedSimpArgs false
open Go Go.RowKit
theorem take_splice {α : Type} {n i : Nat} {us : List α} {l : List α} (h : i + us.length ≤ n) (hn : n ≤ l.length) : (l.take i ++ us ++ l.drop (i + us.length)).take n = (l.take n).take i ++ us ++ (l.take n).drop (i + us.length) := by
  have e : (l.take i ++ us).length = i + us.length := by rw [List.length_append, List.length_take]; omega
  rw [List.take_take, Nat.min_eq_left (by omega), List.drop_take, List.take_append, e, List.take_of_length_le (by omega)]
section
variable {X : Cx} {ops : Array Oper} {Q : Exit → Act → World → Prop} {rest : List Oper} {ρ : Env} {A B : List HA} {ty : TypeId} {ps : String} {af : Array Edge} {v : Value}
end
end Go.Proofs.YtbkdjfgkebkknaaGreatDoor
