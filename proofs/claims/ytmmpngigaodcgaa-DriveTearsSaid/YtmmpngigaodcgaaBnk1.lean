/- Banks of sectors: what they are in memory; which operations read them. -/
import Derived.Test.YtmmpngigaodcgaaSrt
import Derived.Test.YtmmpngigaodcgaaApz
import Derived.Test.YtmmpngigaodcgaaS2a
import Derived.Test.YtmmpngigaodcgaaByt
namespace Go.Proofs.Ytmmpngigaodcgaa
set_option linter.unusedVariables false
set_option linter.unusedSimpArgs false
open Go Go.RowKit
set_option maxRecDepth 100000
set_option maxHeartbeats 4000000
theorem fl80 : flatT Try.prog 80 = true := by kernel_rfl
def encB (v : List UInt8) : Value := .agg (bs v).toArray
def zblk : List UInt8 := List.replicate 128 0
theorem zeroBlk (w : World) : (zeroValue 76).run Try.prog w = .ok (encB zblk) w := by
  have h : (Try.prog.info? 76).map (fun i => i.zero) = some (some (.agg (bs zblk).toArray)) := by kernel_rfl
  exact zero_of h w
structure BkWf (d : List (List UInt8)) (F : Nat → Option (List UInt8)) : Prop where
  pos : 0 < d.length
  le : d.length ≤ 4096
  len : ∀ x ∈ d, x.length = 128
  val : ∀ k v, F k = some v → v.length = 128
structure BankAt (w : World) (bk : Nat) (da : Option Addr) (cap mb : Nat) (d : List (List UInt8)) (F : Nat → Option (List UInt8)) : Prop where
  wf : BkWf d F
  blk : w.heap[bk]? = some (.cells #[.slice da d.length cap, .map (some mb)] 80 (0, 0))
  row : CellsAt w da (bs d.flatten)
  cap : d.length ≤ cap
  map : ∃ M c, w.heap[mb]? = some (mobj encB M c) ∧ MapIs d.length F M c
def bptr (bk : Nat) : Value := .pointer (some ⟨bk, 0, none⟩)
theorem bchunk {α β : Type} {f : α → List β} {k : Nat} : ∀ {l : List α} {i : Nat} {x : α}, (∀ y ∈ l, (f y).length = k) → l[i]? = some x → ((l.flatMap f).drop (i * k)).take k = f x
  | [], _, _, _, h => by simp at h
  | y :: l, 0, x, hk, h => by
    obtain rfl : y = x := by simpa using h
    rw [Nat.zero_mul, List.drop_zero, List.flatMap_cons, ← hk y (.head _), List.take_left]
  | y :: l, i + 1, x, hk, h => by
    have e : (i + 1) * k = (f y).length + i * k := by rw [hk y (.head _), Nat.add_mul]; omega
    rw [List.flatMap_cons, e, ← List.drop_drop, List.drop_left]
    exact bchunk (fun z hz => hk z (.tail _ hz)) (by simpa using h)
theorem ball (l : List UInt8) : (bs l).toArray.toList.all Value.oneCell' = true := List.all_eq_true.2 fun u hu => bs_one l u (by simpa using hu)
theorem bsize {l : List UInt8} {n : Nat} (h : l.length = n) : Nat.beq (bs l).toArray.size n = true := by rw [List.size_toArray, bs_length, h]; exact Nat.beq_refl n
theorem flat_get {d : List (List UInt8)} (hd : ∀ x ∈ d, x.length = 128) {i : Nat} (h : i < d.length) : ((bs d.flatten).drop (i * 128)).take (bs (d.getD i [])).length = bs (d.getD i []) := by
  have e : d[i]? = some (d.getD i []) := by simp [List.getD, h]
  have hl := hd _ (List.mem_of_getElem? e)
  have := bchunk (f := fun x : List UInt8 => bs x) (k := 128) (l := d) (fun x hx => by rw [bs_length]; exact hd x hx) e
  rw [bs_length, hl]
  rw [show bs d.flatten = d.flatMap fun x => bs x by simp [bs, List.map_flatten, List.flatMap]]
  exact this
theorem blk_mem {d : List (List UInt8)} {i : Nat} (h : i < d.length) : d.getD i [] ∈ d := List.mem_of_getElem? (by simp [List.getD, h] : d[i]? = some (d.getD i []))
theorem flat_len128 {d : List (List UInt8)} (hd : ∀ x ∈ d, x.length = 128) : (bs d.flatten).length = d.length * 128 := by
  rw [bs_length, List.length_flatten, List.map_congr_left (g := fun _ => 128) (fun x hx => hd x hx)]
  induction d with
  | nil => rfl
  | cons x d ih => simp only [List.map_cons, List.sum_cons, List.length_cons, ih (fun y hy => hd y (.tail _ hy))]; omega
theorem flat_ne {d : List (List UInt8)} (hd : ∀ x ∈ d, x.length = 128) (h : 0 < d.length) : bs d.flatten ≠ [] := fun e => by
  have := flat_len128 hd
  rw [e] at this; simp at this; omega
attribute [local irreducible] WL WC WN Yl WH WQ WT WE WU
/-- No bank, or one that was not made by New. -/
inductive BadAt (w : World) : Value → Prop
  | none : BadAt w (.pointer none)
  | zero (bk : Nat) : w.heap[bk]? = some (.cells #[.slice none 0 0, .map none] 80 (0, 0)) → BadAt w (bptr bk)
theorem valid_c {bk n cap : Nat} {da : Option Addr} {mv : Value} (w : World) (hb : w.heap[bk]? = some (.cells #[.slice da n cap, mv] 80 (0, 0))) :
    Calls Try.prog 50 #[bptr bk] w (Gives (Val (.bool (decide (0 < n)))) w) := by
  refine enter (args := [.pointer (some ⟨bk, 0, none⟩)]) Try.func50 Try.ntmps50 rfl rfl ?_
  (repeat (first | (refine WL.kG ?_; first | refine WL.want rfl rfl rfl ?_ | refine WL.pass rfl rfl rfl rfl ?_) | (refine WL.k_move ?_; first | refine WL.step (Yl.move rfl) rfl ?_) | (refine WL.k_assign ?_; first | refine WL.step (Yl.assign rfl) rfl ?_) | (refine WL.k_load ?_; first | refine WL.step (Yl.loadH Try.isAgg77 rfl (Has.old hb) rfl) rfl ?_) | (refine WL.k_fld ?_; first | refine WL.step (Yl.fld0 (t := 80) Try.underlying80 fl80 rfl rfl) rfl ?_) | (refine WL.k_pick ?_; first | refine WL.step (Yl.pick_t rfl rfl rfl) rfl ?_ | refine WL.step (Yl.pick_f rfl rfl rfl) rfl ?_) | (refine WL.k_bin .neq ?_; first | refine WL.step (Yl.neqPN (by kernel_rfl) rfl) rfl ?_ | refine WL.step (Yl.strNeq rfl rfl) rfl ?_ | refine WL.step (Yl.neq rfl rfl) rfl ?_) | (refine WL.k_nilc ?_; first | refine WL.step (Yl.nilCheck rfl) rfl ?_) | (refine WL.k_bi .len ?_; first | refine WL.step (Yl.len (t := 77) Try.underlying77 rfl) rfl ?_ | refine WL.step (Yl.len (t := 30) Try.underlying30 rfl) rfl ?_) | (refine WL.k_bin .gtr ?_; first | refine WL.step (Yl.gtr rfl rfl) rfl ?_) | refine WC.seq ?_ | refine WC.region ?_ | refine WL.nil ?_ | refine WN.then_normal ?_ | refine WC.skip ?_ | refine WC.ret ?_ | refine WN.then_ret ?_))
  exact WN.ret1 rfl rfl ⟨by rw [show decide (0 < n) = decide ((0 : Int) < (n : Int)) from decide_eq_decide.2 (by omega)], rfl⟩ .nil
theorem valid_n (w : World) : Calls Try.prog 50 #[.pointer none] w (Gives (Val (.bool false)) w) := by
  refine enter (args := [.pointer none]) Try.func50 Try.ntmps50 rfl rfl ?_
  (repeat (first | (refine WL.kG ?_; first | refine WL.passU rfl rfl rfl ?_ | refine WL.want rfl rfl rfl ?_ | refine WL.pass rfl rfl rfl rfl ?_) | (refine WL.k_move ?_; first | refine WL.step (Yl.move rfl) rfl ?_) | (refine WL.k_assign ?_; first | refine WL.step (Yl.assign rfl) rfl ?_) | (refine WL.k_pick ?_; first | refine WL.step (Yl.pick_t rfl rfl rfl) rfl ?_ | refine WL.step (Yl.pick_f rfl rfl rfl) rfl ?_) | (refine WL.k_bin .neq ?_; first | refine WL.step (Yl.neqPN (by kernel_rfl) rfl) rfl ?_ | refine WL.step (Yl.strNeq rfl rfl) rfl ?_ | refine WL.step (Yl.neq rfl rfl) rfl ?_) | (refine WL.k_bi .len ?_; first | refine WL.step (Yl.len (t := 30) Try.underlying30 rfl) rfl ?_) | (refine WL.k_bin .gtr ?_; first | refine WL.step (Yl.gtr rfl rfl) rfl ?_) | refine WC.seq ?_ | refine WC.region ?_ | refine WL.nil ?_ | refine WN.then_normal ?_ | refine WC.skip ?_ | refine WC.ret ?_ | refine WN.then_ret ?_))
  exact WN.ret1 rfl rfl ⟨rfl, rfl⟩ .nil
theorem valid_bad {v : Value} (w : World) (h : BadAt w v) : Calls Try.prog 50 #[v] w (Gives (Val (.bool false)) w) := by
  cases h with
  | none => exact valid_n w
  | zero bk hb => exact valid_c (n := 0) w hb
theorem valid_ok {bk cap mb : Nat} {da : Option Addr} {d : List (List UInt8)} {F : Nat → Option (List UInt8)} (w : World) (h : BankAt w bk da cap mb d F) : Calls Try.prog 50 #[bptr bk] w (Gives (Val (.bool true)) w) := by
  have := valid_c w h.blk
  rwa [decide_eq_true h.wf.pos] at this
theorem BankAt.keep {w w' : World} {bk cap mb : Nat} {da : Option Addr} {d : List (List UInt8)} {F : Nat → Option (List UInt8)} (h : BankAt w bk da cap mb d F) (k : Kept w [] w') : BankAt w' bk da cap mb d F := by
  obtain ⟨M, c, hm, hM⟩ := h.map
  exact ⟨h.wf, (k.block bk (lt_of_heap h.blk) (by simp)).trans h.blk, h.row.keep k, h.cap, M, c, (k.block mb (lt_of_heap hm) (by simp)).trans hm, hM⟩
theorem BadAt.keep {w w' : World} {v : Value} (h : BadAt w v) (k : Kept w [] w') : BadAt w' v := by
  cases h with
  | none => exact .none
  | zero bk hb => exact .zero bk ((k.block bk (lt_of_heap hb) (by simp)).trans hb)
section
variable {bk cap mb : Nat} {da : Option Addr} {d : List (List UInt8)} {F : Nat → Option (List UInt8)}
theorem len_c (w : World) (h : BankAt w bk da cap mb d F) : Calls Try.prog 43 #[bptr bk] w (Gives (Val (.int .i64 (d.length : Int))) w) := by
  refine enter (args := [.pointer (some ⟨bk, 0, none⟩)]) Try.func43 Try.ntmps43 rfl rfl ?_
  (repeat (first | (refine WL.k_move ?_; first | refine WL.step (Yl.move rfl) rfl ?_) | (refine WL.k_assign ?_; first | refine WL.step (Yl.assign rfl) rfl ?_) | (refine WL.k_call 50 ?_; first | refine WL.callV (g := 50) (v := .bool true) Try.call50 rfl (fun w s => valid_ok w (h.keep s.kept)) rfl ?_) | (refine WL.k_bi .len ?_; first | refine WL.step (Yl.len (t := 30) Try.underlying30 rfl) rfl ?_) | (refine WL.k_unop ?_; first | refine WL.step (Yl.not rfl) rfl ?_) | refine WC.seq ?_ | refine WC.region ?_ | refine WL.nil ?_ | refine WN.then_normal ?_ | refine WC.skip ?_ | refine WC.ret ?_ | refine WN.then_ret ?_))
  refine WC.cond_false rfl rfl ?_
  (repeat (first | (refine WL.k_move ?_; first | refine WL.step (Yl.move rfl) rfl ?_) | (refine WL.k_assign ?_; first | refine WL.step (Yl.assign rfl) rfl ?_) | (refine WL.k_load ?_; first | refine WL.step (Yl.loadH Try.isAgg77 rfl (Has.old h.blk) rfl) rfl ?_) | (refine WL.k_fld ?_; first | refine WL.step (Yl.fld0 (t := 80) Try.underlying80 fl80 rfl rfl) rfl ?_) | (refine WL.k_nilc ?_; first | refine WL.step (Yl.nilCheck rfl) rfl ?_) | (refine WL.k_bi .len ?_; first | refine WL.step (Yl.len (t := 77) Try.underlying77 rfl) rfl ?_ | refine WL.step (Yl.len (t := 30) Try.underlying30 rfl) rfl ?_) | (refine WL.k_unop ?_; first | refine WL.step (Yl.not rfl) rfl ?_) | refine WC.seq ?_ | refine WC.region ?_ | refine WL.nil ?_ | refine WN.then_normal ?_ | refine WC.skip ?_ | refine WC.ret ?_ | refine WN.then_ret ?_))
  exact WN.ret1 rfl rfl ⟨rfl, rfl⟩ .nil
theorem len_bad (v : Value) (w : World) (h : BadAt w v) : Calls Try.prog 43 #[v] w (Gives (Val (.int .i64 0)) w) := by
  refine enter (args := [v]) Try.func43 Try.ntmps43 rfl rfl ?_
  (repeat (first | (refine WL.k_move ?_; first | refine WL.step (Yl.move rfl) rfl ?_) | (refine WL.k_assign ?_; first | refine WL.step (Yl.assign rfl) rfl ?_) | (refine WL.k_call 50 ?_; first | refine WL.callV (g := 50) (v := .bool false) Try.call50 rfl (fun w s => valid_bad w (h.keep s.kept)) rfl ?_) | (refine WL.k_bi .len ?_; first | refine WL.step (Yl.len (t := 30) Try.underlying30 rfl) rfl ?_) | (refine WL.k_unop ?_; first | refine WL.step (Yl.not rfl) rfl ?_) | refine WC.seq ?_ | refine WC.region ?_ | refine WL.nil ?_ | refine WN.then_normal ?_ | refine WC.skip ?_ | refine WC.ret ?_ | refine WN.then_ret ?_))
  refine WC.cond_true rfl rfl ?_
  (repeat (first | (refine WL.k_move ?_; first | refine WL.step (Yl.move rfl) rfl ?_) | (refine WL.k_assign ?_; first | refine WL.step (Yl.assign rfl) rfl ?_) | (refine WL.k_bi .len ?_; first | refine WL.step (Yl.len (t := 30) Try.underlying30 rfl) rfl ?_) | (refine WL.k_unop ?_; first | refine WL.step (Yl.not rfl) rfl ?_) | refine WC.seq ?_ | refine WC.region ?_ | refine WL.nil ?_ | refine WN.then_normal ?_ | refine WC.skip ?_ | refine WC.ret ?_ | refine WN.then_ret ?_))
  exact WN.ret1 rfl rfl ⟨rfl, rfl⟩ .nil
def bchk (n : Nat) (s : Int) : Nat := if s < 0 ∨ (n : Int) ≤ s then 3 else 0
theorem bcheck_c (s : Int) (w : World) (h : BankAt w bk da cap mb d F) : Calls Try.prog 44 #[bptr bk, .int .i64 s] w (Gives (Val (.int .i64 (bchk d.length s : Nat))) w) := by
  refine enter (args := [.pointer (some ⟨bk, 0, none⟩), _]) Try.func44 Try.ntmps44 rfl rfl ?_
  (repeat (first | (refine WL.kG ?_; first | refine WL.want rfl rfl rfl ?_ | refine WL.pass rfl rfl rfl rfl ?_) | (refine WL.k_move ?_; first | refine WL.step (Yl.move rfl) rfl ?_) | (refine WL.k_assign ?_; first | refine WL.step (Yl.assign rfl) rfl ?_) | (refine WL.k_pick ?_; first | refine WL.step (Yl.pick_t rfl rfl rfl) rfl ?_ | refine WL.step (Yl.pick_f rfl rfl rfl) rfl ?_) | (refine WL.k_call 50 ?_; first | refine WL.callV (g := 50) (v := .bool true) Try.call50 rfl (fun w s => valid_ok w (h.keep s.kept)) rfl ?_) | (refine WL.k_bi .len ?_; first | refine WL.step (Yl.len (t := 30) Try.underlying30 rfl) rfl ?_) | (refine WL.k_bin .lss ?_; first | refine WL.step (Yl.lss rfl rfl) rfl ?_) | (refine WL.k_bin .geq ?_; first | refine WL.step (Yl.geq rfl rfl) rfl ?_) | (refine WL.k_unop ?_; first | refine WL.step (Yl.not rfl) rfl ?_) | refine WC.seq ?_ | refine WC.region ?_ | refine WL.nil ?_ | refine WN.then_normal ?_ | refine WC.block ?_ | refine WC.skip ?_ | refine WC.ret ?_ | refine WN.then_ret ?_ | refine WN.block_normal ?_ | refine WN.block_ret ?_ | refine WN.block_here ?_ | refine WN.block_past (by decide) ?_))
  refine WC.cond_false rfl rfl ?_
  unfold bchk
  by_cases h1 : s < 0
  · rw [if_pos (.inl h1)]
    (repeat (first | (refine WL.kG ?_; first | refine WL.want rfl rfl rfl ?_ | refine WL.pass rfl rfl rfl rfl ?_) | (refine WL.k_move ?_; first | refine WL.step (Yl.move rfl) rfl ?_) | (refine WL.k_assign ?_; first | refine WL.step (Yl.assign rfl) rfl ?_) | (refine WL.k_pick ?_; first | refine WL.step (Yl.pick_t rfl rfl rfl) rfl ?_ | refine WL.step (Yl.pick_f rfl rfl rfl) rfl ?_) | (refine WL.k_bin .lss ?_; first | refine WL.step (Yl.lssT rfl rfl h1) rfl ?_ | refine WL.step (Yl.lss rfl rfl) rfl ?_) | (refine WL.k_bi .len ?_; first | refine WL.step (Yl.len (t := 30) Try.underlying30 rfl) rfl ?_) | (refine WL.k_bin .geq ?_; first | refine WL.step (Yl.geq rfl rfl) rfl ?_) | (refine WL.k_unop ?_; first | refine WL.step (Yl.not rfl) rfl ?_) | refine WC.seq ?_ | refine WC.region ?_ | refine WL.nil ?_ | refine WN.then_normal ?_ | refine WC.block ?_ | refine WC.skip ?_ | refine WC.ret ?_ | refine WN.then_ret ?_ | refine WN.block_normal ?_ | refine WN.block_ret ?_ | refine WN.block_here ?_ | refine WN.block_past (by decide) ?_))
    refine WC.cond_true rfl rfl ?_
    (repeat (first | (refine WL.kG ?_; first | refine WL.want rfl rfl rfl ?_ | refine WL.pass rfl rfl rfl rfl ?_) | (refine WL.k_move ?_; first | refine WL.step (Yl.move rfl) rfl ?_) | (refine WL.k_assign ?_; first | refine WL.step (Yl.assign rfl) rfl ?_) | (refine WL.k_pick ?_; first | refine WL.step (Yl.pick_t rfl rfl rfl) rfl ?_ | refine WL.step (Yl.pick_f rfl rfl rfl) rfl ?_) | (refine WL.k_bi .len ?_; first | refine WL.step (Yl.len (t := 30) Try.underlying30 rfl) rfl ?_) | (refine WL.k_bin .lss ?_; first | refine WL.step (Yl.lss rfl rfl) rfl ?_) | (refine WL.k_bin .geq ?_; first | refine WL.step (Yl.geq rfl rfl) rfl ?_) | (refine WL.k_unop ?_; first | refine WL.step (Yl.not rfl) rfl ?_) | refine WC.seq ?_ | refine WC.region ?_ | refine WL.nil ?_ | refine WN.then_normal ?_ | refine WC.block ?_ | refine WC.skip ?_ | refine WC.ret ?_ | refine WN.then_ret ?_ | refine WN.block_normal ?_ | refine WN.block_ret ?_ | refine WN.block_here ?_ | refine WN.block_past (by decide) ?_))
    exact WN.ret1 rfl rfl ⟨rfl, rfl⟩ .nil
  · by_cases h2 : (d.length : Int) ≤ s
    · rw [if_pos (.inr h2)]
      (repeat (first | (refine WL.kG ?_; first | refine WL.want rfl rfl rfl ?_ | refine WL.pass rfl rfl rfl rfl ?_) | (refine WL.k_move ?_; first | refine WL.step (Yl.move rfl) rfl ?_) | (refine WL.k_assign ?_; first | refine WL.step (Yl.assign rfl) rfl ?_) | (refine WL.k_load ?_; first | refine WL.step (Yl.loadH Try.isAgg77 rfl (Has.old h.blk) rfl) rfl ?_) | (refine WL.k_fld ?_; first | refine WL.step (Yl.fld0 (t := 80) Try.underlying80 fl80 rfl rfl) rfl ?_) | (refine WL.k_pick ?_; first | refine WL.step (Yl.pick_t rfl rfl rfl) rfl ?_ | refine WL.step (Yl.pick_f rfl rfl rfl) rfl ?_) | (refine WL.k_bin .lss ?_; first | refine WL.step (Yl.lssF rfl rfl h1) rfl ?_ | refine WL.step (Yl.lss rfl rfl) rfl ?_) | (refine WL.k_nilc ?_; first | refine WL.step (Yl.nilCheck rfl) rfl ?_) | (refine WL.k_bi .len ?_; first | refine WL.step (Yl.len (t := 77) Try.underlying77 rfl) rfl ?_ | refine WL.step (Yl.len (t := 30) Try.underlying30 rfl) rfl ?_) | (refine WL.k_bin .geq ?_; first | refine WL.step (Yl.geqT rfl rfl h2) rfl ?_ | refine WL.step (Yl.geq rfl rfl) rfl ?_) | (refine WL.k_unop ?_; first | refine WL.step (Yl.not rfl) rfl ?_) | refine WC.seq ?_ | refine WC.region ?_ | refine WL.nil ?_ | refine WN.then_normal ?_ | refine WC.block ?_ | refine WC.skip ?_ | refine WC.ret ?_ | refine WN.then_ret ?_ | refine WN.block_normal ?_ | refine WN.block_ret ?_ | refine WN.block_here ?_ | refine WN.block_past (by decide) ?_))
      refine WC.cond_true rfl rfl ?_
      (repeat (first | (refine WL.kG ?_; first | refine WL.want rfl rfl rfl ?_ | refine WL.pass rfl rfl rfl rfl ?_) | (refine WL.k_move ?_; first | refine WL.step (Yl.move rfl) rfl ?_) | (refine WL.k_assign ?_; first | refine WL.step (Yl.assign rfl) rfl ?_) | (refine WL.k_pick ?_; first | refine WL.step (Yl.pick_t rfl rfl rfl) rfl ?_ | refine WL.step (Yl.pick_f rfl rfl rfl) rfl ?_) | (refine WL.k_bi .len ?_; first | refine WL.step (Yl.len (t := 30) Try.underlying30 rfl) rfl ?_) | (refine WL.k_bin .lss ?_; first | refine WL.step (Yl.lss rfl rfl) rfl ?_) | (refine WL.k_bin .geq ?_; first | refine WL.step (Yl.geq rfl rfl) rfl ?_) | (refine WL.k_unop ?_; first | refine WL.step (Yl.not rfl) rfl ?_) | refine WC.seq ?_ | refine WC.region ?_ | refine WL.nil ?_ | refine WN.then_normal ?_ | refine WC.block ?_ | refine WC.skip ?_ | refine WC.ret ?_ | refine WN.then_ret ?_ | refine WN.block_normal ?_ | refine WN.block_ret ?_ | refine WN.block_here ?_ | refine WN.block_past (by decide) ?_))
      exact WN.ret1 rfl rfl ⟨rfl, rfl⟩ .nil
    · rw [if_neg (by omega)]
      (repeat (first | (refine WL.kG ?_; first | refine WL.want rfl rfl rfl ?_ | refine WL.pass rfl rfl rfl rfl ?_) | (refine WL.k_move ?_; first | refine WL.step (Yl.move rfl) rfl ?_) | (refine WL.k_assign ?_; first | refine WL.step (Yl.assign rfl) rfl ?_) | (refine WL.k_load ?_; first | refine WL.step (Yl.loadH Try.isAgg77 rfl (Has.old h.blk) rfl) rfl ?_) | (refine WL.k_fld ?_; first | refine WL.step (Yl.fld0 (t := 80) Try.underlying80 fl80 rfl rfl) rfl ?_) | (refine WL.k_pick ?_; first | refine WL.step (Yl.pick_t rfl rfl rfl) rfl ?_ | refine WL.step (Yl.pick_f rfl rfl rfl) rfl ?_) | (refine WL.k_bin .lss ?_; first | refine WL.step (Yl.lssF rfl rfl h1) rfl ?_ | refine WL.step (Yl.lss rfl rfl) rfl ?_) | (refine WL.k_nilc ?_; first | refine WL.step (Yl.nilCheck rfl) rfl ?_) | (refine WL.k_bi .len ?_; first | refine WL.step (Yl.len (t := 77) Try.underlying77 rfl) rfl ?_ | refine WL.step (Yl.len (t := 30) Try.underlying30 rfl) rfl ?_) | (refine WL.k_bin .geq ?_; first | refine WL.step (Yl.geqF rfl rfl h2) rfl ?_ | refine WL.step (Yl.geq rfl rfl) rfl ?_) | (refine WL.k_unop ?_; first | refine WL.step (Yl.not rfl) rfl ?_) | refine WC.seq ?_ | refine WC.region ?_ | refine WL.nil ?_ | refine WN.then_normal ?_ | refine WC.block ?_ | refine WC.skip ?_ | refine WC.ret ?_ | refine WN.then_ret ?_ | refine WN.block_normal ?_ | refine WN.block_ret ?_ | refine WN.block_here ?_ | refine WN.block_past (by decide) ?_))
      refine WC.cond_false rfl rfl ?_
      (repeat (first | (refine WL.kG ?_; first | refine WL.want rfl rfl rfl ?_ | refine WL.pass rfl rfl rfl rfl ?_) | (refine WL.k_move ?_; first | refine WL.step (Yl.move rfl) rfl ?_) | (refine WL.k_assign ?_; first | refine WL.step (Yl.assign rfl) rfl ?_) | (refine WL.k_pick ?_; first | refine WL.step (Yl.pick_t rfl rfl rfl) rfl ?_ | refine WL.step (Yl.pick_f rfl rfl rfl) rfl ?_) | (refine WL.k_bi .len ?_; first | refine WL.step (Yl.len (t := 30) Try.underlying30 rfl) rfl ?_) | (refine WL.k_bin .lss ?_; first | refine WL.step (Yl.lss rfl rfl) rfl ?_) | (refine WL.k_bin .geq ?_; first | refine WL.step (Yl.geq rfl rfl) rfl ?_) | (refine WL.k_unop ?_; first | refine WL.step (Yl.not rfl) rfl ?_) | refine WC.seq ?_ | refine WC.region ?_ | refine WL.nil ?_ | refine WN.then_normal ?_ | refine WC.block ?_ | refine WC.skip ?_ | refine WC.ret ?_ | refine WN.then_ret ?_ | refine WN.block_normal ?_ | refine WN.block_ret ?_ | refine WN.block_here ?_ | refine WN.block_past (by decide) ?_))
      exact WN.ret1 rfl rfl ⟨rfl, rfl⟩ .nil
theorem bcheck_bad (s : Int) (v : Value) (w : World) (h : BadAt w v) : Calls Try.prog 44 #[v, .int .i64 s] w (Gives (Val (.int .i64 1)) w) := by
  refine enter (args := [v, _]) Try.func44 Try.ntmps44 rfl rfl ?_
  (repeat (first | (refine WL.kG ?_; first | refine WL.want rfl rfl rfl ?_ | refine WL.pass rfl rfl rfl rfl ?_) | (refine WL.k_move ?_; first | refine WL.step (Yl.move rfl) rfl ?_) | (refine WL.k_assign ?_; first | refine WL.step (Yl.assign rfl) rfl ?_) | (refine WL.k_pick ?_; first | refine WL.step (Yl.pick_t rfl rfl rfl) rfl ?_ | refine WL.step (Yl.pick_f rfl rfl rfl) rfl ?_) | (refine WL.k_call 50 ?_; first | refine WL.callV (g := 50) (v := .bool false) Try.call50 rfl (fun w s => valid_bad w (h.keep s.kept)) rfl ?_) | (refine WL.k_bi .len ?_; first | refine WL.step (Yl.len (t := 30) Try.underlying30 rfl) rfl ?_) | (refine WL.k_bin .lss ?_; first | refine WL.step (Yl.lss rfl rfl) rfl ?_) | (refine WL.k_bin .geq ?_; first | refine WL.step (Yl.geq rfl rfl) rfl ?_) | (refine WL.k_unop ?_; first | refine WL.step (Yl.not rfl) rfl ?_) | refine WC.seq ?_ | refine WC.region ?_ | refine WL.nil ?_ | refine WN.then_normal ?_ | refine WC.block ?_ | refine WC.skip ?_ | refine WC.ret ?_ | refine WN.then_ret ?_ | refine WN.block_normal ?_ | refine WN.block_ret ?_ | refine WN.block_here ?_ | refine WN.block_past (by decide) ?_))
  refine WC.cond_true rfl rfl ?_
  (repeat (first | (refine WL.kG ?_; first | refine WL.want rfl rfl rfl ?_ | refine WL.pass rfl rfl rfl rfl ?_) | (refine WL.k_move ?_; first | refine WL.step (Yl.move rfl) rfl ?_) | (refine WL.k_assign ?_; first | refine WL.step (Yl.assign rfl) rfl ?_) | (refine WL.k_pick ?_; first | refine WL.step (Yl.pick_t rfl rfl rfl) rfl ?_ | refine WL.step (Yl.pick_f rfl rfl rfl) rfl ?_) | (refine WL.k_bi .len ?_; first | refine WL.step (Yl.len (t := 30) Try.underlying30 rfl) rfl ?_) | (refine WL.k_bin .lss ?_; first | refine WL.step (Yl.lss rfl rfl) rfl ?_) | (refine WL.k_bin .geq ?_; first | refine WL.step (Yl.geq rfl rfl) rfl ?_) | (refine WL.k_unop ?_; first | refine WL.step (Yl.not rfl) rfl ?_) | refine WC.seq ?_ | refine WC.region ?_ | refine WL.nil ?_ | refine WN.then_normal ?_ | refine WC.block ?_ | refine WC.skip ?_ | refine WC.ret ?_ | refine WN.then_ret ?_ | refine WN.block_normal ?_ | refine WN.block_ret ?_ | refine WN.block_here ?_ | refine WN.block_past (by decide) ?_))
  exact WN.ret1 rfl rfl ⟨rfl, rfl⟩ .nil
theorem bchk_ok {n : Nat} {s : Int} (h : bchk n s = 0) : ∃ k : Nat, s = (k : Int) ∧ k < n := by
  unfold bchk at h
  split at h
  · cases h
  · exact ⟨s.toNat, by omega, by omega⟩
theorem bchk_cases (n : Nat) (s : Int) : (bchk n s = 3 ∧ (s < 0 ∨ (n : Int) ≤ s)) ∨ (bchk n s = 0 ∧ ∃ k : Nat, s = (k : Int) ∧ k < n) := by
  by_cases h : s < 0 ∨ (n : Int) ≤ s
  · exact .inl ⟨if_pos h, h⟩
  · exact .inr ⟨if_neg h, s.toNat, by omega, by omega⟩
/-- Bytes of a sector and an error number. -/
def BOut (r : List UInt8 × Nat) : Value → List HA → Prop := NewRow (fun s => .tuple #[s, .int .i64 (r.2 : Int)]) 76 1 r.1.length (bs r.1)
def readR (d : List (List UInt8)) (F : Nat → Option (List UInt8)) (s : Int) : List UInt8 × Nat := if bchk d.length s = 0 then ((F s.toNat).getD (d.getD s.toNat []), 0) else ([], 3)
def durR (d : List (List UInt8)) (s : Int) : List UInt8 × Nat := if bchk d.length s = 0 then (d.getD s.toNat [], 0) else ([], 3)
theorem bread_c (s : Int) (w : World) (h : BankAt w bk da cap mb d F) : Calls Try.prog 40 #[bptr bk, .int .i64 s] w (Gives (BOut (readR d F s)) w) := by
  refine enter (args := [.pointer (some ⟨bk, 0, none⟩), _]) Try.func40 Try.ntmps40 rfl rfl ?_
  rcases bchk_cases d.length s with ⟨hc, hs⟩ | ⟨hc, k, rfl, hk⟩
  · rw [readR, if_neg (by rw [hc]; decide)]
    (repeat (first | (refine WL.k_move ?_; first | refine WL.step (Yl.move rfl) rfl ?_) | (refine WL.k_assign ?_; first | refine WL.step (Yl.assign rfl) rfl ?_) | (refine WL.k_extract ?_; first | refine WL.step (Yl.extract rfl rfl) rfl ?_) | (refine WL.k_call 44 ?_; first | refine WL.callV (g := 44) (v := .int .i64 3) Try.call44 rfl (fun w s0 => by have := bcheck_c s w (h.keep s0.kept); rwa [hc] at this) rfl ?_) | (refine WL.k_bin .neq ?_; first | refine WL.step (Yl.neqT rfl rfl (by decide)) rfl ?_ | refine WL.step (Yl.strNeq rfl rfl) rfl ?_ | refine WL.step (Yl.neq rfl rfl) rfl ?_) | (refine WL.k_unop ?_; first | refine WL.step (Yl.not rfl) rfl ?_) | refine WC.seq ?_ | refine WC.region ?_ | refine WL.nil ?_ | refine WN.then_normal ?_ | refine WC.skip ?_ | refine WC.ret ?_ | refine WN.then_ret ?_))
    refine WC.cond_true rfl rfl ?_
    (repeat (first | (refine WL.k_move ?_; first | refine WL.step (Yl.move rfl) rfl ?_) | (refine WL.k_assign ?_; first | refine WL.step (Yl.assign rfl) rfl ?_) | (refine WL.k_extract ?_; first | refine WL.step (Yl.extract rfl rfl) rfl ?_) | (refine WL.k_bin .neq ?_; first | refine WL.step (Yl.strNeq rfl rfl) rfl ?_ | refine WL.step (Yl.neq rfl rfl) rfl ?_) | (refine WL.k_unop ?_; first | refine WL.step (Yl.not rfl) rfl ?_) | refine WC.seq ?_ | refine WC.region ?_ | refine WL.nil ?_ | refine WN.then_normal ?_ | refine WC.skip ?_ | refine WC.ret ?_ | refine WN.then_ret ?_))
    exact WN.ret2 rfl rfl rfl ⟨none, 0, Nat.le_refl _, rfl, rfl⟩ (.free .nil)
  · rw [readR, if_pos hc]
    obtain ⟨M, c, hm, hM⟩ := h.map
    have hmem := blk_mem hk
    have hlen := h.wf.len _ hmem
    have hne := flat_ne h.wf.len h.wf.pos
    (repeat (first | (refine WL.k_move ?_; first | refine WL.step (Yl.move rfl) rfl ?_) | (refine WL.k_assign ?_; first | refine WL.step (Yl.assign rfl) rfl ?_) | (refine WL.k_extract ?_; first | refine WL.step (Yl.extract rfl rfl) rfl ?_) | (refine WL.k_call 44 ?_; first | refine WL.callV (g := 44) (v := .int .i64 0) Try.call44 rfl (fun w s0 => by have := bcheck_c (k : Int) w (h.keep s0.kept); rwa [hc] at this) rfl ?_) | (refine WL.k_bin .neq ?_; first | refine WL.step (Yl.neqF rfl rfl (by decide)) rfl ?_ | refine WL.step (Yl.strNeq rfl rfl) rfl ?_ | refine WL.step (Yl.neq rfl rfl) rfl ?_) | (refine WL.k_unop ?_; first | refine WL.step (Yl.not rfl) rfl ?_) | refine WC.seq ?_ | refine WC.region ?_ | refine WL.nil ?_ | refine WN.then_normal ?_ | refine WC.skip ?_ | refine WC.ret ?_ | refine WN.then_ret ?_))
    refine WC.cond_false rfl rfl ?_
    rw [Int.toNat_natCast]
    cases hF : F k with
    | none =>
      have hb := bsize hlen
      simp only [Option.getD_none]
      (repeat (first | refine WL.step (Yl.lookupF (k := k) (enc := encB) Try.underlying78 Try.underlying3 zeroBlk rfl rfl hM hF (Has.old hm)) rfl ?_ | (refine WL.k_move ?_; first | refine WL.step (Yl.move rfl) rfl ?_) | (refine WL.k_assign ?_; first | refine WL.step (Yl.assign rfl) rfl ?_) | (refine WL.k_extract ?_; first | refine WL.step (Yl.extract rfl rfl) rfl ?_) | (refine WL.k_load ?_; first | refine WL.step (Yl.loadH Try.isAgg78 rfl (Has.old h.blk) rfl) rfl ?_) | (refine WL.k_fld ?_; first | refine WL.step (Yl.fld0 (t := 80) Try.underlying80 fl80 rfl rfl) rfl ?_) | (refine WL.k_nilc ?_; first | refine WL.step (Yl.nilCheck rfl) rfl ?_) | (refine WL.k_bin .neq ?_; first | refine WL.step (Yl.strNeq rfl rfl) rfl ?_ | refine WL.step (Yl.neq rfl rfl) rfl ?_) | (refine WL.k_unop ?_; first | refine WL.step (Yl.not rfl) rfl ?_) | refine WC.seq ?_ | refine WC.region ?_ | refine WL.nil ?_ | refine WN.then_normal ?_ | refine WC.skip ?_ | refine WC.ret ?_ | refine WN.then_ret ?_))
      refine WL.allocA zeroBlk rfl fun b => ?_
      refine WL.storeWhole (T := 76) (k := 128) (us := (bs zblk).toArray) Try.sizeOf76 rfl rfl (ball _) .here rfl rfl ?_
      (repeat (first | (refine WL.k_move ?_; first | refine WL.step (Yl.move rfl) rfl ?_) | (refine WL.k_assign ?_; first | refine WL.step (Yl.assign rfl) rfl ?_) | (refine WL.k_extract ?_; first | refine WL.step (Yl.extract rfl rfl) rfl ?_) | (refine WL.k_bin .neq ?_; first | refine WL.step (Yl.strNeq rfl rfl) rfl ?_ | refine WL.step (Yl.neq rfl rfl) rfl ?_) | (refine WL.k_unop ?_; first | refine WL.step (Yl.not rfl) rfl ?_) | refine WC.seq ?_ | refine WC.region ?_ | refine WL.nil ?_ | refine WN.then_normal ?_ | refine WC.skip ?_ | refine WC.ret ?_ | refine WN.then_ret ?_))
      refine WC.join (α := Unit) (fun _ => [(7, .pointer (some ⟨b, 0, none⟩))]) (fun _ => [.blk b (.cells (bs (d.getD k [])).toArray 76 (0, 0))]) (fun _ => True) ?_ ?_
      · refine WC.cond_true rfl rfl ?_
        (repeat (first | (refine WL.k_move ?_; first | refine WL.step (Yl.move rfl) rfl ?_) | (refine WL.k_assign ?_; first | refine WL.step (Yl.assign rfl) rfl ?_) | (refine WL.k_extract ?_; first | refine WL.step (Yl.extract rfl rfl) rfl ?_) | (refine WL.k_load ?_; first | refine WL.step (Yl.loadH Try.isAgg77 rfl (Has.old h.blk) rfl) rfl ?_ | refine WL.step (Yl.loadEl (bs (d.getD k [])) Try.isAgg76 Try.sizeOf76 rfl (Rd.old h.row) (by rw [bs_length]; exact hlen) (bs_ne (i := 0) (by omega)) (flat_get h.wf.len hk)) rfl ?_) | (refine WL.k_fld ?_; first | refine WL.step (Yl.fld0 (t := 80) Try.underlying80 fl80 rfl rfl) rfl ?_) | (refine WL.k_nilc ?_; first | refine WL.step (Yl.nilCheck rfl) rfl ?_) | (refine WL.k_idxa ?_; first | refine WL.step (Yl.indexAddr (t := 77) (j := k) Try.underlying77 Try.sizeOf76 rfl rfl (Rd.old h.row) hne hk) rfl ?_) | (refine WL.k_bin .neq ?_; first | refine WL.step (Yl.strNeq rfl rfl) rfl ?_ | refine WL.step (Yl.neq rfl rfl) rfl ?_) | (refine WL.k_unop ?_; first | refine WL.step (Yl.not rfl) rfl ?_) | refine WC.seq ?_ | refine WC.region ?_ | refine WL.nil ?_ | refine WN.then_normal ?_ | refine WC.skip ?_ | refine WC.ret ?_ | refine WN.then_ret ?_))
        refine WL.storeWhole (k := 128) (us := (bs (d.getD k [])).toArray) Try.sizeOf76 rfl rfl (ball _) .here hb rfl ?_
        (repeat (first | (refine WL.k_move ?_; first | refine WL.step (Yl.move rfl) rfl ?_) | (refine WL.k_assign ?_; first | refine WL.step (Yl.assign rfl) rfl ?_) | (refine WL.k_extract ?_; first | refine WL.step (Yl.extract rfl rfl) rfl ?_) | (refine WL.k_bin .neq ?_; first | refine WL.step (Yl.strNeq rfl rfl) rfl ?_ | refine WL.step (Yl.neq rfl rfl) rfl ?_) | (refine WL.k_unop ?_; first | refine WL.step (Yl.not rfl) rfl ?_) | refine WC.seq ?_ | refine WC.region ?_ | refine WL.nil ?_ | refine WN.then_normal ?_ | refine WC.skip ?_ | refine WC.ret ?_ | refine WN.then_ret ?_))
        exact WN.join () trivial (by repeat (first | exact Sub.nil | refine Sub.cons rfl rfl ?_)) (by repeat (first | exact Part.nil | refine Part.cons (by repeat (first | exact Pick.here | apply Pick.there)) ?_ | refine Part.free ?_))
      · intro _ _
        (repeat (first | (refine WL.k_move ?_; first | refine WL.step (Yl.move rfl) rfl ?_) | (refine WL.k_assign ?_; first | refine WL.step (Yl.assign rfl) rfl ?_) | (refine WL.k_extract ?_; first | refine WL.step (Yl.extract rfl rfl) rfl ?_) | (refine WL.k_slice ?_; first | refine WL.step (Yl.arrAll (t := 76) Try.underlying76 Try.sizeOf5 rfl) rfl ?_) | (refine WL.k_bin .neq ?_; first | refine WL.step (Yl.strNeq rfl rfl) rfl ?_ | refine WL.step (Yl.neq rfl rfl) rfl ?_) | (refine WL.k_unop ?_; first | refine WL.step (Yl.not rfl) rfl ?_) | refine WC.seq ?_ | refine WC.region ?_ | refine WL.nil ?_ | refine WN.then_normal ?_ | refine WC.skip ?_ | refine WC.ret ?_ | refine WN.then_ret ?_))
        refine WN.asRow (n := 128) .here (by rw [bs_length]; exact hlen) (by decide) ?_
        exact WN.ret2 rfl rfl rfl ⟨some ⟨b, 0, none⟩, 128, by show (d.getD k []).length ≤ 128; omega, by show _ = Value.tuple #[.slice _ (d.getD k []).length 128, _]; rw [hlen]; rfl, rfl⟩ (.cons .here .nil)
    | some u =>
      have hul := h.wf.val k u hF
      have hb := bsize hul
      simp only [Option.getD_some]
      (repeat (first | refine WL.step (Yl.lookupT (k := k) (enc := encB) (u := u) Try.underlying78 Try.underlying3 zeroBlk rfl rfl hM hF (Has.old hm)) rfl ?_ | (refine WL.k_move ?_; first | refine WL.step (Yl.move rfl) rfl ?_) | (refine WL.k_assign ?_; first | refine WL.step (Yl.assign rfl) rfl ?_) | (refine WL.k_extract ?_; first | refine WL.step (Yl.extract rfl rfl) rfl ?_) | (refine WL.k_load ?_; first | refine WL.step (Yl.loadH Try.isAgg78 rfl (Has.old h.blk) rfl) rfl ?_) | (refine WL.k_fld ?_; first | refine WL.step (Yl.fld0 (t := 80) Try.underlying80 fl80 rfl rfl) rfl ?_) | (refine WL.k_nilc ?_; first | refine WL.step (Yl.nilCheck rfl) rfl ?_) | (refine WL.k_bin .neq ?_; first | refine WL.step (Yl.strNeq rfl rfl) rfl ?_ | refine WL.step (Yl.neq rfl rfl) rfl ?_) | (refine WL.k_unop ?_; first | refine WL.step (Yl.not rfl) rfl ?_) | refine WC.seq ?_ | refine WC.region ?_ | refine WL.nil ?_ | refine WN.then_normal ?_ | refine WC.skip ?_ | refine WC.ret ?_ | refine WN.then_ret ?_))
      refine WL.allocA zeroBlk rfl fun b => ?_
      refine WL.storeWhole (T := 76) (k := 128) (us := (bs u).toArray) Try.sizeOf76 rfl rfl (ball _) .here hb rfl ?_
      (repeat (first | (refine WL.k_move ?_; first | refine WL.step (Yl.move rfl) rfl ?_) | (refine WL.k_assign ?_; first | refine WL.step (Yl.assign rfl) rfl ?_) | (refine WL.k_extract ?_; first | refine WL.step (Yl.extract rfl rfl) rfl ?_) | (refine WL.k_bin .neq ?_; first | refine WL.step (Yl.strNeq rfl rfl) rfl ?_ | refine WL.step (Yl.neq rfl rfl) rfl ?_) | (refine WL.k_unop ?_; first | refine WL.step (Yl.not rfl) rfl ?_) | refine WC.seq ?_ | refine WC.region ?_ | refine WL.nil ?_ | refine WN.then_normal ?_ | refine WC.skip ?_ | refine WC.ret ?_ | refine WN.then_ret ?_))
      refine WC.cond_false rfl rfl ?_
      (repeat (first | (refine WL.k_move ?_; first | refine WL.step (Yl.move rfl) rfl ?_) | (refine WL.k_assign ?_; first | refine WL.step (Yl.assign rfl) rfl ?_) | (refine WL.k_extract ?_; first | refine WL.step (Yl.extract rfl rfl) rfl ?_) | (refine WL.k_slice ?_; first | refine WL.step (Yl.arrAll (t := 76) Try.underlying76 Try.sizeOf5 rfl) rfl ?_) | (refine WL.k_bin .neq ?_; first | refine WL.step (Yl.strNeq rfl rfl) rfl ?_ | refine WL.step (Yl.neq rfl rfl) rfl ?_) | (refine WL.k_unop ?_; first | refine WL.step (Yl.not rfl) rfl ?_) | refine WC.seq ?_ | refine WC.region ?_ | refine WL.nil ?_ | refine WN.then_normal ?_ | refine WC.skip ?_ | refine WC.ret ?_ | refine WN.then_ret ?_))
      refine WN.asRow (n := 128) .here (by rw [bs_length]; exact hul) (by decide) ?_
      exact WN.ret2 rfl rfl rfl ⟨some ⟨b, 0, none⟩, 128, by show u.length ≤ 128; omega, by show _ = Value.tuple #[.slice _ u.length 128, _]; rw [hul]; rfl, rfl⟩ (.cons .here .nil)
theorem bread_bad (s : Int) (v : Value) (w : World) (h : BadAt w v) : Calls Try.prog 40 #[v, .int .i64 s] w (Gives (BOut ([], 1)) w) := by
  refine enter (args := [v, _]) Try.func40 Try.ntmps40 rfl rfl ?_
  (repeat (first | (refine WL.k_move ?_; first | refine WL.step (Yl.move rfl) rfl ?_) | (refine WL.k_assign ?_; first | refine WL.step (Yl.assign rfl) rfl ?_) | (refine WL.k_extract ?_; first | refine WL.step (Yl.extract rfl rfl) rfl ?_) | (refine WL.k_call 44 ?_; first | refine WL.callV (g := 44) (v := .int .i64 1) Try.call44 rfl (fun w s0 => bcheck_bad s v w (h.keep s0.kept)) rfl ?_) | (refine WL.k_bin .neq ?_; first | refine WL.step (Yl.neqT rfl rfl (by decide)) rfl ?_ | refine WL.step (Yl.strNeq rfl rfl) rfl ?_ | refine WL.step (Yl.neq rfl rfl) rfl ?_) | (refine WL.k_unop ?_; first | refine WL.step (Yl.not rfl) rfl ?_) | refine WC.seq ?_ | refine WC.region ?_ | refine WL.nil ?_ | refine WN.then_normal ?_ | refine WC.skip ?_ | refine WC.ret ?_ | refine WN.then_ret ?_))
  refine WC.cond_true rfl rfl ?_
  (repeat (first | (refine WL.k_move ?_; first | refine WL.step (Yl.move rfl) rfl ?_) | (refine WL.k_assign ?_; first | refine WL.step (Yl.assign rfl) rfl ?_) | (refine WL.k_extract ?_; first | refine WL.step (Yl.extract rfl rfl) rfl ?_) | (refine WL.k_bin .neq ?_; first | refine WL.step (Yl.strNeq rfl rfl) rfl ?_ | refine WL.step (Yl.neq rfl rfl) rfl ?_) | (refine WL.k_unop ?_; first | refine WL.step (Yl.not rfl) rfl ?_) | refine WC.seq ?_ | refine WC.region ?_ | refine WL.nil ?_ | refine WN.then_normal ?_ | refine WC.skip ?_ | refine WC.ret ?_ | refine WN.then_ret ?_))
  exact WN.ret2 rfl rfl rfl ⟨none, 0, Nat.le_refl _, rfl, rfl⟩ (.free .nil)
def DirtyV (v : Value) : Value → List HA → Prop := fun u B => ∃ bx, u = .func (.func 59) #[] #[.pointer (some ⟨bx, 0, none⟩)] ∧ B = [.blk bx (.cells #[v] 52 (0, 0))]
theorem bdirty_c (p : Option Addr) (w : World) : Calls Try.prog 55 #[.pointer p] w (Gives (DirtyV (.pointer p)) w) := by
  refine enter (args := [.pointer p]) Try.func55 Try.ntmps55 rfl rfl ?_
  (repeat (first | (refine WL.k_assign ?_; first | refine WL.step (Yl.assign rfl) rfl ?_) | refine WC.seq ?_ | refine WC.region ?_ | refine WL.nil ?_ | refine WN.then_normal ?_ | refine WC.skip ?_ | refine WC.ret ?_ | refine WN.then_ret ?_))
  refine WL.box rfl rfl fun bx => ?_
  (repeat (first | (refine WL.k_assign ?_; first | refine WL.step (Yl.assign rfl) rfl ?_) | (refine WL.k_func ?_; first | refine WL.step (Yl.makeFunc (xs := [.tmp 1]) rfl) rfl ?_) | refine WC.seq ?_ | refine WC.region ?_ | refine WL.nil ?_ | refine WN.then_normal ?_ | refine WC.skip ?_ | refine WC.ret ?_ | refine WN.then_ret ?_))
  exact WN.ret1 rfl rfl ⟨bx, rfl, rfl⟩ (.cons .here .nil)
end
end Go.Proofs.Ytmmpngigaodcgaa
