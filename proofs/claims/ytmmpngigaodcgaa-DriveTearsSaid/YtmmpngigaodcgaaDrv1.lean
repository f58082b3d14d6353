/- Drives: what they are in memory; what is only read. -/
import Derived.Test.YtmmpngigaodcgaaBnk7
import Derived.Test.YtmmpngigaodcgaaBnkP
import Derived.Test.YtmmpngigaodcgaaTwo
import Derived.Test.YtmmpngigaodcgaaPrm
namespace Go.Proofs.Ytmmpngigaodcgaa
set_option linter.unusedVariables false
set_option linter.unusedSimpArgs false
open Go Go.RowKit
set_option maxRecDepth 100000
set_option maxHeartbeats 8000000
structure DP where
  bd : Nat
  bk : Nat
  da : Option Addr
  cap : Nat
  mb : Nat
/-- A plan in memory: how many operations are left, and the numbers. -/
structure Pl where
  b : Nat
  a : Option Addr
  c : Nat
  n : Nat
  K : List Int
structure DV where
  d : List (List UInt8)
  F : Nat → Option (List UInt8)
  down : Bool
  pl : Option (Nat × List Int)
  ops : Nat
  rd : Nat
structure DS where
  d : List (List UInt8)
  F : Nat → Option (List UInt8)
  M : List (Nat × List UInt8 × Nat)
  c : Nat
  down : Bool
  pl : Option Pl
  ops : Nat
  rd : Nat
def DS.v (s : DS) : DV := ⟨s.d, s.F, s.down, s.pl.map fun q => (q.n, q.K), s.ops, s.rd⟩
def plv : Option Pl → Value
  | none => .pointer none
  | some q => .pointer (some ⟨q.b, 0, none⟩)
def Pl.obj (q : Pl) : Obj := .cells #[.int .i64 (q.n : Int), .slice q.a q.K.length q.c] 24 (0, 0)
def plI : Option Pl → List HA
  | none => []
  | some q => [.blk q.b q.obj, .row q.a q.c 3 1 (zcells q.K)]
def drO (p : DP) (s : DS) : Obj := .cells #[bptr p.bk, .bool s.down, plv s.pl, .int .i64 (s.ops : Int), .int .i64 (s.rd : Int)] 63 (0, 0)
def drI (p : DP) (s : DS) : List HA := .blk p.bd (drO p s) :: (bankItems p.bk p.da p.cap p.mb s.d s.M s.c ++ plI s.pl)
def planOk (n : Int) (K : List Int) : Prop := 0 ≤ n ∧ n ≤ 1000000 ∧ 1 ≤ K.length ∧ K.length ≤ 64 ∧ ∀ k ∈ K, 0 ≤ k ∧ k ≤ 128
instance (n : Int) (K : List Int) : Decidable (planOk n K) := inferInstanceAs (Decidable (_ ∧ _))
structure Pl.Ok (q : Pl) : Prop where
  n1 : 1 ≤ q.n
  ok : planOk q.n q.K
  c : q.K.length ≤ q.c
structure DS.Ok (s : DS) (p : DP) : Prop where
  wf : BkWf s.d s.F
  cap : s.d.length ≤ p.cap
  m : MapIs s.d.length s.F s.M s.c
  pl : ∀ q, s.pl = some q → q.Ok
theorem planOk.keep {n : Int} {K : List Int} (h : planOk n K) : keepOk K := ⟨fun e => by have := h.2.2.1; rw [e] at this; simp at this, h.2.2.2.2⟩
structure DrAt (w : World) (p : DP) (s : DS) : Prop where
  blk : w.heap[p.bd]? = some (drO p s)
  bank : BankAt w p.bk p.da p.cap p.mb s.d s.F
  pl : ∀ q, s.pl = some q → w.heap[q.b]? = some q.obj ∧ CellsAt w q.a (zcells q.K) ∧ q.Ok
theorem DrAt.keep {w w' : World} {p : DP} {s : DS} (h : DrAt w p s) (k : Kept w [] w') : DrAt w' p s :=
  ⟨(k.block p.bd (lt_of_heap h.blk) (by simp)).trans h.blk, h.bank.keep k, fun q hq => ⟨(k.block q.b (lt_of_heap (h.pl q hq).1) (by simp)).trans (h.pl q hq).1, (h.pl q hq).2.1.keep k, (h.pl q hq).2.2⟩⟩
theorem drI_bank {p : DP} {s : DS} {x : HA} (h : x ∈ bankItems p.bk p.da p.cap p.mb s.d s.M s.c) : x ∈ drI p s := .tail _ (List.mem_append_left _ h)
theorem DS.Ok.at_ {s : DS} {p : DP} (h : s.Ok p) {w0 w : World} {S : List Nat} {A : List HA} (st : St w0 S A w) (hi : ∀ x ∈ drI p s, x ∈ A) : DrAt w p s := by
  refine ⟨st.holds _ (hi _ (.head _)), BankAt.of h.wf h.cap h.m (hi _ (drI_bank (by simp [bankItems]))) (hi _ (drI_bank (by simp [bankItems]))) (hi _ (drI_bank (by simp [bankItems]))) st, fun q hq => ?_⟩
  have m1 : HA.blk q.b q.obj ∈ A := hi _ (.tail _ (List.mem_append_right _ (by rw [hq]; exact .head _)))
  have m2 : HA.row q.a q.c 3 1 (zcells q.K) ∈ A := hi _ (.tail _ (List.mem_append_right _ (by rw [hq]; exact .tail _ (.head _))))
  exact ⟨st.holds _ m1, Rd.row (X := ⟨Try.prog, 0, w0, S⟩) m2 w st, h.pl q hq⟩
/-- No drive, or one that was not made by New. -/
inductive DBad (w : World) : Value → Prop
  | none : DBad w (.pointer none)
  | zero (bd : Nat) : w.heap[bd]? = some (.cells #[.pointer none, .bool false, .pointer none, .int .i64 0, .int .i64 0] 63 (0, 0)) → DBad w (bptr bd)
theorem DBad.keep {w w' : World} {v : Value} (h : DBad w v) (k : Kept w [] w') : DBad w' v := by
  cases h with
  | none => exact .none
  | zero bd hb => exact .zero bd ((k.block bd (lt_of_heap hb) (by simp)).trans hb)
attribute [local irreducible] WL WC WN Yl WH WQ WT WE WU WG WV
section
variable {p : DP} {s : DS}
theorem dmade_c (w : World) (h : DrAt w p s) : Calls Try.prog 31 #[bptr p.bd] w (Gives (Val (.bool true)) w) := by
  refine enter (args := [.pointer (some ⟨p.bd, 0, none⟩)]) Try.func31 Try.ntmps31 rfl rfl ?_
  (repeat (first | (refine WL.kG ?_; first | refine WL.want rfl rfl rfl ?_ | refine WL.pass rfl rfl rfl rfl ?_) | (refine WL.k_move ?_; first | refine WL.step (Yl.move rfl) rfl ?_) | (refine WL.k_assign ?_; first | refine WL.step (Yl.assign rfl) rfl ?_) | (refine WL.k_load ?_; first | refine WL.step (Yl.loadH Try.isAgg52 rfl (Has.old h.blk) rfl) rfl ?_ | refine WL.step (Yl.loadH Try.isAgg4 rfl (Has.old h.blk) rfl) rfl ?_ | refine WL.step (Yl.loadH Try.isAgg61 rfl (Has.old h.blk) rfl) rfl ?_ | refine WL.step (Yl.loadH Try.isAgg2 rfl (Has.old h.blk) rfl) rfl ?_) | (refine WL.k_fld ?_; first | refine WL.step (Yl.fldN0 (i := 0) (o := 0) (by kernel_rfl) rfl) rfl ?_ | refine WL.step (Yl.fldN0 (i := 1) (o := 1) (by kernel_rfl) rfl) rfl ?_ | refine WL.step (Yl.fldN0 (i := 2) (o := 2) (by kernel_rfl) rfl) rfl ?_ | refine WL.step (Yl.fldN0 (i := 3) (o := 3) (by kernel_rfl) rfl) rfl ?_ | refine WL.step (Yl.fldN0 (i := 4) (o := 4) (by kernel_rfl) rfl) rfl ?_) | (refine WL.k_pick ?_; first | refine WL.step (Yl.pick_t rfl rfl rfl) rfl ?_ | refine WL.step (Yl.pick_f rfl rfl rfl) rfl ?_) | (refine WL.k_bin .neq ?_; first | refine WL.step (Yl.neqPN (by kernel_rfl) rfl) rfl ?_ | refine WL.step (Yl.strNeq rfl rfl) rfl ?_ | refine WL.step (Yl.neq rfl rfl) rfl ?_) | (refine WL.k_nilc ?_; first | refine WL.step (Yl.nilCheck rfl) rfl ?_) | refine WC.seq ?_ | refine WC.region ?_ | refine WL.nil ?_ | refine WN.then_normal ?_ | refine WC.skip ?_ | refine WC.ret ?_ | refine WN.then_ret ?_))
  exact WN.ret1 rfl rfl ⟨rfl, rfl⟩ .nil
theorem dmade_bad (v : Value) (w : World) (h : DBad w v) : Calls Try.prog 31 #[v] w (Gives (Val (.bool false)) w) := by
  cases h with
  | none =>
    refine enter (args := [.pointer none]) Try.func31 Try.ntmps31 rfl rfl ?_
    (repeat (first | (refine WL.kG ?_; first | refine WL.passU rfl rfl rfl ?_ | refine WL.want rfl rfl rfl ?_ | refine WL.pass rfl rfl rfl rfl ?_) | (refine WL.k_move ?_; first | refine WL.step (Yl.move rfl) rfl ?_) | (refine WL.k_assign ?_; first | refine WL.step (Yl.assign rfl) rfl ?_) | (refine WL.k_pick ?_; first | refine WL.step (Yl.pick_t rfl rfl rfl) rfl ?_ | refine WL.step (Yl.pick_f rfl rfl rfl) rfl ?_) | (refine WL.k_bin .neq ?_; first | refine WL.step (Yl.neqPN (by kernel_rfl) rfl) rfl ?_ | refine WL.step (Yl.strNeq rfl rfl) rfl ?_ | refine WL.step (Yl.neq rfl rfl) rfl ?_) | refine WC.seq ?_ | refine WC.region ?_ | refine WL.nil ?_ | refine WN.then_normal ?_ | refine WC.skip ?_ | refine WC.ret ?_ | refine WN.then_ret ?_))
    exact WN.ret1 rfl rfl ⟨rfl, rfl⟩ .nil
  | zero bd hb =>
    refine enter (args := [.pointer (some ⟨bd, 0, none⟩)]) Try.func31 Try.ntmps31 rfl rfl ?_
    (repeat (first | (refine WL.kG ?_; first | refine WL.want rfl rfl rfl ?_ | refine WL.pass rfl rfl rfl rfl ?_) | (refine WL.k_move ?_; first | refine WL.step (Yl.move rfl) rfl ?_) | (refine WL.k_assign ?_; first | refine WL.step (Yl.assign rfl) rfl ?_) | (refine WL.k_load ?_; first | refine WL.step (Yl.loadH Try.isAgg52 rfl (Has.old hb) rfl) rfl ?_ | refine WL.step (Yl.loadH Try.isAgg4 rfl (Has.old hb) rfl) rfl ?_ | refine WL.step (Yl.loadH Try.isAgg61 rfl (Has.old hb) rfl) rfl ?_ | refine WL.step (Yl.loadH Try.isAgg2 rfl (Has.old hb) rfl) rfl ?_) | (refine WL.k_fld ?_; first | refine WL.step (Yl.fldN0 (i := 0) (o := 0) (by kernel_rfl) rfl) rfl ?_ | refine WL.step (Yl.fldN0 (i := 1) (o := 1) (by kernel_rfl) rfl) rfl ?_ | refine WL.step (Yl.fldN0 (i := 2) (o := 2) (by kernel_rfl) rfl) rfl ?_ | refine WL.step (Yl.fldN0 (i := 3) (o := 3) (by kernel_rfl) rfl) rfl ?_ | refine WL.step (Yl.fldN0 (i := 4) (o := 4) (by kernel_rfl) rfl) rfl ?_) | (refine WL.k_pick ?_; first | refine WL.step (Yl.pick_t rfl rfl rfl) rfl ?_ | refine WL.step (Yl.pick_f rfl rfl rfl) rfl ?_) | (refine WL.k_bin .neq ?_; first | refine WL.step (Yl.neqPN (by kernel_rfl) rfl) rfl ?_ | refine WL.step (Yl.strNeq rfl rfl) rfl ?_ | refine WL.step (Yl.neq rfl rfl) rfl ?_) | (refine WL.k_nilc ?_; first | refine WL.step (Yl.nilCheck rfl) rfl ?_) | refine WC.seq ?_ | refine WC.region ?_ | refine WL.nil ?_ | refine WN.then_normal ?_ | refine WC.skip ?_ | refine WC.ret ?_ | refine WN.then_ret ?_))
    exact WN.ret1 rfl rfl ⟨rfl, rfl⟩ .nil
theorem dcheck_c (w : World) (h : DrAt w p s) : Calls Try.prog 34 #[bptr p.bd] w (Gives (Val (.int .i64 (if s.down then 11 else 0))) w) := by
  refine enter (args := [.pointer (some ⟨p.bd, 0, none⟩)]) Try.func34 Try.ntmps34 rfl rfl ?_
  (repeat (first | (refine WL.k_move ?_; first | refine WL.step (Yl.move rfl) rfl ?_) | (refine WL.k_assign ?_; first | refine WL.step (Yl.assign rfl) rfl ?_) | (refine WL.k_call 31 ?_; first | refine WL.callV (g := 31) (v := .bool true) Try.call31 rfl (fun w0 st => dmade_c w0 (h.keep st.kept)) rfl ?_) | (refine WL.k_unop ?_; first | refine WL.step (Yl.not rfl) rfl ?_) | refine WC.seq ?_ | refine WC.region ?_ | refine WL.nil ?_ | refine WN.then_normal ?_ | refine WC.block ?_ | refine WC.skip ?_ | refine WC.ret ?_ | refine WN.then_ret ?_ | refine WN.block_normal ?_ | refine WN.block_ret ?_ | refine WN.block_here ?_ | refine WN.block_past (by decide) ?_))
  refine WC.cond_false rfl rfl ?_
  (repeat (first | (refine WL.k_move ?_; first | refine WL.step (Yl.move rfl) rfl ?_) | (refine WL.k_assign ?_; first | refine WL.step (Yl.assign rfl) rfl ?_) | (refine WL.k_load ?_; first | refine WL.step (Yl.loadH Try.isAgg52 rfl (Has.old h.blk) rfl) rfl ?_ | refine WL.step (Yl.loadH Try.isAgg4 rfl (Has.old h.blk) rfl) rfl ?_ | refine WL.step (Yl.loadH Try.isAgg61 rfl (Has.old h.blk) rfl) rfl ?_ | refine WL.step (Yl.loadH Try.isAgg2 rfl (Has.old h.blk) rfl) rfl ?_) | (refine WL.k_fld ?_; first | refine WL.step (Yl.fldN0 (i := 0) (o := 0) (by kernel_rfl) rfl) rfl ?_ | refine WL.step (Yl.fldN0 (i := 1) (o := 1) (by kernel_rfl) rfl) rfl ?_ | refine WL.step (Yl.fldN0 (i := 2) (o := 2) (by kernel_rfl) rfl) rfl ?_ | refine WL.step (Yl.fldN0 (i := 3) (o := 3) (by kernel_rfl) rfl) rfl ?_ | refine WL.step (Yl.fldN0 (i := 4) (o := 4) (by kernel_rfl) rfl) rfl ?_) | (refine WL.k_nilc ?_; first | refine WL.step (Yl.nilCheck rfl) rfl ?_) | (refine WL.k_unop ?_; first | refine WL.step (Yl.not rfl) rfl ?_) | refine WC.seq ?_ | refine WC.region ?_ | refine WL.nil ?_ | refine WN.then_normal ?_ | refine WC.block ?_ | refine WC.skip ?_ | refine WC.ret ?_ | refine WN.then_ret ?_ | refine WN.block_normal ?_ | refine WN.block_ret ?_ | refine WN.block_here ?_ | refine WN.block_past (by decide) ?_))
  cases e : s.down
  · refine WC.cond_false rfl rfl ?_
    (repeat (first | (refine WL.k_move ?_; first | refine WL.step (Yl.move rfl) rfl ?_) | (refine WL.k_assign ?_; first | refine WL.step (Yl.assign rfl) rfl ?_) | (refine WL.k_unop ?_; first | refine WL.step (Yl.not rfl) rfl ?_) | refine WC.seq ?_ | refine WC.region ?_ | refine WL.nil ?_ | refine WN.then_normal ?_ | refine WC.block ?_ | refine WC.skip ?_ | refine WC.ret ?_ | refine WN.then_ret ?_ | refine WN.block_normal ?_ | refine WN.block_ret ?_ | refine WN.block_here ?_ | refine WN.block_past (by decide) ?_))
    exact WN.ret1 rfl rfl ⟨rfl, rfl⟩ .nil
  · refine WC.cond_true rfl rfl ?_
    (repeat (first | (refine WL.k_move ?_; first | refine WL.step (Yl.move rfl) rfl ?_) | (refine WL.k_assign ?_; first | refine WL.step (Yl.assign rfl) rfl ?_) | (refine WL.k_unop ?_; first | refine WL.step (Yl.not rfl) rfl ?_) | refine WC.seq ?_ | refine WC.region ?_ | refine WL.nil ?_ | refine WN.then_normal ?_ | refine WC.block ?_ | refine WC.skip ?_ | refine WC.ret ?_ | refine WN.then_ret ?_ | refine WN.block_normal ?_ | refine WN.block_ret ?_ | refine WN.block_here ?_ | refine WN.block_past (by decide) ?_))
    exact WN.ret1 rfl rfl ⟨rfl, rfl⟩ .nil
theorem dcheck_bad (v : Value) (w : World) (h : DBad w v) : Calls Try.prog 34 #[v] w (Gives (Val (.int .i64 1)) w) := by
  refine enter (args := [v]) Try.func34 Try.ntmps34 rfl rfl ?_
  (repeat (first | (refine WL.k_move ?_; first | refine WL.step (Yl.move rfl) rfl ?_) | (refine WL.k_assign ?_; first | refine WL.step (Yl.assign rfl) rfl ?_) | (refine WL.k_call 31 ?_; first | refine WL.callV (g := 31) (v := .bool false) Try.call31 rfl (fun w0 st => dmade_bad v w0 (h.keep st.kept)) rfl ?_) | (refine WL.k_unop ?_; first | refine WL.step (Yl.not rfl) rfl ?_) | refine WC.seq ?_ | refine WC.region ?_ | refine WL.nil ?_ | refine WN.then_normal ?_ | refine WC.block ?_ | refine WC.skip ?_ | refine WC.ret ?_ | refine WN.then_ret ?_ | refine WN.block_normal ?_ | refine WN.block_ret ?_ | refine WN.block_here ?_ | refine WN.block_past (by decide) ?_))
  refine WC.cond_true rfl rfl ?_
  (repeat (first | (refine WL.k_move ?_; first | refine WL.step (Yl.move rfl) rfl ?_) | (refine WL.k_assign ?_; first | refine WL.step (Yl.assign rfl) rfl ?_) | (refine WL.k_unop ?_; first | refine WL.step (Yl.not rfl) rfl ?_) | refine WC.seq ?_ | refine WC.region ?_ | refine WL.nil ?_ | refine WN.then_normal ?_ | refine WC.block ?_ | refine WC.skip ?_ | refine WC.ret ?_ | refine WN.then_ret ?_ | refine WN.block_normal ?_ | refine WN.block_ret ?_ | refine WN.block_here ?_ | refine WN.block_past (by decide) ?_))
  exact WN.ret1 rfl rfl ⟨rfl, rfl⟩ .nil
theorem ddown_c (w : World) (h : DrAt w p s) : Calls Try.prog 15 #[bptr p.bd] w (Gives (Val (.bool s.down)) w) := by
  refine enter (args := [.pointer (some ⟨p.bd, 0, none⟩)]) Try.func15 Try.ntmps15 rfl rfl ?_
  (repeat (first | (refine WL.kG ?_; first | refine WL.want rfl rfl rfl ?_ | refine WL.pass rfl rfl rfl rfl ?_) | (refine WL.k_move ?_; first | refine WL.step (Yl.move rfl) rfl ?_) | (refine WL.k_assign ?_; first | refine WL.step (Yl.assign rfl) rfl ?_) | (refine WL.k_load ?_; first | refine WL.step (Yl.loadH Try.isAgg52 rfl (Has.old h.blk) rfl) rfl ?_ | refine WL.step (Yl.loadH Try.isAgg4 rfl (Has.old h.blk) rfl) rfl ?_ | refine WL.step (Yl.loadH Try.isAgg61 rfl (Has.old h.blk) rfl) rfl ?_ | refine WL.step (Yl.loadH Try.isAgg2 rfl (Has.old h.blk) rfl) rfl ?_) | (refine WL.k_fld ?_; first | refine WL.step (Yl.fldN0 (i := 0) (o := 0) (by kernel_rfl) rfl) rfl ?_ | refine WL.step (Yl.fldN0 (i := 1) (o := 1) (by kernel_rfl) rfl) rfl ?_ | refine WL.step (Yl.fldN0 (i := 2) (o := 2) (by kernel_rfl) rfl) rfl ?_ | refine WL.step (Yl.fldN0 (i := 3) (o := 3) (by kernel_rfl) rfl) rfl ?_ | refine WL.step (Yl.fldN0 (i := 4) (o := 4) (by kernel_rfl) rfl) rfl ?_) | (refine WL.k_pick ?_; first | refine WL.step (Yl.pick_t rfl rfl rfl) rfl ?_ | refine WL.step (Yl.pick_f rfl rfl rfl) rfl ?_) | (refine WL.k_call 31 ?_; first | refine WL.callV (g := 31) (v := .bool true) Try.call31 rfl (fun w0 st => dmade_c w0 (h.keep st.kept)) rfl ?_) | (refine WL.k_nilc ?_; first | refine WL.step (Yl.nilCheck rfl) rfl ?_) | refine WC.seq ?_ | refine WC.region ?_ | refine WL.nil ?_ | refine WN.then_normal ?_ | refine WC.skip ?_ | refine WC.ret ?_ | refine WN.then_ret ?_))
  exact WN.ret1 rfl rfl ⟨rfl, rfl⟩ .nil
theorem ddown_bad (v : Value) (w : World) (h : DBad w v) : Calls Try.prog 15 #[v] w (Gives (Val (.bool false)) w) := by
  refine enter (args := [v]) Try.func15 Try.ntmps15 rfl rfl ?_
  (repeat (first | (refine WL.kG ?_; first | refine WL.passU rfl rfl rfl ?_ | refine WL.want rfl rfl rfl ?_ | refine WL.pass rfl rfl rfl rfl ?_) | (refine WL.k_move ?_; first | refine WL.step (Yl.move rfl) rfl ?_) | (refine WL.k_assign ?_; first | refine WL.step (Yl.assign rfl) rfl ?_) | (refine WL.k_pick ?_; first | refine WL.step (Yl.pick_t rfl rfl rfl) rfl ?_ | refine WL.step (Yl.pick_f rfl rfl rfl) rfl ?_) | (refine WL.k_call 31 ?_; first | refine WL.callV (g := 31) (v := .bool false) Try.call31 rfl (fun w0 st => dmade_bad v w0 (h.keep st.kept)) rfl ?_) | refine WC.seq ?_ | refine WC.region ?_ | refine WL.nil ?_ | refine WN.then_normal ?_ | refine WC.skip ?_ | refine WC.ret ?_ | refine WN.then_ret ?_))
  exact WN.ret1 rfl rfl ⟨rfl, rfl⟩ .nil
theorem dops_c (w : World) (h : DrAt w p s) : Calls Try.prog 21 #[bptr p.bd] w (Gives (Val (.int .i64 (s.ops : Int))) w) := by
  refine enter (args := [.pointer (some ⟨p.bd, 0, none⟩)]) Try.func21 Try.ntmps21 rfl rfl ?_
  (repeat (first | (refine WL.k_move ?_; first | refine WL.step (Yl.move rfl) rfl ?_) | (refine WL.k_assign ?_; first | refine WL.step (Yl.assign rfl) rfl ?_) | (refine WL.k_call 31 ?_; first | refine WL.callV (g := 31) (v := .bool true) Try.call31 rfl (fun w0 st => dmade_c w0 (h.keep st.kept)) rfl ?_) | (refine WL.k_unop ?_; first | refine WL.step (Yl.not rfl) rfl ?_) | refine WC.seq ?_ | refine WC.region ?_ | refine WL.nil ?_ | refine WN.then_normal ?_ | refine WC.skip ?_ | refine WC.ret ?_ | refine WN.then_ret ?_))
  refine WC.cond_false rfl rfl ?_
  (repeat (first | (refine WL.k_move ?_; first | refine WL.step (Yl.move rfl) rfl ?_) | (refine WL.k_assign ?_; first | refine WL.step (Yl.assign rfl) rfl ?_) | (refine WL.k_load ?_; first | refine WL.step (Yl.loadH Try.isAgg52 rfl (Has.old h.blk) rfl) rfl ?_ | refine WL.step (Yl.loadH Try.isAgg4 rfl (Has.old h.blk) rfl) rfl ?_ | refine WL.step (Yl.loadH Try.isAgg61 rfl (Has.old h.blk) rfl) rfl ?_ | refine WL.step (Yl.loadH Try.isAgg2 rfl (Has.old h.blk) rfl) rfl ?_) | (refine WL.k_fld ?_; first | refine WL.step (Yl.fldN0 (i := 0) (o := 0) (by kernel_rfl) rfl) rfl ?_ | refine WL.step (Yl.fldN0 (i := 1) (o := 1) (by kernel_rfl) rfl) rfl ?_ | refine WL.step (Yl.fldN0 (i := 2) (o := 2) (by kernel_rfl) rfl) rfl ?_ | refine WL.step (Yl.fldN0 (i := 3) (o := 3) (by kernel_rfl) rfl) rfl ?_ | refine WL.step (Yl.fldN0 (i := 4) (o := 4) (by kernel_rfl) rfl) rfl ?_) | (refine WL.k_nilc ?_; first | refine WL.step (Yl.nilCheck rfl) rfl ?_) | (refine WL.k_unop ?_; first | refine WL.step (Yl.not rfl) rfl ?_) | refine WC.seq ?_ | refine WC.region ?_ | refine WL.nil ?_ | refine WN.then_normal ?_ | refine WC.skip ?_ | refine WC.ret ?_ | refine WN.then_ret ?_))
  exact WN.ret1 rfl rfl ⟨rfl, rfl⟩ .nil
theorem dops_bad (v : Value) (w : World) (h : DBad w v) : Calls Try.prog 21 #[v] w (Gives (Val (.int .i64 0)) w) := by
  refine enter (args := [v]) Try.func21 Try.ntmps21 rfl rfl ?_
  (repeat (first | (refine WL.k_move ?_; first | refine WL.step (Yl.move rfl) rfl ?_) | (refine WL.k_assign ?_; first | refine WL.step (Yl.assign rfl) rfl ?_) | (refine WL.k_call 31 ?_; first | refine WL.callV (g := 31) (v := .bool false) Try.call31 rfl (fun w0 st => dmade_bad v w0 (h.keep st.kept)) rfl ?_) | (refine WL.k_unop ?_; first | refine WL.step (Yl.not rfl) rfl ?_) | refine WC.seq ?_ | refine WC.region ?_ | refine WL.nil ?_ | refine WN.then_normal ?_ | refine WC.skip ?_ | refine WC.ret ?_ | refine WN.then_ret ?_))
  refine WC.cond_true rfl rfl ?_
  (repeat (first | (refine WL.k_move ?_; first | refine WL.step (Yl.move rfl) rfl ?_) | (refine WL.k_assign ?_; first | refine WL.step (Yl.assign rfl) rfl ?_) | (refine WL.k_unop ?_; first | refine WL.step (Yl.not rfl) rfl ?_) | refine WC.seq ?_ | refine WC.region ?_ | refine WL.nil ?_ | refine WN.then_normal ?_ | refine WC.skip ?_ | refine WC.ret ?_ | refine WN.then_ret ?_))
  exact WN.ret1 rfl rfl ⟨rfl, rfl⟩ .nil
theorem dreads_c (w : World) (h : DrAt w p s) : Calls Try.prog 22 #[bptr p.bd] w (Gives (Val (.int .i64 (s.rd : Int))) w) := by
  refine enter (args := [.pointer (some ⟨p.bd, 0, none⟩)]) Try.func22 Try.ntmps22 rfl rfl ?_
  (repeat (first | (refine WL.k_move ?_; first | refine WL.step (Yl.move rfl) rfl ?_) | (refine WL.k_assign ?_; first | refine WL.step (Yl.assign rfl) rfl ?_) | (refine WL.k_call 31 ?_; first | refine WL.callV (g := 31) (v := .bool true) Try.call31 rfl (fun w0 st => dmade_c w0 (h.keep st.kept)) rfl ?_) | (refine WL.k_unop ?_; first | refine WL.step (Yl.not rfl) rfl ?_) | refine WC.seq ?_ | refine WC.region ?_ | refine WL.nil ?_ | refine WN.then_normal ?_ | refine WC.skip ?_ | refine WC.ret ?_ | refine WN.then_ret ?_))
  refine WC.cond_false rfl rfl ?_
  (repeat (first | (refine WL.k_move ?_; first | refine WL.step (Yl.move rfl) rfl ?_) | (refine WL.k_assign ?_; first | refine WL.step (Yl.assign rfl) rfl ?_) | (refine WL.k_load ?_; first | refine WL.step (Yl.loadH Try.isAgg52 rfl (Has.old h.blk) rfl) rfl ?_ | refine WL.step (Yl.loadH Try.isAgg4 rfl (Has.old h.blk) rfl) rfl ?_ | refine WL.step (Yl.loadH Try.isAgg61 rfl (Has.old h.blk) rfl) rfl ?_ | refine WL.step (Yl.loadH Try.isAgg2 rfl (Has.old h.blk) rfl) rfl ?_) | (refine WL.k_fld ?_; first | refine WL.step (Yl.fldN0 (i := 0) (o := 0) (by kernel_rfl) rfl) rfl ?_ | refine WL.step (Yl.fldN0 (i := 1) (o := 1) (by kernel_rfl) rfl) rfl ?_ | refine WL.step (Yl.fldN0 (i := 2) (o := 2) (by kernel_rfl) rfl) rfl ?_ | refine WL.step (Yl.fldN0 (i := 3) (o := 3) (by kernel_rfl) rfl) rfl ?_ | refine WL.step (Yl.fldN0 (i := 4) (o := 4) (by kernel_rfl) rfl) rfl ?_) | (refine WL.k_nilc ?_; first | refine WL.step (Yl.nilCheck rfl) rfl ?_) | (refine WL.k_unop ?_; first | refine WL.step (Yl.not rfl) rfl ?_) | refine WC.seq ?_ | refine WC.region ?_ | refine WL.nil ?_ | refine WN.then_normal ?_ | refine WC.skip ?_ | refine WC.ret ?_ | refine WN.then_ret ?_))
  exact WN.ret1 rfl rfl ⟨rfl, rfl⟩ .nil
theorem dreads_bad (v : Value) (w : World) (h : DBad w v) : Calls Try.prog 22 #[v] w (Gives (Val (.int .i64 0)) w) := by
  refine enter (args := [v]) Try.func22 Try.ntmps22 rfl rfl ?_
  (repeat (first | (refine WL.k_move ?_; first | refine WL.step (Yl.move rfl) rfl ?_) | (refine WL.k_assign ?_; first | refine WL.step (Yl.assign rfl) rfl ?_) | (refine WL.k_call 31 ?_; first | refine WL.callV (g := 31) (v := .bool false) Try.call31 rfl (fun w0 st => dmade_bad v w0 (h.keep st.kept)) rfl ?_) | (refine WL.k_unop ?_; first | refine WL.step (Yl.not rfl) rfl ?_) | refine WC.seq ?_ | refine WC.region ?_ | refine WL.nil ?_ | refine WN.then_normal ?_ | refine WC.skip ?_ | refine WC.ret ?_ | refine WN.then_ret ?_))
  refine WC.cond_true rfl rfl ?_
  (repeat (first | (refine WL.k_move ?_; first | refine WL.step (Yl.move rfl) rfl ?_) | (refine WL.k_assign ?_; first | refine WL.step (Yl.assign rfl) rfl ?_) | (refine WL.k_unop ?_; first | refine WL.step (Yl.not rfl) rfl ?_) | refine WC.seq ?_ | refine WC.region ?_ | refine WL.nil ?_ | refine WN.then_normal ?_ | refine WC.skip ?_ | refine WC.ret ?_ | refine WN.then_ret ?_))
  exact WN.ret1 rfl rfl ⟨rfl, rfl⟩ .nil
theorem dlen_c (w : World) (h : DrAt w p s) : Calls Try.prog 26 #[bptr p.bd] w (Gives (Val (.int .i64 (s.d.length : Int))) w) := by
  refine enter (args := [.pointer (some ⟨p.bd, 0, none⟩)]) Try.func26 Try.ntmps26 rfl rfl ?_
  (repeat (first | (refine WL.k_move ?_; first | refine WL.step (Yl.move rfl) rfl ?_) | (refine WL.k_assign ?_; first | refine WL.step (Yl.assign rfl) rfl ?_) | (refine WL.k_call 31 ?_; first | refine WL.callV (g := 31) (v := .bool true) Try.call31 rfl (fun w0 st => dmade_c w0 (h.keep st.kept)) rfl ?_) | (refine WL.k_unop ?_; first | refine WL.step (Yl.not rfl) rfl ?_) | refine WC.seq ?_ | refine WC.region ?_ | refine WL.nil ?_ | refine WN.then_normal ?_ | refine WC.skip ?_ | refine WC.ret ?_ | refine WN.then_ret ?_))
  refine WC.cond_false rfl rfl ?_
  (repeat (first | (refine WL.k_move ?_; first | refine WL.step (Yl.move rfl) rfl ?_) | (refine WL.k_assign ?_; first | refine WL.step (Yl.assign rfl) rfl ?_) | (refine WL.k_load ?_; first | refine WL.step (Yl.loadH Try.isAgg52 rfl (Has.old h.blk) rfl) rfl ?_ | refine WL.step (Yl.loadH Try.isAgg4 rfl (Has.old h.blk) rfl) rfl ?_ | refine WL.step (Yl.loadH Try.isAgg61 rfl (Has.old h.blk) rfl) rfl ?_ | refine WL.step (Yl.loadH Try.isAgg2 rfl (Has.old h.blk) rfl) rfl ?_) | (refine WL.k_fld ?_; first | refine WL.step (Yl.fldN0 (i := 0) (o := 0) (by kernel_rfl) rfl) rfl ?_ | refine WL.step (Yl.fldN0 (i := 1) (o := 1) (by kernel_rfl) rfl) rfl ?_ | refine WL.step (Yl.fldN0 (i := 2) (o := 2) (by kernel_rfl) rfl) rfl ?_ | refine WL.step (Yl.fldN0 (i := 3) (o := 3) (by kernel_rfl) rfl) rfl ?_ | refine WL.step (Yl.fldN0 (i := 4) (o := 4) (by kernel_rfl) rfl) rfl ?_) | (refine WL.k_nilc ?_; first | refine WL.step (Yl.nilCheck rfl) rfl ?_) | (refine WL.k_call 43 ?_; first | refine WL.callV (g := 43) Try.call43 rfl (fun w0 st => len_c w0 ((h.keep st.kept).bank)) rfl ?_) | (refine WL.k_unop ?_; first | refine WL.step (Yl.not rfl) rfl ?_) | refine WC.seq ?_ | refine WC.region ?_ | refine WL.nil ?_ | refine WN.then_normal ?_ | refine WC.skip ?_ | refine WC.ret ?_ | refine WN.then_ret ?_))
  exact WN.ret1 rfl rfl ⟨rfl, rfl⟩ .nil
theorem dlen_bad (v : Value) (w : World) (h : DBad w v) : Calls Try.prog 26 #[v] w (Gives (Val (.int .i64 0)) w) := by
  refine enter (args := [v]) Try.func26 Try.ntmps26 rfl rfl ?_
  (repeat (first | (refine WL.k_move ?_; first | refine WL.step (Yl.move rfl) rfl ?_) | (refine WL.k_assign ?_; first | refine WL.step (Yl.assign rfl) rfl ?_) | (refine WL.k_call 31 ?_; first | refine WL.callV (g := 31) (v := .bool false) Try.call31 rfl (fun w0 st => dmade_bad v w0 (h.keep st.kept)) rfl ?_) | (refine WL.k_unop ?_; first | refine WL.step (Yl.not rfl) rfl ?_) | refine WC.seq ?_ | refine WC.region ?_ | refine WL.nil ?_ | refine WN.then_normal ?_ | refine WC.skip ?_ | refine WC.ret ?_ | refine WN.then_ret ?_))
  refine WC.cond_true rfl rfl ?_
  (repeat (first | (refine WL.k_move ?_; first | refine WL.step (Yl.move rfl) rfl ?_) | (refine WL.k_assign ?_; first | refine WL.step (Yl.assign rfl) rfl ?_) | (refine WL.k_unop ?_; first | refine WL.step (Yl.not rfl) rfl ?_) | refine WC.seq ?_ | refine WC.region ?_ | refine WL.nil ?_ | refine WN.then_normal ?_ | refine WC.skip ?_ | refine WC.ret ?_ | refine WN.then_ret ?_))
  exact WN.ret1 rfl rfl ⟨rfl, rfl⟩ .nil
theorem dbank_c (w : World) (h : DrAt w p s) : Calls Try.prog 25 #[bptr p.bd] w (Gives (CopyV s.d s.F) w) := by
  refine enter (args := [.pointer (some ⟨p.bd, 0, none⟩)]) Try.func25 Try.ntmps25 rfl rfl ?_
  (repeat (first | (refine WL.k_move ?_; first | refine WL.step (Yl.move rfl) rfl ?_) | (refine WL.k_assign ?_; first | refine WL.step (Yl.assign rfl) rfl ?_) | (refine WL.k_call 31 ?_; first | refine WL.callV (g := 31) (v := .bool true) Try.call31 rfl (fun w0 st => dmade_c w0 (h.keep st.kept)) rfl ?_) | (refine WL.k_unop ?_; first | refine WL.step (Yl.not rfl) rfl ?_) | refine WC.seq ?_ | refine WC.region ?_ | refine WL.nil ?_ | refine WN.then_normal ?_ | refine WC.skip ?_ | refine WC.ret ?_ | refine WN.then_ret ?_))
  refine WC.cond_false rfl rfl ?_
  (repeat (first | (refine WL.k_move ?_; first | refine WL.step (Yl.move rfl) rfl ?_) | (refine WL.k_assign ?_; first | refine WL.step (Yl.assign rfl) rfl ?_) | (refine WL.k_load ?_; first | refine WL.step (Yl.loadH Try.isAgg52 rfl (Has.old h.blk) rfl) rfl ?_ | refine WL.step (Yl.loadH Try.isAgg4 rfl (Has.old h.blk) rfl) rfl ?_ | refine WL.step (Yl.loadH Try.isAgg61 rfl (Has.old h.blk) rfl) rfl ?_ | refine WL.step (Yl.loadH Try.isAgg2 rfl (Has.old h.blk) rfl) rfl ?_) | (refine WL.k_fld ?_; first | refine WL.step (Yl.fldN0 (i := 0) (o := 0) (by kernel_rfl) rfl) rfl ?_ | refine WL.step (Yl.fldN0 (i := 1) (o := 1) (by kernel_rfl) rfl) rfl ?_ | refine WL.step (Yl.fldN0 (i := 2) (o := 2) (by kernel_rfl) rfl) rfl ?_ | refine WL.step (Yl.fldN0 (i := 3) (o := 3) (by kernel_rfl) rfl) rfl ?_ | refine WL.step (Yl.fldN0 (i := 4) (o := 4) (by kernel_rfl) rfl) rfl ?_) | (refine WL.k_nilc ?_; first | refine WL.step (Yl.nilCheck rfl) rfl ?_) | (refine WL.k_unop ?_; first | refine WL.step (Yl.not rfl) rfl ?_) | refine WC.seq ?_ | refine WC.region ?_ | refine WL.nil ?_ | refine WN.then_normal ?_ | refine WC.skip ?_ | refine WC.ret ?_ | refine WN.then_ret ?_))
  refine WL.call (g := 42) Try.call42 rfl (fun w0 st => bcopy_c w0 ((h.keep st.kept).bank)) rfl fun v B hv => ?_
  (repeat (first | (refine WL.k_move ?_; first | refine WL.step (Yl.move rfl) rfl ?_) | (refine WL.k_assign ?_; first | refine WL.step (Yl.assign rfl) rfl ?_) | (refine WL.k_unop ?_; first | refine WL.step (Yl.not rfl) rfl ?_) | refine WC.seq ?_ | refine WC.region ?_ | refine WL.nil ?_ | refine WN.then_normal ?_ | refine WC.skip ?_ | refine WC.ret ?_ | refine WN.then_ret ?_))
  refine WN.ret1 rfl rfl hv ?_
  rw [List.append_nil]
  exact Part.refl _
theorem dbank_bad (v : Value) (w : World) (h : DBad w v) : Calls Try.prog 25 #[v] w (Gives (Val (.pointer none)) w) := by
  refine enter (args := [v]) Try.func25 Try.ntmps25 rfl rfl ?_
  (repeat (first | (refine WL.k_move ?_; first | refine WL.step (Yl.move rfl) rfl ?_) | (refine WL.k_assign ?_; first | refine WL.step (Yl.assign rfl) rfl ?_) | (refine WL.k_call 31 ?_; first | refine WL.callV (g := 31) (v := .bool false) Try.call31 rfl (fun w0 st => dmade_bad v w0 (h.keep st.kept)) rfl ?_) | (refine WL.k_unop ?_; first | refine WL.step (Yl.not rfl) rfl ?_) | refine WC.seq ?_ | refine WC.region ?_ | refine WL.nil ?_ | refine WN.then_normal ?_ | refine WC.skip ?_ | refine WC.ret ?_ | refine WN.then_ret ?_))
  refine WC.cond_true rfl rfl ?_
  (repeat (first | (refine WL.k_move ?_; first | refine WL.step (Yl.move rfl) rfl ?_) | (refine WL.k_assign ?_; first | refine WL.step (Yl.assign rfl) rfl ?_) | (refine WL.k_unop ?_; first | refine WL.step (Yl.not rfl) rfl ?_) | refine WC.seq ?_ | refine WC.region ?_ | refine WL.nil ?_ | refine WN.then_normal ?_ | refine WC.skip ?_ | refine WC.ret ?_ | refine WN.then_ret ?_))
  exact WN.ret1 rfl rfl ⟨rfl, rfl⟩ .nil
end
end Go.Proofs.Ytmmpngigaodcgaa
