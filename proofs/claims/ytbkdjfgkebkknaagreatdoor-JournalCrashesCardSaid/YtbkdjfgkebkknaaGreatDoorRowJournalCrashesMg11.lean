import Derived.Test.YtbkdjfgkebkknaaGreatDoorRowJournalCrashesMg8
import Derived.Test.YtbkdjfgkebkknaaGreatDoorRowJournalCrashesMg10
import Derived.Test.YtbkdjfgkebkknaaGreatDoorRowJournalCrashesMg6
import Derived.Test.YtbkdjfgkebkknaaGreatDoorProg
namespace Go.Proofs.YtbkdjfgkebkknaaGreatDoor
set_option linter.unusedVariables false
set_option linter.unusedSimpArgs false
open Go Go.RowKit
set_option maxRecDepth 100000
set_option maxHeartbeats 8000000
structure Pc where
  at_ : Nat
  tx : Nat
  ix : Nat
def encP (x : Pc) : Value := .agg #[.int .i64 (x.at_ : Int), .int .i64 (x.tx : Int), .int .i64 (x.ix : Int)]
structure JV where
  first : Nat
  n : Nat
  ep : Int
  used : Nat
  tx : Nat
  F : Nat → Option Pc
structure JP where
  bj : Nat
  bm : Nat
structure JS where
  v : JV
  M : List (Nat × Pc × Nat)
  c : Nat
def jO (bd : Nat) (p : JP) (v : JV) : Obj := .cells #[bptr bd, .int .i64 (v.first : Int), .int .i64 (v.n : Int), .int .i64 v.ep, .int .i64 (v.used : Int), .int .i64 (v.tx : Int), .map (some p.bm)] 79 (0, 0)
def jI (bd : Nat) (p : JP) (s : JS) : List HA := [.blk p.bj (jO bd p s.v), .blk p.bm (mobj encP s.M s.c)]
structure JS.Ok (s : JS) : Prop where
  m : MapIs 4096 s.v.F s.M s.c
  ep : Frm.Ep s.v.ep
  row : s.v.first + s.v.n ≤ 4096
  n1 : 1 ≤ s.v.n
  used : s.v.used ≤ s.v.n
  tx : s.v.tx ≤ s.v.used
structure JAt (w : World) (bd : Nat) (p : JP) (s : JS) : Prop where
  ok : s.Ok
  blk : w.heap[p.bj]? = some (jO bd p s.v)
  map : w.heap[p.bm]? = some (mobj encP s.M s.c)
theorem JAt.keep {w w' : World} {bd : Nat} {p : JP} {s : JS} (h : JAt w bd p s) (k : Kept w [] w') : JAt w' bd p s :=
  ⟨h.ok, (k.block p.bj (lt_of_heap h.blk) (by simp)).trans h.blk, (k.block p.bm (lt_of_heap h.map) (by simp)).trans h.map⟩
theorem JS.Ok.at_ {s : JS} {bd : Nat} {p : JP} (h : s.Ok) {w0 w : World} {S : List Nat} {A : List HA} (st : St w0 S A w) (hi : ∀ x ∈ jI bd p s, x ∈ A) : JAt w bd p s :=
  ⟨h, st.holds _ (hi _ (.head _)), st.holds _ (hi _ (.tail _ (.head _)))⟩
def zeroJ : Obj := .cells #[.pointer none, .int .i64 0, .int .i64 0, .int .i64 0, .int .i64 0, .int .i64 0, .map none] 79 (0, 0)
inductive JBad (w : World) : Value → Prop
  | none : JBad w (.pointer none)
  | zero (b : Nat) : w.heap[b]? = some zeroJ → JBad w (bptr b)
theorem JBad.keep {w w' : World} {v : Value} (h : JBad w v) (k : Kept w [] w') : JBad w' v := by
  cases h with
  | none => exact .none
  | zero b hb => exact .zero b ((k.block b (lt_of_heap hb) (by simp)).trans hb)
def newE (len : Nat) (first n ep : Int) : Nat := if len = 0 then 1 else if ep < 1 ∨ 1099511627776 < ep then 2 else if first < 0 ∨ n < 1 ∨ (len : Int) < first ∨ len - first < n then 3 else 0
def JNewV (bd : Nat) (v : JV) : Value → List HA → Prop := fun u B => ∃ p s, JS.Ok s ∧ s.v = v ∧ u = .tuple #[bptr p.bj, .int .i64 0] ∧ B = jI bd p s
theorem buildJ (d : Option Addr) (a b e : Int) (m : Option Nat) (w : World) : (Instr.build 79 [(0, .pointer d), (1, .int .i64 a), (2, .int .i64 b), (3, .int .i64 e), (6, .map m)].toArray).run Tryz.prog w = .ok (.agg #[.pointer d, .int .i64 a, .int .i64 b, .int .i64 e, .int .i64 0, .int .i64 0, .map m]) w := by
  simp [Instr.build, Tryz.zeroValue79, run_underlying Tryz.underlying79, Tryz.sizeOf3, Tryz.sizeOf2, Tryz.sizeOf26, Tryz.sizeOf77, Value.cells, Instr.fill]
attribute [local irreducible] WL WC WN Yl WH WQ WT WE WU WG WV
section
variable {bd : Nat} {p : JP} {s : JS}
theorem jvalid_c (w : World) (h : JAt w bd p s) : Calls Tryz.prog 60 #[bptr p.bj] w (Gives (Val (.bool true)) w) := by
  refine enter (args := [.pointer (some ⟨p.bj, 0, none⟩)]) Tryz.func60 Tryz.ntmps60 rfl rfl ?_
  (repeat (first | refine WL.want rfl rfl rfl ?_ | refine WL.step (Yl.move rfl) rfl ?_ | refine WL.step (Yl.assign rfl) rfl ?_ | refine WL.step (Yl.loadH Tryz.isAgg26 rfl (Has.old h.blk) rfl) rfl ?_ | (refine WL.k_fld ?_; refine WL.step (Yl.fldN0 (i := 0) (o := 0) (by kernel_rfl) rfl) rfl ?_) | refine WL.step (Yl.pick_t rfl rfl rfl) rfl ?_ | (refine WL.k_bin .neq ?_; refine WL.step (Yl.neqPN (by kernel_rfl) rfl) rfl ?_) | refine WL.step (Yl.nilCheck rfl) rfl ?_ | refine WC.seq ?_ | refine WC.region ?_ | refine WL.nil ?_ | refine WN.then_normal ?_ | refine WC.ret ?_))
  exact WN.ret1 rfl rfl ⟨rfl, rfl⟩ .nil
theorem jtx_c (w : World) (h : JAt w bd p s) : Calls Tryz.prog 35 #[bptr p.bj] w (Gives (Val (.int .i64 ((s.v.tx : Int)))) w) := by
  refine enter (args := [.pointer (some ⟨p.bj, 0, none⟩)]) Tryz.func35 Tryz.ntmps35 rfl rfl ?_
  (repeat (first | refine WL.step (Yl.move rfl) rfl ?_ | refine WL.step (Yl.assign rfl) rfl ?_ | refine WL.callV (g := 60) (v := .bool true) Tryz.call60 rfl (fun w0 st => jvalid_c w0 (h.keep st.kept)) rfl ?_ | refine WL.step (Yl.not rfl) rfl ?_ | refine WC.seq ?_ | refine WC.region ?_ | refine WL.nil ?_ | refine WN.then_normal ?_))
  refine WC.cond_false rfl rfl ?_
  (repeat (first | refine WL.step (Yl.move rfl) rfl ?_ | refine WL.step (Yl.assign rfl) rfl ?_ | refine WL.step (Yl.loadH Tryz.isAgg26 rfl (Has.old h.blk) rfl) rfl ?_ | (refine WL.k_fld ?_; refine WL.step (Yl.fldN0 (i := 5) (o := 5) (by kernel_rfl) rfl) rfl ?_) | refine WL.step (Yl.nilCheck rfl) rfl ?_ | refine WC.seq ?_ | refine WC.region ?_ | refine WL.nil ?_ | refine WN.then_normal ?_ | refine WC.skip ?_ | refine WC.ret ?_))
  exact WN.ret1 rfl rfl ⟨rfl, rfl⟩ .nil
theorem jused_c (w : World) (h : JAt w bd p s) : Calls Tryz.prog 36 #[bptr p.bj] w (Gives (Val (.int .i64 ((s.v.used : Int)))) w) := by
  refine enter (args := [.pointer (some ⟨p.bj, 0, none⟩)]) Tryz.func36 Tryz.ntmps36 rfl rfl ?_
  (repeat (first | refine WL.step (Yl.move rfl) rfl ?_ | refine WL.step (Yl.assign rfl) rfl ?_ | refine WL.callV (g := 60) (v := .bool true) Tryz.call60 rfl (fun w0 st => jvalid_c w0 (h.keep st.kept)) rfl ?_ | refine WL.step (Yl.not rfl) rfl ?_ | refine WC.seq ?_ | refine WC.region ?_ | refine WL.nil ?_ | refine WN.then_normal ?_))
  refine WC.cond_false rfl rfl ?_
  (repeat (first | refine WL.step (Yl.move rfl) rfl ?_ | refine WL.step (Yl.assign rfl) rfl ?_ | refine WL.step (Yl.loadH Tryz.isAgg26 rfl (Has.old h.blk) rfl) rfl ?_ | (refine WL.k_fld ?_; refine WL.step (Yl.fldN0 (i := 4) (o := 4) (by kernel_rfl) rfl) rfl ?_) | refine WL.step (Yl.nilCheck rfl) rfl ?_ | refine WC.seq ?_ | refine WC.region ?_ | refine WL.nil ?_ | refine WN.then_normal ?_ | refine WC.skip ?_ | refine WC.ret ?_))
  exact WN.ret1 rfl rfl ⟨rfl, rfl⟩ .nil
end
section
variable {dp : DP} {ds : DS}
theorem jnew_e (first n ep : Int) (w : World) (hd : DrAt w dp ds) (hl : ds.d.length ≤ 4096) (he : newE ds.d.length first n ep ≠ 0) : Calls Tryz.prog 12 #[bptr dp.bd, .int .i64 first, .int .i64 n, .int .i64 ep] w (Gives (Val (.tuple #[.pointer none, .int .i64 (newE ds.d.length first n ep : Int)])) w) := by
  have hpos := hd.bank.wf.pos
  unfold newE at he ⊢
  rw [if_neg (by omega)] at he ⊢
  by_cases h2 : ep < 1 ∨ 1099511627776 < ep
  · rw [if_pos h2] at he ⊢
    refine enter (args := [.pointer (some ⟨dp.bd, 0, none⟩), _, _, _]) Tryz.func12 Tryz.ntmps12 rfl rfl ?_
    (repeat (first | refine WL.step (Yl.move rfl) rfl ?_ | refine WL.step (Yl.assign rfl) rfl ?_ | refine WL.callV (g := 56) Tryz.call56 rfl (fun w0 st => dlen_c w0 (hd.keep st.kept)) rfl ?_ | (refine WL.k_bin .eql ?_; refine WL.step (Yl.eqlF rfl rfl (by omega)) rfl ?_) | refine WC.seq ?_ | refine WC.region ?_ | refine WL.nil ?_ | refine WN.then_normal ?_ | refine WC.block ?_))
    by_cases h3 : ep < 1
    · refine WC.cond_false rfl rfl ?_
      (repeat (first | refine WL.pass rfl rfl rfl rfl ?_ | refine WL.step (Yl.move rfl) rfl ?_ | refine WL.step (Yl.assign rfl) rfl ?_ | refine WL.step (Yl.pick_t rfl rfl rfl) rfl ?_ | (refine WL.k_bin .lss ?_; refine WL.step (Yl.lssT rfl rfl (by omega)) rfl ?_) | refine WC.seq ?_ | refine WC.region ?_ | refine WL.nil ?_ | refine WN.then_normal ?_))
      refine WC.cond_true rfl rfl ?_
      (repeat (first | refine WL.step (Yl.assign rfl) rfl ?_ | refine WC.seq ?_ | refine WC.region ?_ | refine WL.nil ?_ | refine WN.then_normal ?_ | refine WC.ret ?_ | refine WN.then_ret ?_ | refine WN.block_ret ?_))
      exact WN.ret2 rfl rfl rfl ⟨rfl, rfl⟩ .nil
    · refine WC.cond_false rfl rfl ?_
      (repeat (first | refine WL.want rfl rfl rfl ?_ | refine WL.step (Yl.move rfl) rfl ?_ | refine WL.step (Yl.assign rfl) rfl ?_ | refine WL.step (Yl.pick_f rfl rfl rfl) rfl ?_ | (refine WL.k_bin .lss ?_; refine WL.step (Yl.lssF rfl rfl (by omega)) rfl ?_) | (refine WL.k_bin .gtr ?_; refine WL.step (Yl.gtrT rfl rfl (by omega)) rfl ?_) | refine WC.seq ?_ | refine WC.region ?_ | refine WL.nil ?_ | refine WN.then_normal ?_))
      refine WC.cond_true rfl rfl ?_
      (repeat (first | refine WL.step (Yl.assign rfl) rfl ?_ | refine WC.seq ?_ | refine WC.region ?_ | refine WL.nil ?_ | refine WN.then_normal ?_ | refine WC.ret ?_ | refine WN.then_ret ?_ | refine WN.block_ret ?_))
      exact WN.ret2 rfl rfl rfl ⟨rfl, rfl⟩ .nil
  rw [if_neg h2] at he ⊢
  have h3 : first < 0 ∨ n < 1 ∨ (ds.d.length : Int) < first ∨ ds.d.length - first < n := by
    by_cases h : first < 0 ∨ n < 1 ∨ (ds.d.length : Int) < first ∨ ds.d.length - first < n
    · exact h
    · rw [if_neg h] at he; exact absurd rfl he
  rw [if_pos h3]
  refine enter (args := [.pointer (some ⟨dp.bd, 0, none⟩), _, _, _]) Tryz.func12 Tryz.ntmps12 rfl rfl ?_
  (repeat (first | refine WL.step (Yl.move rfl) rfl ?_ | refine WL.step (Yl.assign rfl) rfl ?_ | refine WL.callV (g := 56) Tryz.call56 rfl (fun w0 st => dlen_c w0 (hd.keep st.kept)) rfl ?_ | (refine WL.k_bin .eql ?_; refine WL.step (Yl.eqlF rfl rfl (by omega)) rfl ?_) | refine WC.seq ?_ | refine WC.region ?_ | refine WL.nil ?_ | refine WN.then_normal ?_ | refine WC.block ?_))
  refine WC.cond_false rfl rfl ?_
  (repeat (first | refine WL.want rfl rfl rfl ?_ | refine WL.step (Yl.move rfl) rfl ?_ | refine WL.step (Yl.assign rfl) rfl ?_ | refine WL.step (Yl.pick_f rfl rfl rfl) rfl ?_ | (refine WL.k_bin .lss ?_; refine WL.step (Yl.lssF rfl rfl (by omega)) rfl ?_) | (refine WL.k_bin .gtr ?_; refine WL.step (Yl.gtrF rfl rfl (by omega)) rfl ?_) | refine WC.seq ?_ | refine WC.region ?_ | refine WL.nil ?_ | refine WN.then_normal ?_))
  refine WC.cond_false rfl rfl ?_
  by_cases k1 : first < 0
  · (repeat (first | refine WL.pass rfl rfl rfl rfl ?_ | refine WL.step (Yl.move rfl) rfl ?_ | refine WL.step (Yl.assign rfl) rfl ?_ | refine WL.step (Yl.pick_t rfl rfl rfl) rfl ?_ | (refine WL.k_bin .lss ?_; refine WL.step (Yl.lssT (m := first) (n := 0) rfl rfl (by omega)) rfl ?_) | refine WC.seq ?_ | refine WC.region ?_ | refine WL.nil ?_ | refine WN.then_normal ?_))
    refine WC.cond_true rfl rfl ?_
    (repeat (first | refine WL.step (Yl.assign rfl) rfl ?_ | refine WC.seq ?_ | refine WC.region ?_ | refine WL.nil ?_ | refine WN.then_normal ?_ | refine WC.ret ?_ | refine WN.then_ret ?_ | refine WN.block_ret ?_))
    exact WN.ret2 rfl rfl rfl ⟨rfl, rfl⟩ .nil
  by_cases k2 : n < 1
  · (repeat (first | (refine WL.kG ?_; first | refine WL.want rfl rfl rfl ?_ | refine WL.pass rfl rfl rfl rfl ?_) | refine WL.step (Yl.move rfl) rfl ?_ | refine WL.step (Yl.assign rfl) rfl ?_ | (refine WL.k_pick ?_; first | refine WL.step (Yl.pick_t rfl rfl rfl) rfl ?_ | refine WL.step (Yl.pick_f rfl rfl rfl) rfl ?_) | (refine WL.k_bin .lss ?_; first | refine WL.step (Yl.lssF (m := first) (n := 0) rfl rfl (by omega)) rfl ?_ | refine WL.step (Yl.lssT (m := n) (n := 1) rfl rfl (by omega)) rfl ?_) | refine WC.seq ?_ | refine WC.region ?_ | refine WL.nil ?_ | refine WN.then_normal ?_))
    refine WC.cond_true rfl rfl ?_
    (repeat (first | refine WL.step (Yl.assign rfl) rfl ?_ | refine WC.seq ?_ | refine WC.region ?_ | refine WL.nil ?_ | refine WN.then_normal ?_ | refine WC.ret ?_ | refine WN.then_ret ?_ | refine WN.block_ret ?_))
    exact WN.ret2 rfl rfl rfl ⟨rfl, rfl⟩ .nil
  by_cases k3 : (ds.d.length : Int) < first
  · (repeat (first | (refine WL.kG ?_; first | refine WL.want rfl rfl rfl ?_ | refine WL.pass rfl rfl rfl rfl ?_) | refine WL.step (Yl.move rfl) rfl ?_ | refine WL.step (Yl.assign rfl) rfl ?_ | (refine WL.k_pick ?_; first | refine WL.step (Yl.pick_t rfl rfl rfl) rfl ?_ | refine WL.step (Yl.pick_f rfl rfl rfl) rfl ?_) | (refine WL.k_bin .lss ?_; refine WL.step (Yl.lssF rfl rfl (by omega)) rfl ?_) | (refine WL.k_bin .gtr ?_; refine WL.step (Yl.gtrT rfl rfl (by omega)) rfl ?_) | refine WC.seq ?_ | refine WC.region ?_ | refine WL.nil ?_ | refine WN.then_normal ?_))
    refine WC.cond_true rfl rfl ?_
    (repeat (first | refine WL.step (Yl.assign rfl) rfl ?_ | refine WC.seq ?_ | refine WC.region ?_ | refine WL.nil ?_ | refine WN.then_normal ?_ | refine WC.ret ?_ | refine WN.then_ret ?_ | refine WN.block_ret ?_))
    exact WN.ret2 rfl rfl rfl ⟨rfl, rfl⟩ .nil
  · (repeat (first | refine WL.want rfl rfl rfl ?_ | refine WL.step (Yl.move rfl) rfl ?_ | refine WL.step (Yl.assign rfl) rfl ?_ | refine WL.step (Yl.pick_f rfl rfl rfl) rfl ?_ | (refine WL.k_bin .lss ?_; refine WL.step (Yl.lssF rfl rfl (by omega)) rfl ?_) | (refine WL.k_bin .gtr ?_; first | refine WL.step (Yl.gtrF (m := first) (n := (ds.d.length : Int)) rfl rfl (by omega)) rfl ?_ | refine WL.step (Yl.gtrT rfl rfl (by omega)) rfl ?_) | (refine WL.k_bin .sub ?_; refine WL.step (Yl.sub64 rfl rfl (by omega)) rfl ?_) | refine WC.seq ?_ | refine WC.region ?_ | refine WL.nil ?_ | refine WN.then_normal ?_))
    refine WC.cond_true rfl rfl ?_
    (repeat (first | refine WL.step (Yl.assign rfl) rfl ?_ | refine WC.seq ?_ | refine WC.region ?_ | refine WL.nil ?_ | refine WN.then_normal ?_ | refine WC.ret ?_ | refine WN.then_ret ?_ | refine WN.block_ret ?_))
    exact WN.ret2 rfl rfl rfl ⟨rfl, rfl⟩ .nil
theorem jnew_c (first n : Nat) (ep : Int) (w : World) (hd : DrAt w dp ds) (hl : ds.d.length ≤ 4096) (he : Frm.Ep ep) (hn : 1 ≤ n) (hr : first + n ≤ ds.d.length) : Calls Tryz.prog 12 #[bptr dp.bd, .int .i64 (first : Int), .int .i64 (n : Int), .int .i64 ep] w (Gives (JNewV dp.bd ⟨first, n, ep, 0, 0, fun _ => none⟩) w) := by
  have hep : 1 ≤ ep ∧ ep ≤ 1099511627776 := he
  refine enter (args := [.pointer (some ⟨dp.bd, 0, none⟩), _, _, _]) Tryz.func12 Tryz.ntmps12 rfl rfl ?_
  (repeat (first | refine WL.step (Yl.move rfl) rfl ?_ | refine WL.step (Yl.assign rfl) rfl ?_ | refine WL.callV (g := 56) Tryz.call56 rfl (fun w0 st => dlen_c w0 (hd.keep st.kept)) rfl ?_ | (refine WL.k_bin .eql ?_; refine WL.step (Yl.eqlF rfl rfl (by omega)) rfl ?_) | refine WC.seq ?_ | refine WC.region ?_ | refine WL.nil ?_ | refine WN.then_normal ?_ | refine WC.block ?_))
  refine WC.cond_false rfl rfl ?_
  (repeat (first | refine WL.want rfl rfl rfl ?_ | refine WL.step (Yl.move rfl) rfl ?_ | refine WL.step (Yl.assign rfl) rfl ?_ | refine WL.step (Yl.pick_f rfl rfl rfl) rfl ?_ | (refine WL.k_bin .lss ?_; refine WL.step (Yl.lssF rfl rfl (by omega)) rfl ?_) | (refine WL.k_bin .gtr ?_; refine WL.step (Yl.gtrF rfl rfl (by omega)) rfl ?_) | refine WC.seq ?_ | refine WC.region ?_ | refine WL.nil ?_ | refine WN.then_normal ?_))
  refine WC.cond_false rfl rfl ?_
  (repeat (first | refine WL.want rfl rfl rfl ?_ | refine WL.step (Yl.move rfl) rfl ?_ | refine WL.step (Yl.assign rfl) rfl ?_ | refine WL.step (Yl.pick_f rfl rfl rfl) rfl ?_ | (refine WL.k_bin .lss ?_; refine WL.step (Yl.lssF rfl rfl (by omega)) rfl ?_) | (refine WL.k_bin .gtr ?_; refine WL.step (Yl.gtrF rfl rfl (by omega)) rfl ?_) | (refine WL.k_bin .sub ?_; refine WL.step (Yl.sub64 rfl rfl (by omega)) rfl ?_) | refine WC.seq ?_ | refine WC.region ?_ | refine WL.nil ?_ | refine WN.then_normal ?_))
  refine WC.cond_false rfl rfl ?_
  (repeat (first | refine WL.step (Yl.move rfl) rfl ?_ | refine WC.seq ?_ | refine WC.region ?_ | refine WN.then_normal ?_ | refine WC.skip ?_ | refine WN.block_normal ?_))
  refine WL.makeMap (enc := encP) rfl fun bm => ?_
  (repeat (first | refine WL.step (Yl.build (ps := [(0, .tmp 42), (1, .tmp 43), (2, .tmp 44), (3, .tmp 45), (6, .tmp 46)]) (vs := [(0, bptr dp.bd), (1, .int .i64 (first : Int)), (2, .int .i64 (n : Int)), (3, .int .i64 ep), (6, .map (some bm))]) rfl (buildJ _ _ _ _ _)) rfl ?_))
  refine WL.boxA rfl rfl fun bj => ?_
  (repeat (first | refine WL.step (Yl.assign rfl) rfl ?_ | refine WL.nil ?_ | refine WN.then_normal ?_ | refine WC.ret ?_))
  exact WN.ret2 rfl rfl rfl ⟨⟨bj, bm⟩, ⟨⟨first, n, ep, 0, 0, fun _ => none⟩, [], 0⟩, ⟨MapIs.empty _, he, by simp only; omega, hn, Nat.zero_le _, Nat.le_refl _⟩, rfl, rfl, rfl⟩ (Part.refl _)
end
end Go.Proofs.YtbkdjfgkebkknaaGreatDoor
namespace Go.Proofs.YtbkdjfgkebkknaaGreatDoor
set_option linter.unusedVariables false
set_option linter.unusedSimpArgs false
open Go Go.RowKit
set_option maxRecDepth 100000
set_option maxHeartbeats 4000000
attribute [local irreducible] WL WC WN Yl WH WQ WT
theorem len64_c (x : Nat) (w : World) (hx : x < 18446744073709551616) : Calls Tryz.prog 143 #[.int .u64 (x : Int)] w (Gives (Val (.int .i64 ((Big.len x : Nat) : Int))) w) := by
  refine enter (args := [_]) Tryz.func143 Tryz.ntmps143 rfl rfl ?_
  (repeat (first | refine WL.step (Yl.move rfl) rfl ?_ | refine WL.step (Yl.assign rfl) rfl ?_ | refine WL.step (Yl.geq rfl rfl) rfl ?_ | refine WC.seq ?_ | refine WC.region ?_ | refine WL.nil ?_ | refine WN.then_normal ?_))
  refine WC.ite rfl (fun h1 => ?_) (fun h1 => ?_)
  · have s1 := Big.len_shift (n := x) (k := 32) (by omega)
    have e1 : x >>> 32 = x / 2 ^ 32 := Nat.shiftRight_eq_div_pow x 32
    (repeat (first | refine WL.step (Yl.move rfl) rfl ?_ | refine WL.step (Yl.assign rfl) rfl ?_ | (refine WL.k_bin .shr ?_; refine WL.step (Yl.shrC rfl (by decide)) rfl ?_) | refine WL.step (Yl.geq rfl rfl) rfl ?_ | refine WC.seq ?_ | refine WC.region ?_ | refine WL.nil ?_ | refine WN.then_normal ?_))
    rw [e1]
    generalize hy1 : x / 2 ^ 32 = xa at *
    have hz1 : xa < 4294967296 := by rw [← hy1]; omega
    refine WC.ite rfl (fun h2 => ?_) (fun h2 => ?_)
    · have s2 := Big.len_shift (n := xa) (k := 16) (by omega)
      have e2 : xa >>> 16 = xa / 2 ^ 16 := Nat.shiftRight_eq_div_pow xa 16
      (repeat (first | refine WL.step (Yl.move rfl) rfl ?_ | refine WL.step (Yl.assign rfl) rfl ?_ | (refine WL.k_bin .shr ?_; refine WL.step (Yl.shrC rfl (by decide)) rfl ?_) | refine WL.step (Yl.geq rfl rfl) rfl ?_ | (refine WL.k_bin .add ?_; refine WL.step (Yl.add64 rfl rfl (by omega)) rfl ?_) | refine WC.seq ?_ | refine WC.region ?_ | refine WL.nil ?_ | refine WN.then_normal ?_))
      rw [e2]
      generalize hy2 : xa / 2 ^ 16 = xab at *
      have hz2 : xab < 65536 := by rw [← hy2]; omega
      refine WC.ite rfl (fun h3 => ?_) (fun h3 => ?_)
      · have s3 := Big.len_shift (n := xab) (k := 8) (by omega)
        have e3 : xab >>> 8 = xab / 2 ^ 8 := Nat.shiftRight_eq_div_pow xab 8
        (repeat (first | refine WL.step (Yl.move rfl) rfl ?_ | refine WL.step (Yl.assign rfl) rfl ?_ | (refine WL.k_bin .shr ?_; refine WL.step (Yl.shrC rfl (by decide)) rfl ?_) | (refine WL.k_bin .add ?_; refine WL.step (Yl.add64 rfl rfl (by omega)) rfl ?_) | refine WC.seq ?_ | refine WC.region ?_ | refine WL.nil ?_ | refine WN.then_normal ?_))
        rw [e3]
        generalize hy3 : xab / 2 ^ 8 = xabc at *
        have hz3 : xabc < 256 := by rw [← hy3]; omega
        have l8 : Big.len xabc ≤ 8 := Big.len_le.2 (by omega)
        (repeat (first | refine WL.step (Yl.assign rfl) rfl ?_ | (refine WL.k_conv ?_; first | refine WL.step (Yl.convLt (s := 49) (t := 5) Tryz.underlying49 Tryz.underlying5 rfl rfl (by show _ < 256; omega)) rfl ?_ | refine WL.step (Yl.conv64 (s := 5) (t := 3) Tryz.underlying5 Tryz.underlying3 rfl (by omega)) rfl ?_) | (refine WL.k_index ?_; refine WL.step (Yl.indexStrF (f := Big.len) (b := 256) Tryz.underlying9 rfl rfl (by decide +kernel) (by omega)) rfl ?_) | (refine WL.k_bin .add ?_; refine WL.step (Yl.add64 rfl rfl (by omega)) rfl ?_) | refine WL.nil ?_ | refine WN.then_normal ?_ | refine WC.ret ?_))
        exact WN.ret1 rfl rfl ⟨congrArg (Value.int .i64) (by omega), rfl⟩ .nil
      · (repeat (first | refine WL.step (Yl.move rfl) rfl ?_ | refine WC.seq ?_ | refine WC.region ?_ | refine WN.then_normal ?_ | refine WC.skip ?_))
        have l8 : Big.len xab ≤ 8 := Big.len_le.2 (by omega)
        (repeat (first | refine WL.step (Yl.assign rfl) rfl ?_ | (refine WL.k_conv ?_; first | refine WL.step (Yl.convLt (s := 49) (t := 5) Tryz.underlying49 Tryz.underlying5 rfl rfl (by show _ < 256; omega)) rfl ?_ | refine WL.step (Yl.conv64 (s := 5) (t := 3) Tryz.underlying5 Tryz.underlying3 rfl (by omega)) rfl ?_) | (refine WL.k_index ?_; refine WL.step (Yl.indexStrF (f := Big.len) (b := 256) Tryz.underlying9 rfl rfl (by decide +kernel) (by omega)) rfl ?_) | (refine WL.k_bin .add ?_; refine WL.step (Yl.add64 rfl rfl (by omega)) rfl ?_) | refine WL.nil ?_ | refine WN.then_normal ?_ | refine WC.ret ?_))
        exact WN.ret1 rfl rfl ⟨congrArg (Value.int .i64) (by omega), rfl⟩ .nil
    · (repeat (first | refine WL.step (Yl.move rfl) rfl ?_ | refine WL.step (Yl.geq rfl rfl) rfl ?_ | refine WC.seq ?_ | refine WC.region ?_ | refine WL.nil ?_ | refine WN.then_normal ?_ | refine WC.skip ?_))
      refine WC.ite rfl (fun h3 => ?_) (fun h3 => ?_)
      · have s3 := Big.len_shift (n := xa) (k := 8) (by omega)
        have e3 : xa >>> 8 = xa / 2 ^ 8 := Nat.shiftRight_eq_div_pow xa 8
        (repeat (first | refine WL.step (Yl.move rfl) rfl ?_ | refine WL.step (Yl.assign rfl) rfl ?_ | (refine WL.k_bin .shr ?_; refine WL.step (Yl.shrC rfl (by decide)) rfl ?_) | (refine WL.k_bin .add ?_; refine WL.step (Yl.add64 rfl rfl (by omega)) rfl ?_) | refine WC.seq ?_ | refine WC.region ?_ | refine WL.nil ?_ | refine WN.then_normal ?_))
        rw [e3]
        generalize hy3 : xa / 2 ^ 8 = xac at *
        have hz3 : xac < 256 := by rw [← hy3]; omega
        have l8 : Big.len xac ≤ 8 := Big.len_le.2 (by omega)
        (repeat (first | refine WL.step (Yl.assign rfl) rfl ?_ | (refine WL.k_conv ?_; first | refine WL.step (Yl.convLt (s := 49) (t := 5) Tryz.underlying49 Tryz.underlying5 rfl rfl (by show _ < 256; omega)) rfl ?_ | refine WL.step (Yl.conv64 (s := 5) (t := 3) Tryz.underlying5 Tryz.underlying3 rfl (by omega)) rfl ?_) | (refine WL.k_index ?_; refine WL.step (Yl.indexStrF (f := Big.len) (b := 256) Tryz.underlying9 rfl rfl (by decide +kernel) (by omega)) rfl ?_) | (refine WL.k_bin .add ?_; refine WL.step (Yl.add64 rfl rfl (by omega)) rfl ?_) | refine WL.nil ?_ | refine WN.then_normal ?_ | refine WC.ret ?_))
        exact WN.ret1 rfl rfl ⟨congrArg (Value.int .i64) (by omega), rfl⟩ .nil
      · (repeat (first | refine WL.step (Yl.move rfl) rfl ?_ | refine WC.seq ?_ | refine WC.region ?_ | refine WN.then_normal ?_ | refine WC.skip ?_))
        have l8 : Big.len xa ≤ 8 := Big.len_le.2 (by omega)
        (repeat (first | refine WL.step (Yl.assign rfl) rfl ?_ | (refine WL.k_conv ?_; first | refine WL.step (Yl.convLt (s := 49) (t := 5) Tryz.underlying49 Tryz.underlying5 rfl rfl (by show _ < 256; omega)) rfl ?_ | refine WL.step (Yl.conv64 (s := 5) (t := 3) Tryz.underlying5 Tryz.underlying3 rfl (by omega)) rfl ?_) | (refine WL.k_index ?_; refine WL.step (Yl.indexStrF (f := Big.len) (b := 256) Tryz.underlying9 rfl rfl (by decide +kernel) (by omega)) rfl ?_) | (refine WL.k_bin .add ?_; refine WL.step (Yl.add64 rfl rfl (by omega)) rfl ?_) | refine WL.nil ?_ | refine WN.then_normal ?_ | refine WC.ret ?_))
        exact WN.ret1 rfl rfl ⟨congrArg (Value.int .i64) (by omega), rfl⟩ .nil
  · (repeat (first | refine WL.step (Yl.move rfl) rfl ?_ | refine WL.step (Yl.geq rfl rfl) rfl ?_ | refine WC.seq ?_ | refine WC.region ?_ | refine WL.nil ?_ | refine WN.then_normal ?_ | refine WC.skip ?_))
    refine WC.ite rfl (fun h2 => ?_) (fun h2 => ?_)
    · have s2 := Big.len_shift (n := x) (k := 16) (by omega)
      have e2 : x >>> 16 = x / 2 ^ 16 := Nat.shiftRight_eq_div_pow x 16
      (repeat (first | refine WL.step (Yl.move rfl) rfl ?_ | refine WL.step (Yl.assign rfl) rfl ?_ | (refine WL.k_bin .shr ?_; refine WL.step (Yl.shrC rfl (by decide)) rfl ?_) | refine WL.step (Yl.geq rfl rfl) rfl ?_ | (refine WL.k_bin .add ?_; refine WL.step (Yl.add64 rfl rfl (by omega)) rfl ?_) | refine WC.seq ?_ | refine WC.region ?_ | refine WL.nil ?_ | refine WN.then_normal ?_))
      rw [e2]
      generalize hy2 : x / 2 ^ 16 = xb at *
      have hz2 : xb < 65536 := by rw [← hy2]; omega
      refine WC.ite rfl (fun h3 => ?_) (fun h3 => ?_)
      · have s3 := Big.len_shift (n := xb) (k := 8) (by omega)
        have e3 : xb >>> 8 = xb / 2 ^ 8 := Nat.shiftRight_eq_div_pow xb 8
        (repeat (first | refine WL.step (Yl.move rfl) rfl ?_ | refine WL.step (Yl.assign rfl) rfl ?_ | (refine WL.k_bin .shr ?_; refine WL.step (Yl.shrC rfl (by decide)) rfl ?_) | (refine WL.k_bin .add ?_; refine WL.step (Yl.add64 rfl rfl (by omega)) rfl ?_) | refine WC.seq ?_ | refine WC.region ?_ | refine WL.nil ?_ | refine WN.then_normal ?_))
        rw [e3]
        generalize hy3 : xb / 2 ^ 8 = xbc at *
        have hz3 : xbc < 256 := by rw [← hy3]; omega
        have l8 : Big.len xbc ≤ 8 := Big.len_le.2 (by omega)
        (repeat (first | refine WL.step (Yl.assign rfl) rfl ?_ | (refine WL.k_conv ?_; first | refine WL.step (Yl.convLt (s := 49) (t := 5) Tryz.underlying49 Tryz.underlying5 rfl rfl (by show _ < 256; omega)) rfl ?_ | refine WL.step (Yl.conv64 (s := 5) (t := 3) Tryz.underlying5 Tryz.underlying3 rfl (by omega)) rfl ?_) | (refine WL.k_index ?_; refine WL.step (Yl.indexStrF (f := Big.len) (b := 256) Tryz.underlying9 rfl rfl (by decide +kernel) (by omega)) rfl ?_) | (refine WL.k_bin .add ?_; refine WL.step (Yl.add64 rfl rfl (by omega)) rfl ?_) | refine WL.nil ?_ | refine WN.then_normal ?_ | refine WC.ret ?_))
        exact WN.ret1 rfl rfl ⟨congrArg (Value.int .i64) (by omega), rfl⟩ .nil
      · (repeat (first | refine WL.step (Yl.move rfl) rfl ?_ | refine WC.seq ?_ | refine WC.region ?_ | refine WN.then_normal ?_ | refine WC.skip ?_))
        have l8 : Big.len xb ≤ 8 := Big.len_le.2 (by omega)
        (repeat (first | refine WL.step (Yl.assign rfl) rfl ?_ | (refine WL.k_conv ?_; first | refine WL.step (Yl.convLt (s := 49) (t := 5) Tryz.underlying49 Tryz.underlying5 rfl rfl (by show _ < 256; omega)) rfl ?_ | refine WL.step (Yl.conv64 (s := 5) (t := 3) Tryz.underlying5 Tryz.underlying3 rfl (by omega)) rfl ?_) | (refine WL.k_index ?_; refine WL.step (Yl.indexStrF (f := Big.len) (b := 256) Tryz.underlying9 rfl rfl (by decide +kernel) (by omega)) rfl ?_) | (refine WL.k_bin .add ?_; refine WL.step (Yl.add64 rfl rfl (by omega)) rfl ?_) | refine WL.nil ?_ | refine WN.then_normal ?_ | refine WC.ret ?_))
        exact WN.ret1 rfl rfl ⟨congrArg (Value.int .i64) (by omega), rfl⟩ .nil
    · (repeat (first | refine WL.step (Yl.move rfl) rfl ?_ | refine WL.step (Yl.geq rfl rfl) rfl ?_ | refine WC.seq ?_ | refine WC.region ?_ | refine WL.nil ?_ | refine WN.then_normal ?_ | refine WC.skip ?_))
      refine WC.ite rfl (fun h3 => ?_) (fun h3 => ?_)
      · have s3 := Big.len_shift (n := x) (k := 8) (by omega)
        have e3 : x >>> 8 = x / 2 ^ 8 := Nat.shiftRight_eq_div_pow x 8
        (repeat (first | refine WL.step (Yl.move rfl) rfl ?_ | refine WL.step (Yl.assign rfl) rfl ?_ | (refine WL.k_bin .shr ?_; refine WL.step (Yl.shrC rfl (by decide)) rfl ?_) | (refine WL.k_bin .add ?_; refine WL.step (Yl.add64 rfl rfl (by omega)) rfl ?_) | refine WC.seq ?_ | refine WC.region ?_ | refine WL.nil ?_ | refine WN.then_normal ?_))
        rw [e3]
        generalize hy3 : x / 2 ^ 8 = xc at *
        have hz3 : xc < 256 := by rw [← hy3]; omega
        have l8 : Big.len xc ≤ 8 := Big.len_le.2 (by omega)
        (repeat (first | refine WL.step (Yl.assign rfl) rfl ?_ | (refine WL.k_conv ?_; first | refine WL.step (Yl.convLt (s := 49) (t := 5) Tryz.underlying49 Tryz.underlying5 rfl rfl (by show _ < 256; omega)) rfl ?_ | refine WL.step (Yl.conv64 (s := 5) (t := 3) Tryz.underlying5 Tryz.underlying3 rfl (by omega)) rfl ?_) | (refine WL.k_index ?_; refine WL.step (Yl.indexStrF (f := Big.len) (b := 256) Tryz.underlying9 rfl rfl (by decide +kernel) (by omega)) rfl ?_) | (refine WL.k_bin .add ?_; refine WL.step (Yl.add64 rfl rfl (by omega)) rfl ?_) | refine WL.nil ?_ | refine WN.then_normal ?_ | refine WC.ret ?_))
        exact WN.ret1 rfl rfl ⟨congrArg (Value.int .i64) (by omega), rfl⟩ .nil
      · (repeat (first | refine WL.step (Yl.move rfl) rfl ?_ | refine WC.seq ?_ | refine WC.region ?_ | refine WN.then_normal ?_ | refine WC.skip ?_))
        have l8 : Big.len x ≤ 8 := Big.len_le.2 (by omega)
        (repeat (first | refine WL.step (Yl.assign rfl) rfl ?_ | (refine WL.k_conv ?_; first | refine WL.step (Yl.convLt (s := 49) (t := 5) Tryz.underlying49 Tryz.underlying5 rfl rfl (by show _ < 256; omega)) rfl ?_ | refine WL.step (Yl.conv64 (s := 5) (t := 3) Tryz.underlying5 Tryz.underlying3 rfl (by omega)) rfl ?_) | (refine WL.k_index ?_; refine WL.step (Yl.indexStrF (f := Big.len) (b := 256) Tryz.underlying9 rfl rfl (by decide +kernel) (by omega)) rfl ?_) | (refine WL.k_bin .add ?_; refine WL.step (Yl.add64 rfl rfl (by omega)) rfl ?_) | refine WL.nil ?_ | refine WN.then_normal ?_ | refine WC.ret ?_))
        exact WN.ret1 rfl rfl ⟨congrArg (Value.int .i64) (by omega), rfl⟩ .nil
theorem bgvalid_c (x : Int) (w : World) : Calls Tryz.prog 184 #[.int .i64 x] w (Gives (Val (.bool (decide (¬ (x < 1 ∨ 8 < x))))) w) := by
  refine enter (args := [_]) Tryz.func184 Tryz.ntmps184 rfl rfl ?_
  by_cases h1 : x < 1
  · (repeat (first | refine WL.pass rfl rfl rfl rfl ?_ | refine WL.step (Yl.move rfl) rfl ?_ | refine WL.step (Yl.assign rfl) rfl ?_ | refine WL.step (Yl.pick_f rfl rfl rfl) rfl ?_ | (refine WL.k_bin .geq ?_; refine WL.step (Yl.geqF rfl rfl (by omega)) rfl ?_) | refine WC.seq ?_ | refine WC.region ?_ | refine WL.nil ?_ | refine WN.then_normal ?_ | refine WC.ret ?_))
    exact WN.ret1 rfl rfl ⟨by rw [decide_eq_false (by omega)], rfl⟩ .nil
  · by_cases h2 : 8 < x
    · (repeat (first | refine WL.want rfl rfl rfl ?_ | refine WL.step (Yl.move rfl) rfl ?_ | refine WL.step (Yl.assign rfl) rfl ?_ | refine WL.step (Yl.pick_t rfl rfl rfl) rfl ?_ | (refine WL.k_bin .geq ?_; refine WL.step (Yl.geqT rfl rfl (by omega)) rfl ?_) | (refine WL.k_bin .leq ?_; refine WL.step (Yl.leqF rfl rfl (by omega)) rfl ?_) | refine WC.seq ?_ | refine WC.region ?_ | refine WL.nil ?_ | refine WN.then_normal ?_ | refine WC.ret ?_))
      exact WN.ret1 rfl rfl ⟨by rw [decide_eq_false (by omega)], rfl⟩ .nil
    · (repeat (first | refine WL.want rfl rfl rfl ?_ | refine WL.step (Yl.move rfl) rfl ?_ | refine WL.step (Yl.assign rfl) rfl ?_ | refine WL.step (Yl.pick_t rfl rfl rfl) rfl ?_ | (refine WL.k_bin .geq ?_; refine WL.step (Yl.geqT rfl rfl (by omega)) rfl ?_) | (refine WL.k_bin .leq ?_; refine WL.step (Yl.leqT rfl rfl (by omega)) rfl ?_) | refine WC.seq ?_ | refine WC.region ?_ | refine WL.nil ?_ | refine WN.then_normal ?_ | refine WC.ret ?_))
      exact WN.ret1 rfl rfl ⟨by rw [decide_eq_true (by omega)], rfl⟩ .nil
def Appended (l : List UInt8) (x : Nat) (wd : Int) : Value → List HA → Prop :=
  NewRow (fun s => .tuple #[s, .int .i64 ((Big.appended l x wd).1 : Nat)]) 5 1 (Big.appended l x wd).2.length (bs (Big.appended l x wd).2)
theorem bvof (m : Nat) : Value.int .u8 ((m % 2 ^ IntKind.u8.bits : Nat) : Int) = bv (UInt8.ofNat m) := by
  simp only [bv, UInt8.toNat_ofNat']; rfl
theorem flat1 (c : UInt8) : flat [bv c] = bs [c] := rfl
theorem append_c (a : Option Addr) (n cap : Nat) (l : List UInt8) (x : Nat) (wd : Int) (w : World) (hl : l.length = n) (hn : n ≤ 140737488355000) (hx : x < 18446744073709551616) (hr : CellsAt w a (bs l)) :
    Calls Tryz.prog 146 #[.slice a n cap, .int .u64 (x : Int), .int .i64 wd] w (Gives (Appended l x wd) w) := by
  refine enter (args := [_, _, _]) Tryz.func146 Tryz.ntmps146 rfl rfl ?_
  by_cases hbad : wd < 1 ∨ 8 < wd
  · have e : Big.appended l x wd = (2, []) := if_pos hbad
    (repeat (first | refine WL.step (Yl.move rfl) rfl ?_ | refine WL.step (Yl.assign rfl) rfl ?_ | (refine WL.k_call 184 ?_; refine WL.callV (g := 184) (v := .bool false) Tryz.call184 rfl (fun w _ => by have := bgvalid_c wd w; rwa [decide_eq_false (fun h => h hbad)] at this) rfl ?_) | refine WL.step (Yl.not rfl) rfl ?_ | refine WC.seq ?_ | refine WC.region ?_ | refine WL.nil ?_ | refine WN.then_normal ?_ | refine WC.block ?_))
    refine WC.cond_true rfl rfl ?_
    (repeat (first | refine WL.step (Yl.assign rfl) rfl ?_ | refine WC.seq ?_ | refine WC.region ?_ | refine WL.nil ?_ | refine WN.then_normal ?_ | refine WC.ret ?_ | refine WN.then_ret ?_ | refine WN.block_ret ?_))
    exact WN.ret2 rfl rfl rfl ⟨none, 0, by rw [e]; exact Nat.le_refl _, by rw [e]; rfl, by rw [e]; rfl⟩ (.free .nil)
  · obtain ⟨W, rfl⟩ : ∃ W : Nat, wd = (W : Int) := ⟨wd.toNat, by omega⟩
    have hW : 1 ≤ W ∧ W ≤ 8 := by omega
    (repeat (first | refine WL.step (Yl.move rfl) rfl ?_ | refine WL.step (Yl.assign rfl) rfl ?_ | (refine WL.k_call 184 ?_; refine WL.callV (g := 184) (v := .bool true) Tryz.call184 rfl (fun w _ => by have := bgvalid_c (W : Int) w; rwa [decide_eq_true hbad] at this) rfl ?_) | refine WL.step (Yl.not rfl) rfl ?_ | refine WC.seq ?_ | refine WC.region ?_ | refine WL.nil ?_ | refine WN.then_normal ?_ | refine WC.block ?_))
    refine WC.cond_false rfl rfl ?_
    by_cases hov : 2 ^ (8 * W) ≤ x
    · have e : Big.appended l x (W : Int) = (14, []) := by unfold Big.appended; rw [if_neg hbad, Int.toNat_natCast, if_pos hov]
      have hlen : 8 * W < Big.len x := Nat.lt_of_not_le fun h => by have := Big.len_le.1 h; omega
      (repeat (first | refine WL.step (Yl.move rfl) rfl ?_ | refine WL.step (Yl.assign rfl) rfl ?_ | refine WL.callV (g := 143) Tryz.call143 rfl (fun w _ => len64_c x w hx) rfl ?_ | (refine WL.k_bin .gtr ?_; refine WL.step (Yl.gtrT rfl rfl (by omega)) rfl ?_) | (refine WL.k_bin .mul ?_; refine WL.step (Yl.mulC64 rfl (by omega)) rfl ?_) | refine WC.seq ?_ | refine WC.region ?_ | refine WL.nil ?_ | refine WN.then_normal ?_))
      refine WC.cond_true rfl rfl ?_
      (repeat (first | refine WL.step (Yl.assign rfl) rfl ?_ | refine WC.seq ?_ | refine WC.region ?_ | refine WL.nil ?_ | refine WN.then_normal ?_ | refine WC.ret ?_ | refine WN.then_ret ?_ | refine WN.block_ret ?_))
      exact WN.ret2 rfl rfl rfl ⟨none, 0, by rw [e]; exact Nat.le_refl _, by rw [e]; rfl, by rw [e]; rfl⟩ (.free .nil)
    · have e : Big.appended l x (W : Int) = (0, l ++ Big.be W x) := by unfold Big.appended; rw [if_neg hbad, Int.toNat_natCast, if_neg hov]
      have hlen : Big.len x ≤ 8 * W := Big.len_le.2 (by omega)
      (repeat (first | refine WL.step (Yl.move rfl) rfl ?_ | refine WL.step (Yl.assign rfl) rfl ?_ | refine WL.callV (g := 143) Tryz.call143 rfl (fun w _ => len64_c x w hx) rfl ?_ | (refine WL.k_bin .gtr ?_; refine WL.step (Yl.gtrF rfl rfl (by omega)) rfl ?_) | (refine WL.k_bin .mul ?_; refine WL.step (Yl.mulC64 rfl (by omega)) rfl ?_) | refine WC.seq ?_ | refine WC.region ?_ | refine WL.nil ?_ | refine WN.then_normal ?_))
      refine WC.cond_false rfl rfl ?_
      (repeat (first | refine WL.step (Yl.move rfl) rfl ?_ | refine WC.seq ?_ | refine WC.region ?_ | refine WN.then_normal ?_ | refine WC.skip ?_ | refine WN.block_normal ?_))
      refine WL.callR (g := 185) Tryz.call185 rfl (fun w s => clone_c _ _ _ l w hl (by omega) (Rd.old hr w s)) rfl fun p hp => ?_
      (repeat (first | refine WL.step (Yl.move rfl) rfl ?_ | refine WL.step (Yl.assign rfl) rfl ?_ | refine WC.seq ?_ | refine WC.region ?_ | refine WL.nil ?_ | refine WN.then_normal ?_ | refine WC.block ?_))
      have hbl := Big.be_length W x
      refine WC.loop (α := Nat × Option Addr × Nat) (fun g => [(1, .int .u64 (x : Int)), (2, .int .i64 (W : Int)), (8, .slice g.2.1 (n + g.1) g.2.2), (22, .int .i64 (W : Int)), (23, .int .i64 (g.1 : Int))])
        (fun g => [.row g.2.1 g.2.2 5 1 (bs (l ++ (Big.be W x).take g.1))]) (fun g => g.1 ≤ W ∧ n + g.1 ≤ g.2.2) (fun g => W - g.1) (0, p.1, p.2) (by simpa using (by repeat (first | exact Sub.nil | refine Sub.cons rfl rfl ?_))) (by simpa using Part.cons .here .nil) ⟨by simp, by simpa using hp⟩ ?_
      intro ⟨i, p, q⟩ ⟨hi, hq⟩
      simp only at hi hq ⊢
      (repeat (first | refine WL.step (Yl.lss rfl rfl) rfl ?_ | refine WC.seq ?_ | refine WC.region ?_ | refine WL.nil ?_ | refine WN.then_normal ?_))
      refine WC.ite rfl (fun h1 => ?_) (fun h1 => ?_)
      · (repeat (first | refine WL.step (Yl.move rfl) rfl ?_ | refine WL.step (Yl.assign rfl) rfl ?_ | (refine WL.k_bin .shr ?_; refine WL.step (Yl.shrN rfl rfl (by show _ ≤ 64; omega)) rfl ?_) | refine WL.step (Yl.convN (s := 49) (t := 5) Tryz.underlying49 Tryz.underlying5 rfl rfl) rfl ?_ | (refine WL.k_bin .sub ?_; first | refine WL.step (Yl.sub64C rfl (by omega) (by omega)) rfl ?_ | refine WL.step (Yl.sub64N rfl rfl (by omega) (by omega)) rfl ?_) | (refine WL.k_bin .mul ?_; refine WL.step (Yl.mulC64 rfl (by omega)) rfl ?_) | refine WC.seq ?_ | refine WC.region ?_ | refine WL.nil ?_ | refine WN.then_normal ?_ | refine WC.block ?_ | refine WC.skip ?_))
        rw [bvof]
        refine WL.lit (t := 23) Tryz.underlying23 elemU8 rfl rfl rfl (by simp [bv, Value.cells]) rfl fun b => ?_
        refine WL.appendRow (t := 23) Tryz.underlying23 elemU8 rfl rfl (.there .here) (by rw [bs_length]; simp; omega) hq (Rd.row (.head _)) rfl (bs_one [_]) (by omega) (by simp only [maxLen]; omega) rfl fun p2 hp2 => ?_
        have hnew : bs (l ++ (Big.be W x).take i) ++ flat [bv (UInt8.ofNat (x / 2 ^ (8 * (W - 1 - i))))] = bs (l ++ (Big.be W x).take (i + 1)) := by
          rw [flat1, ← bs_append, List.append_assoc, take_snoc _ 0 (by omega), Big.be_get _ _ _ (by omega), Big.pow256]
        rw [hnew]
        (repeat (first | refine WL.step (Yl.move rfl) rfl ?_ | refine WL.step (Yl.assign rfl) rfl ?_ | (refine WL.k_bin .add ?_; refine WL.step (Yl.add64C rfl (by omega)) rfl ?_) | refine WC.region ?_ | refine WL.nil ?_ | refine WN.then_normal ?_ | refine WN.block_normal ?_))
        exact WN.next (i + 1, p2.1, p2.2) ⟨by simp only; omega, by simp only; omega⟩ (by simp only; omega) (by repeat (first | exact Sub.nil | refine Sub.cons rfl rfl ?_)) (.cons .here .nil)
      · obtain rfl : i = W := by omega
        (repeat (first | refine WL.step (Yl.move rfl) rfl ?_ | refine WL.step (Yl.assign rfl) rfl ?_ | refine WC.seq ?_ | refine WC.region ?_ | refine WL.nil ?_ | refine WN.then_normal ?_ | refine WC.exit ?_ | refine WC.ret ?_ | refine WN.then_exit ?_ | refine WN.block_here ?_))
        exact WN.ret2 rfl rfl rfl ⟨p, q, by rw [e]; simp; omega, by rw [e]; simp [hl, hbl], by rw [e, List.take_of_length_le (by omega)]⟩ (.cons .here .nil)
end Go.Proofs.YtbkdjfgkebkknaaGreatDoor
namespace Go.Proofs.YtbkdjfgkebkknaaGreatDoor
set_option linter.unusedVariables false
set_option linter.unusedSimpArgs false
open Go Go.RowKit
set_option maxRecDepth 100000
set_option maxHeartbeats 4000000
attribute [local irreducible] WL WC WN Yl WH WQ WT
def two (p : Nat × Nat) : Value := .tuple #[.int .u64 (p.2 : Int), .int .i64 (p.1 : Int)]
theorem ushl {v c : Nat} (hv : v < 72057594037927936) (hc : c < 256) : ((v <<< 8 % 2 ^ IntKind.u64.bits) ||| c) = v * 256 + c := by
  show ((v <<< 8 % 18446744073709551616) ||| c) = _
  rw [Nat.shiftLeft_eq, Nat.mod_eq_of_lt (by omega), Big.or_low (by omega)]
theorem valtake (l : List UInt8) (at_ i : Nat) (h : at_ + i < l.length) : Big.val 0 ((l.drop at_).take (i + 1)) = Big.val 0 ((l.drop at_).take i) * 256 + (l.getD (at_ + i) 0).toNat := by
  rw [take_snoc _ 0 (by simp; omega), Big.val_snoc]
  congr 2
  simp [List.getD]
theorem val_small (l : List UInt8) (at_ i : Nat) (h : i < 8) : Big.val 0 ((l.drop at_).take i) < 72057594037927936 := by
  have h1 := Big.val_lt ((l.drop at_).take i)
  have h2 : ((l.drop at_).take i).length ≤ i := by simp; omega
  have h3 : 256 ^ ((l.drop at_).take i).length ≤ 256 ^ 7 := Nat.pow_le_pow_right (by decide) (by omega)
  have h4 : 256 ^ 7 = 72057594037927936 := by decide
  omega
theorem uint_c (a : Option Addr) (n cap : Nat) (l : List UInt8) (at_ wd : Int) (w : World) (hl : l.length = n) (hn : n ≤ 140737488355000) (hat : -9223372036854775808 ≤ at_ ∧ at_ ≤ 9223372036854775807) (hr : CellsAt w a (bs l)) :
    Calls Tryz.prog 152 #[.slice a n cap, .int .i64 at_, .int .i64 wd] w (Gives (Val (two (Big.uintAt l at_ wd))) w) := by
  refine enter (args := [_, _, _]) Tryz.func152 Tryz.ntmps152 rfl rfl ?_
  by_cases hbad : wd < 1 ∨ 8 < wd
  · have e : Big.uintAt l at_ wd = (2, 0) := if_pos hbad
    rw [e]
    (repeat (first | refine WL.step (Yl.move rfl) rfl ?_ | refine WL.step (Yl.assign rfl) rfl ?_ | (refine WL.k_call 184 ?_; refine WL.callV (g := 184) (v := .bool false) Tryz.call184 rfl (fun w _ => by have := bgvalid_c wd w; rwa [decide_eq_false (fun h => h hbad)] at this) rfl ?_) | refine WL.step (Yl.not rfl) rfl ?_ | refine WC.seq ?_ | refine WC.region ?_ | refine WL.nil ?_ | refine WN.then_normal ?_ | refine WC.block ?_))
    refine WC.cond_true rfl rfl ?_
    (repeat (first | refine WL.step (Yl.assign rfl) rfl ?_ | refine WC.seq ?_ | refine WC.region ?_ | refine WL.nil ?_ | refine WN.then_normal ?_ | refine WC.ret ?_ | refine WN.then_ret ?_ | refine WN.block_ret ?_))
    exact WN.ret2 rfl rfl rfl ⟨rfl, rfl⟩ .nil
  · obtain ⟨W, rfl⟩ : ∃ W : Nat, wd = (W : Int) := ⟨wd.toNat, by omega⟩
    have hW : 1 ≤ W ∧ W ≤ 8 := by omega
    (repeat (first | refine WL.step (Yl.move rfl) rfl ?_ | refine WL.step (Yl.assign rfl) rfl ?_ | (refine WL.k_call 184 ?_; refine WL.callV (g := 184) (v := .bool true) Tryz.call184 rfl (fun w _ => by have := bgvalid_c (W : Int) w; rwa [decide_eq_true hbad] at this) rfl ?_) | refine WL.step (Yl.not rfl) rfl ?_ | refine WC.seq ?_ | refine WC.region ?_ | refine WL.nil ?_ | refine WN.then_normal ?_ | refine WC.block ?_))
    refine WC.cond_false rfl rfl ?_
    (repeat (first | refine WL.step (Yl.move rfl) rfl ?_ | refine WL.step (Yl.assign rfl) rfl ?_ | refine WL.step (Yl.lss rfl rfl) rfl ?_ | refine WC.seq ?_ | refine WC.region ?_ | refine WL.nil ?_ | refine WN.then_normal ?_))
    refine WC.ite rfl (fun h1 => ?_) (fun h1 => ?_)
    · have e : Big.uintAt l at_ W = (3, 0) := by unfold Big.uintAt; rw [if_neg hbad, if_pos h1]
      rw [e]
      (repeat (first | refine WL.step (Yl.assign rfl) rfl ?_ | refine WC.seq ?_ | refine WC.region ?_ | refine WL.nil ?_ | refine WN.then_normal ?_ | refine WC.ret ?_ | refine WN.then_ret ?_ | refine WN.block_ret ?_))
      exact WN.ret2 rfl rfl rfl ⟨rfl, rfl⟩ .nil
    · (repeat (first | refine WL.step (Yl.move rfl) rfl ?_ | refine WL.step (Yl.assign rfl) rfl ?_ | refine WL.step (Yl.len (t := 23) Tryz.underlying23 rfl) rfl ?_ | refine WL.step (Yl.gtr rfl rfl) rfl ?_ | (refine WL.k_bin .sub ?_; refine WL.step (Yl.sub64 rfl rfl (by omega)) rfl ?_) | refine WC.seq ?_ | refine WC.region ?_ | refine WL.nil ?_ | refine WN.then_normal ?_))
      refine WC.ite rfl (fun h2 => ?_) (fun h2 => ?_)
      · have e : Big.uintAt l at_ W = (13, 0) := by unfold Big.uintAt; rw [if_neg hbad, if_neg h1, if_pos (by rw [hl]; exact h2)]
        rw [e]
        (repeat (first | refine WL.step (Yl.assign rfl) rfl ?_ | refine WC.seq ?_ | refine WC.region ?_ | refine WL.nil ?_ | refine WN.then_normal ?_ | refine WC.ret ?_ | refine WN.then_ret ?_ | refine WN.block_ret ?_))
        exact WN.ret2 rfl rfl rfl ⟨rfl, rfl⟩ .nil
      · obtain ⟨t, rfl⟩ : ∃ t : Nat, at_ = (t : Int) := ⟨at_.toNat, by omega⟩
        have e : Big.uintAt l t W = (0, Big.val 0 ((l.drop t).take W)) := by unfold Big.uintAt; rw [if_neg hbad, if_neg h1, if_neg (by rw [hl]; exact h2)]; rfl
        rw [e]
        (repeat (first | refine WL.step (Yl.move rfl) rfl ?_ | refine WL.step (Yl.assign rfl) rfl ?_ | refine WC.seq ?_ | refine WC.region ?_ | refine WL.nil ?_ | refine WN.then_normal ?_ | refine WC.block ?_ | refine WC.skip ?_ | refine WN.block_normal ?_))
        refine WC.loop (α := Nat) (fun i => [(0, .slice a n cap), (1, .int .i64 (t : Int)), (8, .int .u64 ((Big.val 0 ((l.drop t).take i) : Nat) : Int)), (24, .int .i64 (W : Int)), (25, .int .i64 (i : Int))])
          (fun _ => []) (fun i => i ≤ W) (fun i => W - i) 0 (by repeat (first | exact Sub.nil | refine Sub.cons rfl rfl ?_)) .nil (by omega) ?_
        intro i hi
        (repeat (first | refine WL.step (Yl.lss rfl rfl) rfl ?_ | refine WC.seq ?_ | refine WC.region ?_ | refine WL.nil ?_ | refine WN.then_normal ?_))
        refine WC.ite rfl (fun h3 => ?_) (fun h3 => ?_)
        · have hti : t + i < l.length := by omega
          have hv := val_small l t i (by omega)
          have hc := byte_lt (l.getD (t + i) 0)
          (repeat (first | refine WL.step (Yl.move rfl) rfl ?_ | refine WL.step (Yl.assign rfl) rfl ?_ | refine WL.step (Yl.load (T := 5) Tryz.isAgg5 rfl (.old hr) (bs_get hti)) rfl ?_ | (refine WL.k_bin .shl ?_; refine WL.step (Yl.shlC rfl rfl (by decide)) rfl ?_) | (refine WL.k_idxa ?_; refine WL.step (Yl.indexAddr1 (t := 23) Tryz.underlying23 Tryz.sizeOf5 rfl rfl (.old hr) (bs_ne hti) (by omega)) rfl ?_) | (refine WL.k_conv ?_; refine WL.step (Yl.convLt (s := 5) (t := 49) Tryz.underlying5 Tryz.underlying49 rfl rfl (by show _ < 18446744073709551616; omega)) rfl ?_) | (refine WL.k_bin .or ?_; refine WL.step (Yl.orN rfl rfl rfl (Nat.mod_lt _ (by decide)) (by show _ < 18446744073709551616; omega)) rfl ?_) | (refine WL.k_bin .add ?_; first | refine WL.step (Yl.add64C rfl (by omega)) rfl ?_ | refine WL.step (Yl.add64N rfl rfl (by omega)) rfl ?_) | refine WC.seq ?_ | refine WC.region ?_ | refine WL.nil ?_ | refine WN.then_normal ?_ | refine WC.block ?_ | refine WC.skip ?_ | refine WN.block_normal ?_))
          exact WN.next (i + 1) (by omega) (by omega) (.cons rfl rfl (.cons rfl rfl (.cons rfl (by rw [ushl hv hc, valtake l t i hti]) (.cons rfl rfl (.cons rfl rfl .nil))))) .nil
        · obtain rfl : i = W := by omega
          (repeat (first | refine WL.step (Yl.move rfl) rfl ?_ | refine WL.step (Yl.assign rfl) rfl ?_ | refine WC.seq ?_ | refine WC.region ?_ | refine WL.nil ?_ | refine WN.then_normal ?_ | refine WC.exit ?_ | refine WC.ret ?_ | refine WN.then_exit ?_ | refine WN.block_here ?_))
          exact WN.ret2 rfl rfl rfl ⟨rfl, rfl⟩ .nil
end Go.Proofs.YtbkdjfgkebkknaaGreatDoor
namespace Go.Proofs.YtbkdjfgkebkknaaGreatDoor
set_option linter.unusedVariables false
set_option linter.unusedSimpArgs false
open Go Go.RowKit
set_option maxRecDepth 100000
attribute [local irreducible] WL WC WN Yl
theorem equal_c (a b : Option Addr) (n m c1 c2 : Nat) (l k : List UInt8) (w : World) (hl : l.length = n) (hk : k.length = m) (hn : n ≤ 9223372036854775807) (hr : CellsAt w a (bs l)) (hr2 : CellsAt w b (bs k)) :
    Calls Tryz.prog 187 #[.slice a n c1, .slice b m c2] w (Gives (Val (.bool (decide (l = k)))) w) := by
  refine enter (args := [_, _]) Tryz.func187 Tryz.ntmps187 rfl rfl ?_
  (repeat (first | refine WL.step (Yl.move rfl) rfl ?_ | refine WL.step (Yl.assign rfl) rfl ?_ | refine WL.step (Yl.len (t := 23) Tryz.underlying23 rfl) rfl ?_ | refine WL.step (Yl.neq rfl rfl) rfl ?_ | refine WC.seq ?_ | refine WC.region ?_ | refine WL.nil ?_ | refine WN.then_normal ?_))
  refine WC.ite rfl (fun h => ?_) (fun h => ?_)
  · (repeat (first | refine WL.step (Yl.assign rfl) rfl ?_ | refine WC.seq ?_ | refine WC.region ?_ | refine WL.nil ?_ | refine WN.then_normal ?_ | refine WC.ret ?_ | refine WN.then_ret ?_))
    exact WN.ret1 rfl rfl ⟨by rw [decide_eq_false (fun e => h (by rw [← hl, ← hk, e]))], rfl⟩ .nil
  · (repeat (first | refine WL.step (Yl.move rfl) rfl ?_ | refine WL.step (Yl.len (t := 23) Tryz.underlying23 rfl) rfl ?_ | refine WC.seq ?_ | refine WC.region ?_ | refine WL.nil ?_ | refine WN.then_normal ?_ | refine WC.block ?_ | refine WC.skip ?_))
    refine WC.loop (α := Nat) (fun i => [(0, .slice a n c1), (1, .slice b m c2), (12, .int .i64 (n : Int)), (13, .int .i64 (i : Int))]) (fun _ => []) (fun i => i ≤ n ∧ l.take i = k.take i) (fun i => n - i) 0 (by repeat (first | exact Sub.nil | refine Sub.cons rfl rfl ?_)) .nil ⟨by omega, rfl⟩ ?_
    intro i hi
    obtain ⟨hi, he⟩ := hi
    (repeat (first | refine WL.step (Yl.lss rfl rfl) rfl ?_ | refine WC.seq ?_ | refine WC.region ?_ | refine WL.nil ?_ | refine WN.then_normal ?_))
    refine WC.ite rfl (fun h2 => ?_) (fun h2 => ?_)
    · have h3 : i < l.length := by omega
      have h4 : i < k.length := by omega
      (repeat (first | refine WL.step (Yl.move rfl) rfl ?_ | refine WL.step (Yl.assign rfl) rfl ?_ | refine WC.seq ?_ | refine WC.region ?_ | refine WL.nil ?_ | refine WN.then_normal ?_ | refine WC.block ?_ | refine WC.skip ?_))
      refine WC.regionQ (by kernel_rfl) (by kernel_rfl) ?_
      (repeat (first | refine WQ.step (Yl.indexAddr1 (t := 23) Tryz.underlying23 Tryz.sizeOf5 rfl rfl (.old hr) (bs_ne h3) (by omega)) rfl ?_ | refine WQ.step (Yl.load (T := 5) Tryz.isAgg5 rfl (.old hr) (bs_get h3)) rfl ?_ | refine WQ.step (Yl.indexAddr1 (t := 23) Tryz.underlying23 Tryz.sizeOf5 rfl rfl (.old hr2) (bs_ne h4) (by omega)) rfl ?_ | refine WQ.step (Yl.load (T := 5) Tryz.isAgg5 rfl (.old hr2) (bs_get h4)) rfl ?_ | refine WQ.step (Yl.move rfl) rfl ?_ | refine WQ.step (Yl.neq rfl rfl) rfl ?_ | refine WQ.nil ?_))
      (repeat (first | refine WN.then_normal ?_))
      refine WC.ite rfl (fun h5 => ?_) (fun h5 => ?_)
      · (repeat (first | refine WL.step (Yl.assign rfl) rfl ?_ | refine WC.seq ?_ | refine WC.region ?_ | refine WL.nil ?_ | refine WN.then_normal ?_ | refine WC.ret ?_ | refine WN.then_ret ?_ | refine WN.block_ret ?_))
        refine WN.ret1 rfl rfl ⟨?_, rfl⟩ .nil
        rw [decide_eq_false]
        intro e; subst e; exact h5 rfl
      · (repeat (first | refine WL.step (Yl.move rfl) rfl ?_ | (refine WL.k_bin .add ?_; refine WL.step (Yl.add64C rfl (by omega)) rfl ?_) | refine WC.region ?_ | refine WL.nil ?_ | refine WN.then_normal ?_ | refine WC.skip ?_ | refine WN.block_normal ?_))
        refine WN.next (i + 1) ⟨by omega, ?_⟩ (by omega) (by repeat (first | exact Sub.nil | refine Sub.cons rfl rfl ?_)) .nil
        rw [take_snoc l 0 h3, take_snoc k 0 h4, he, UInt8.toNat.inj (show (l.getD i 0).toNat = (k.getD i 0).toNat by omega)]
    · obtain rfl : i = n := by omega
      (repeat (first | refine WL.step (Yl.assign rfl) rfl ?_ | refine WC.seq ?_ | refine WC.region ?_ | refine WL.nil ?_ | refine WN.then_normal ?_ | refine WC.exit ?_ | refine WC.ret ?_ | refine WN.then_exit ?_ | refine WN.block_here ?_))
      refine WN.ret1 rfl rfl ⟨?_, rfl⟩ .nil
      rw [List.take_of_length_le (by omega), List.take_of_length_le (by omega)] at he
      rw [decide_eq_true he]

end Go.Proofs.YtbkdjfgkebkknaaGreatDoor
