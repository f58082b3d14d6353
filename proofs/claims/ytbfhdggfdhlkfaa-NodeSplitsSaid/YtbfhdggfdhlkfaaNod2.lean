/- Nodes in memory; which nodes are valid. -/
import Derived.Test.YtbfhdggfdhlkfaaNod1
namespace Go.Proofs.Ytbfhdggfdhlkfaa
set_option linter.unusedVariables false
set_option linter.unusedSimpArgs false
open Go Go.RowKit
set_option maxRecDepth 100000
set_option maxHeartbeats 4000000
/-- Where a node's slices lie. -/
structure Pl where
  ka : Option Addr
  kc : Nat
  va : Option Addr
  vc : Nat
  ca : Option Addr
  cc : Nat
def ndl (x : Nod.N) (p : Pl) : List Value := [.bool x.leaf, .slice p.ka x.ks.length p.kc, .slice p.va x.vs.length p.vc, .slice p.ca x.cs.length p.cc]
def ndv (x : Nod.N) (p : Pl) : Value := .agg (ndl x p).toArray
structure NdAt (w : World) (x : Nod.N) (p : Pl) : Prop where
  ks : CellsAt w p.ka (kcells x.ks)
  vs : CellsAt w p.va (vcells x.vs)
  cs : CellsAt w p.ca (icells x.cs)
  kc : x.ks.length ≤ p.kc
  vc : x.vs.length ≤ p.vc
  cc : x.cs.length ≤ p.cc
structure NdRd (X : Cx) (A : List HA) (x : Nod.N) (p : Pl) : Prop where
  ks : Rd X A p.ka (kcells x.ks)
  vs : Rd X A p.va (vcells x.vs)
  cs : Rd X A p.ca (icells x.cs)
  kc : x.ks.length ≤ p.kc
  vc : x.vs.length ≤ p.vc
  cc : x.cs.length ≤ p.cc
theorem NdAt.old {P : Program} {n : Nat} {w0 : World} {A : List HA} {x : Nod.N} {p : Pl} (h : NdAt w0 x p) : NdRd ⟨P, n, w0, []⟩ A x p := ⟨.old h.ks, .old h.vs, .old h.cs, h.kc, h.vc, h.cc⟩
theorem NdRd.at_ {X : Cx} {A : List HA} {x : Nod.N} {p : Pl} {w : World} (h : NdRd X A x p) (s : St X.w0 X.S A w) : NdAt w x p := ⟨h.ks w s, h.vs w s, h.cs w s, h.kc, h.vc, h.cc⟩
theorem ndv_t {x : Nod.N} {p : Pl} (h : x.leaf = true) : ndv x p = .agg #[.bool true, .slice p.ka x.ks.length p.kc, .slice p.va x.vs.length p.vc, .slice p.ca x.cs.length p.cc] := by unfold ndv ndl; rw [h]
theorem ndv_f {x : Nod.N} {p : Pl} (h : x.leaf = false) : ndv x p = .agg #[.bool false, .slice p.ka x.ks.length p.kc, .slice p.va x.vs.length p.vc, .slice p.ca x.cs.length p.cc] := by unfold ndv ndl; rw [h]
theorem fl26 : flatT Try.prog 26 = true := by kernel_rfl
theorem fl32 : flatT Try.prog 32 = true := by kernel_rfl
attribute [local irreducible] WL WC WN Yl WH WQ WT
theorem asc_c (a : Option Addr) (n cap : Nat) (l : List Nod.K) (w : World) (hl : l.length = n) (hw : ∀ k ∈ l, k.Wf) (hn : n ≤ 1000) (hr : CellsAt w a (kcells l)) :
    Calls Try.prog 58 #[.slice a n cap] w (Gives (Val (.bool (decide (Nod.Asc l)))) w) := by
  refine enter (args := [_]) Try.func58 Try.ntmps58 rfl rfl ?_
  (repeat (first | refine WL.step (Yl.assign rfl) rfl ?_ | refine WC.seq ?_ | refine WC.region ?_ | refine WL.nil ?_ | refine WN.then_normal ?_ | refine WC.block ?_))
  refine WC.loop (α := Nat) (fun i => [(0, .slice a n cap), (3, .int .i64 (i : Int))]) (fun _ => []) (fun i => 1 ≤ i ∧ i ≤ n + 1 ∧ ∀ j, j + 1 < i → j + 1 < n → Nod.cmp (Nod.key l j) (Nod.key l (j + 1)) < 0) (fun i => n + 1 - i) 1 (by repeat (first | exact Sub.nil | refine Sub.cons rfl rfl ?_)) .nil ⟨by omega, by omega, fun j h => by omega⟩ ?_
  intro i ⟨h1, hi, hz⟩
  (repeat (first | refine WL.step (Yl.move rfl) rfl ?_ | refine WL.step (Yl.len (t := 22) Try.underlying22 rfl) rfl ?_ | refine WL.step (Yl.lss rfl rfl) rfl ?_ | refine WC.seq ?_ | refine WC.region ?_ | refine WL.nil ?_ | refine WN.then_normal ?_))
  refine WC.ite rfl (fun h2 => ?_) (fun h2 => ?_)
  · have hi1 : i - 1 < l.length := by omega
    have hil : i < l.length := by omega
    have hcc := fun w => ncmp_c (Nod.key l (i - 1)) (Nod.key l i) w (hw _ (key_mem hi1)) (hw _ (key_mem hil))
    (repeat (first | refine WC.seq ?_ | refine WN.then_normal ?_ | refine WC.block ?_ | refine WC.skip ?_))
    refine WC.regionH [] (by kernel_rfl) ?_
    (refine WH.order [0, 1, 2, 3, 4, 5, 6, 7, 8] (by repeat (first | exact Part.nil | refine Part.cons (by repeat (first | exact Pick.here | apply Pick.there)) ?_ | refine Part.free ?_)) (by kernel_rfl) ?_; (repeat (first | (refine WT.k_move rfl ?_; refine WT.take rfl rfl (fun _ _ _ h => h) (Yl.move rfl) rfl (by kernel_rfl) (by kernel_rfl) ?_) | (refine WT.k_load rfl ?_; first | refine WT.take rfl rfl (fun _ _ _ h => h) (Yl.loadEl (kv (Nod.key l (i - 1))) Try.isAgg42 Try.sizeOf42 rfl (.old hr) (kv_len (hw _ (key_mem hi1))) (kv_ne _) (kcells_at hw hi1)) rfl (by kernel_rfl) (by kernel_rfl) ?_ | refine WT.take rfl rfl (fun _ _ _ h => h) (Yl.loadEl (kv (Nod.key l i)) Try.isAgg42 Try.sizeOf42 rfl (.old hr) (kv_len (hw _ (key_mem hil))) (kv_ne _) (kcells_at hw hil)) rfl (by kernel_rfl) (by kernel_rfl) ?_) | (refine WT.k_bin .sub rfl ?_; refine WT.take rfl rfl (fun _ _ _ h => h) (Yl.sub64C rfl (by omega) (by omega)) rfl (by kernel_rfl) (by kernel_rfl) ?_) | (refine WT.k_idxa rfl ?_; refine WT.take rfl rfl (fun _ _ _ h => h) (Yl.indexAddr (t := 22) Try.underlying22 Try.sizeOf42 rfl rfl (.old hr) (kcells_ne hil) (by omega)) rfl (by kernel_rfl) (by kernel_rfl) ?_))); refine WT.nil ?_)
    refine WH.only (i := 9) (by kernel_rfl) rfl ?_
    refine WL.callV (g := 27) Try.call27 rfl (fun w _ => hcc w) rfl ?_
    refine WL.nil (WN.nextH .nil ?_)
    by_cases h3 : Nod.cmp (Nod.key l (i - 1)) (Nod.key l i) < 0
    · (refine WH.order [10] (by repeat (first | exact Part.nil | refine Part.cons (by repeat (first | exact Pick.here | apply Pick.there)) ?_ | refine Part.free ?_)) (by kernel_rfl) ?_; (repeat (first | (refine WT.k_bin .geq rfl ?_; refine WT.take rfl rfl (fun _ _ _ h => h) (Yl.geqF rfl rfl (by omega)) rfl (by kernel_rfl) (by kernel_rfl) ?_))); refine WT.nil ?_)
      refine WH.done (by kernel_rfl) ?_
      (repeat (first | refine WN.then_normal ?_))
      refine WC.cond_false rfl rfl ?_
      (repeat (first | refine WL.step (Yl.move rfl) rfl ?_ | refine WL.step (Yl.assign rfl) rfl ?_ | (refine WL.k_bin .add ?_; refine WL.step (Yl.add64C rfl (by omega)) rfl ?_) | refine WC.region ?_ | refine WL.nil ?_ | refine WN.then_normal ?_ | refine WC.skip ?_ | refine WN.block_normal ?_))
      refine WN.next (i + 1) ⟨by omega, by omega, fun j hj hjn => ?_⟩ (by omega) (by repeat (first | exact Sub.nil | refine Sub.cons rfl rfl ?_)) .nil
      by_cases h4 : j + 1 = i
      · rw [show j = i - 1 by omega, show i - 1 + 1 = i by omega]; exact h3
      · exact hz j (by omega) hjn
    · (refine WH.order [10] (by repeat (first | exact Part.nil | refine Part.cons (by repeat (first | exact Pick.here | apply Pick.there)) ?_ | refine Part.free ?_)) (by kernel_rfl) ?_; (repeat (first | (refine WT.k_bin .geq rfl ?_; refine WT.take rfl rfl (fun _ _ _ h => h) (Yl.geqT rfl rfl (by omega)) rfl (by kernel_rfl) (by kernel_rfl) ?_))); refine WT.nil ?_)
      refine WH.done (by kernel_rfl) ?_
      (repeat (first | refine WN.then_normal ?_))
      refine WC.cond_true rfl rfl ?_
      rw [decide_eq_false (p := Nod.Asc l) fun h => h3 (by have := h (i - 1) (by omega); rwa [show i - 1 + 1 = i by omega] at this)]
      (repeat (first | refine WL.step (Yl.assign rfl) rfl ?_ | refine WC.seq ?_ | refine WC.region ?_ | refine WL.nil ?_ | refine WN.then_normal ?_ | refine WC.ret ?_ | refine WN.then_ret ?_ | refine WN.block_ret ?_))
      exact WN.ret1 rfl rfl ⟨rfl, rfl⟩ .nil
  · rw [decide_eq_true (p := Nod.Asc l) fun j hj => hz j (by omega) (by omega)]
    (repeat (first | refine WL.step (Yl.assign rfl) rfl ?_ | refine WC.seq ?_ | refine WC.region ?_ | refine WL.nil ?_ | refine WN.then_normal ?_ | refine WC.exit ?_ | refine WC.ret ?_ | refine WN.then_exit ?_ | refine WN.block_here ?_))
    exact WN.ret1 rfl rfl ⟨rfl, rfl⟩ .nil
theorem kid_c (c : Int) (w : World) : Calls Try.prog 61 #[.int .i64 c] w (Gives (Val (.bool (decide (Nod.kidOk c)))) w) := by
  refine enter (args := [_]) Try.func61 Try.ntmps61 rfl rfl ?_
  by_cases h1 : 1 ≤ c
  · by_cases h2 : c ≤ 4096
    · rw [decide_eq_true (p := Nod.kidOk c) ⟨h1, h2⟩]
      (repeat (first | refine WL.want rfl rfl rfl ?_ | refine WL.step (Yl.move rfl) rfl ?_ | refine WL.step (Yl.assign rfl) rfl ?_ | refine WL.step (Yl.pick_t rfl rfl rfl) rfl ?_ | (refine WL.k_bin .leq ?_; refine WL.step (Yl.leqT rfl rfl (by omega)) rfl ?_) | (refine WL.k_bin .geq ?_; refine WL.step (Yl.geqT rfl rfl (by omega)) rfl ?_) | refine WC.seq ?_ | refine WC.region ?_ | refine WL.nil ?_ | refine WN.then_normal ?_ | refine WC.ret ?_))
      exact WN.ret1 rfl rfl ⟨rfl, rfl⟩ .nil
    · rw [decide_eq_false (p := Nod.kidOk c) fun h => h2 h.2]
      (repeat (first | refine WL.want rfl rfl rfl ?_ | refine WL.step (Yl.move rfl) rfl ?_ | refine WL.step (Yl.assign rfl) rfl ?_ | refine WL.step (Yl.pick_t rfl rfl rfl) rfl ?_ | (refine WL.k_bin .leq ?_; refine WL.step (Yl.leqF rfl rfl (by omega)) rfl ?_) | (refine WL.k_bin .geq ?_; refine WL.step (Yl.geqT rfl rfl (by omega)) rfl ?_) | refine WC.seq ?_ | refine WC.region ?_ | refine WL.nil ?_ | refine WN.then_normal ?_ | refine WC.ret ?_))
      exact WN.ret1 rfl rfl ⟨rfl, rfl⟩ .nil
  · rw [decide_eq_false (p := Nod.kidOk c) fun h => h1 h.1]
    (repeat (first | refine WL.pass rfl rfl rfl rfl ?_ | refine WL.step (Yl.move rfl) rfl ?_ | refine WL.step (Yl.assign rfl) rfl ?_ | refine WL.step (Yl.pick_f rfl rfl rfl) rfl ?_ | (refine WL.k_bin .geq ?_; refine WL.step (Yl.geqF rfl rfl (by omega)) rfl ?_) | refine WC.seq ?_ | refine WC.region ?_ | refine WL.nil ?_ | refine WN.then_normal ?_ | refine WC.ret ?_))
    exact WN.ret1 rfl rfl ⟨rfl, rfl⟩ .nil
theorem notkid_c (c : Int) (w : World) : Calls Try.prog 60 #[.int .i64 c] w (Gives (Val (.bool (!decide (Nod.kidOk c)))) w) := by
  refine enter (args := [_]) Try.func60 Try.ntmps60 rfl rfl ?_
  (repeat (first | refine WL.step (Yl.move rfl) rfl ?_ | refine WL.step (Yl.assign rfl) rfl ?_ | refine WL.callV (g := 61) Try.call61 rfl (fun w _ => kid_c c w) rfl ?_ | refine WL.step (Yl.not rfl) rfl ?_ | refine WC.seq ?_ | refine WC.region ?_ | refine WL.nil ?_ | refine WN.then_normal ?_ | refine WC.ret ?_))
  exact WN.ret1 rfl rfl ⟨rfl, rfl⟩ .nil
theorem getD_mem {l : List Int} {i : Nat} (h : i < l.length) : l.getD i 0 ∈ l := List.mem_of_getElem? (by simp [List.getD, h] : l[i]? = some (l.getD i 0))
theorem mem_getD {l : List Int} {c : Int} (h : c ∈ l) : ∃ i, i < l.length ∧ l.getD i 0 = c := by
  obtain ⟨i, hi, rfl⟩ := List.mem_iff_getElem.1 h
  exact ⟨i, hi, by simp [List.getD, hi]⟩
def FirstBad (l : List Int) : Value → List HA → Prop := fun v B => ∃ r : Int, v = .int .i64 r ∧ B = [] ∧ (0 ≤ r ↔ ¬ ∀ c ∈ l, Nod.kidOk c)
theorem kidx_c (a : Option Addr) (n cap : Nat) (l : List Int) (w : World) (hl : l.length = n) (hn : n ≤ 1000) (hr : CellsAt w a (icells l)) :
    Calls Try.prog 69 #[.slice a n cap, .func (.func 60) #[] #[]] w (Gives (FirstBad l) w) := by
  refine enter (args := [_, _]) Try.func69 Try.ntmps69 rfl rfl ?_
  (repeat (first | refine WL.step (Yl.move rfl) rfl ?_ | refine WL.step (Yl.assign rfl) rfl ?_ | refine WL.step (Yl.len (t := 24) Try.underlying24 rfl) rfl ?_ | refine WC.seq ?_ | refine WC.region ?_ | refine WL.nil ?_ | refine WN.then_normal ?_ | refine WC.block ?_))
  refine WC.loop (α := Nat) (fun i => [(0, .slice a n cap), (1, .func (.func 60) #[] #[]), (7, .int .i64 (n : Int)), (8, .int .i64 (i : Int))]) (fun _ => []) (fun i => i ≤ n ∧ ∀ j, j < i → Nod.kidOk (l.getD j 0)) (fun i => n - i) 0 (by repeat (first | exact Sub.nil | refine Sub.cons rfl rfl ?_)) .nil ⟨by omega, by omega⟩ ?_
  intro i ⟨hi, hz⟩
  (repeat (first | refine WL.step (Yl.lss rfl rfl) rfl ?_ | refine WC.seq ?_ | refine WC.region ?_ | refine WL.nil ?_ | refine WN.then_normal ?_))
  refine WC.ite rfl (fun h1 => ?_) (fun h1 => ?_)
  · have hil : i < l.length := by omega
    (repeat (first | refine WL.step (Yl.move rfl) rfl ?_ | refine WL.step (Yl.assign rfl) rfl ?_ | refine WL.step (Yl.load (T := 3) Try.isAgg3 rfl (.old hr) (icells_at hil)) rfl ?_ | (refine WL.k_idxa ?_; refine WL.step (Yl.indexAddr1 (t := 24) Try.underlying24 Try.sizeOf3 rfl rfl (.old hr) (icells_ne hil) (by omega)) rfl ?_) | refine WL.callFV (g := 60) (cs := []) Try.call60 rfl rfl (fun w _ => notkid_c (l.getD i 0) w) rfl ?_ | refine WC.seq ?_ | refine WC.region ?_ | refine WL.nil ?_ | refine WN.then_normal ?_ | refine WC.block ?_ | refine WC.skip ?_))
    by_cases h2 : Nod.kidOk (l.getD i 0)
    · refine WC.cond_false rfl (by rw [decide_eq_true h2]; rfl) ?_
      (repeat (first | refine WL.step (Yl.move rfl) rfl ?_ | (refine WL.k_bin .add ?_; refine WL.step (Yl.add64C rfl (by omega)) rfl ?_) | refine WC.region ?_ | refine WL.nil ?_ | refine WN.then_normal ?_ | refine WC.skip ?_ | refine WN.block_normal ?_))
      exact WN.next (i + 1) ⟨by omega, fun j hj => by rcases Nat.lt_or_ge j i with h | h; exact hz j h; rwa [show j = i by omega]⟩ (by omega) (by repeat (first | exact Sub.nil | refine Sub.cons rfl rfl ?_)) .nil
    · refine WC.cond_true rfl (by rw [decide_eq_false h2]; rfl) ?_
      (repeat (first | refine WL.step (Yl.move rfl) rfl ?_ | refine WL.step (Yl.assign rfl) rfl ?_ | refine WC.seq ?_ | refine WC.region ?_ | refine WL.nil ?_ | refine WN.then_normal ?_ | refine WC.ret ?_ | refine WN.then_ret ?_ | refine WN.block_ret ?_))
      exact WN.ret1 rfl rfl ⟨(i : Int), rfl, rfl, fun _ h => h2 (h _ (getD_mem hil)), fun _ => by omega⟩ .nil
  · (repeat (first | refine WL.step (Yl.assign rfl) rfl ?_ | refine WC.seq ?_ | refine WC.region ?_ | refine WL.nil ?_ | refine WN.then_normal ?_ | refine WC.exit ?_ | refine WC.ret ?_ | refine WN.then_exit ?_ | refine WN.block_here ?_))
    refine WN.ret1 rfl rfl ⟨-1, rfl, rfl, fun h => by omega, fun h => absurd (fun c hc => ?_) h⟩ .nil
    obtain ⟨j, hj, rfl⟩ := mem_getD hc
    exact hz j (by omega)
theorem kcont_c (a : Option Addr) (n cap : Nat) (l : List Int) (w : World) (hl : l.length = n) (hn : n ≤ 1000) (hr : CellsAt w a (icells l)) :
    Calls Try.prog 59 #[.slice a n cap, .func (.func 60) #[] #[]] w (Gives (Val (.bool (decide (¬ ∀ c ∈ l, Nod.kidOk c)))) w) := by
  refine enter (args := [_, _]) Try.func59 Try.ntmps59 rfl rfl ?_
  (repeat (first | refine WL.step (Yl.move rfl) rfl ?_ | refine WL.step (Yl.assign rfl) rfl ?_ | refine WC.seq ?_ | refine WC.region ?_ | refine WL.nil ?_ | refine WN.then_normal ?_))
  refine WL.call (g := 69) Try.call69 rfl (fun w s => kidx_c a n cap l w hl hn (Rd.old hr w s)) rfl fun v B hv => ?_
  obtain ⟨r, rfl, rfl, h⟩ := hv
  rw [List.nil_append]
  (repeat (first | refine WL.step (Yl.assign rfl) rfl ?_ | refine WL.step (Yl.geq rfl rfl) rfl ?_ | refine WL.nil ?_ | refine WN.then_normal ?_ | refine WC.ret ?_))
  exact WN.ret1 rfl rfl ⟨by rw [decide_eq_decide.2 h], rfl⟩ .nil
theorem most_c (x : Nod.N) (p : Pl) (w : World) : Calls Try.prog 36 #[ndv x p] w (Gives (Val (.int .i64 ((Nod.most x.leaf : Nat) : Int))) w) := by
  refine enter (args := [_]) Try.func36 Try.ntmps36 rfl rfl ?_
  (repeat (first | refine WL.step (Yl.assign rfl) rfl ?_ | refine WL.boxA (cs := (ndl x p).toArray) rfl rfl fun b1 => ?_ | refine WC.seq ?_ | refine WC.region ?_ | refine WL.nil ?_ | refine WN.then_normal ?_))
  (repeat (first | (refine WL.k_load ?_; refine WL.step (Yl.loadBlk (T := 4) Try.isAgg4 rfl (by repeat (first | exact .head _ | refine .tail _ ?_)) (by rfl)) rfl ?_) | refine WL.step (Yl.fld0 (t := 26) Try.underlying26 fl26 rfl rfl) rfl ?_ | refine WL.nil ?_ | refine WN.then_normal ?_))
  refine WC.cond rfl (fun h => ?_) (fun h => ?_)
  · rw [h]
    (repeat (first | refine WL.step (Yl.assign rfl) rfl ?_ | refine WC.seq ?_ | refine WC.region ?_ | refine WL.nil ?_ | refine WN.then_normal ?_ | refine WC.ret ?_ | refine WN.then_ret ?_))
    exact WN.ret1 rfl rfl ⟨rfl, rfl⟩ .nil
  · rw [h]
    (repeat (first | refine WL.step (Yl.assign rfl) rfl ?_ | refine WC.seq ?_ | refine WC.region ?_ | refine WL.nil ?_ | refine WN.then_normal ?_ | refine WC.skip ?_ | refine WC.ret ?_))
    exact WN.ret1 rfl rfl ⟨rfl, rfl⟩ .nil
theorem formed_c (x : Nod.N) (p : Pl) (w : World) (hx : x.Wf) (h : NdAt w x p) : Calls Try.prog 35 #[ndv x p] w (Gives (Val (.bool (decide (Nod.Formed x)))) w) := by
  have hkl := hx.kl
  have hvl := hx.vl
  have hcl := hx.cl
  refine enter (args := [_]) Try.func35 Try.ntmps35 rfl rfl ?_
  (repeat (first | refine WL.step (Yl.assign rfl) rfl ?_ | refine WL.boxA (cs := (ndl x p).toArray) rfl rfl fun b1 => ?_ | refine WC.seq ?_ | refine WC.region ?_ | refine WL.nil ?_ | refine WN.then_normal ?_))
  (repeat (first | (refine WL.k_load ?_; refine WL.step (Yl.loadBlk (T := 22) Try.isAgg22 rfl (by repeat (first | exact .head _ | refine .tail _ ?_)) (by rfl)) rfl ?_) | refine WL.step (Yl.fld0 (t := 26) Try.underlying26 fl26 rfl rfl) rfl ?_ | (refine WL.k_call 58 ?_; refine WL.callV (g := 58) Try.call58 rfl (fun w s => asc_c p.ka x.ks.length p.kc x.ks w rfl hx.ks hkl (Rd.old h.ks w s)) rfl ?_) | refine WL.step (Yl.not rfl) rfl ?_ | refine WL.nil ?_ | refine WN.then_normal ?_))
  by_cases h1 : Nod.Asc x.ks
  · refine WC.cond_false rfl (by rw [decide_eq_true h1]; rfl) ?_
    (repeat (first | (refine WL.k_load ?_; refine WL.step (Yl.loadBlk (T := 4) Try.isAgg4 rfl (by repeat (first | exact .head _ | refine .tail _ ?_)) (by rfl)) rfl ?_) | refine WL.step (Yl.fld0 (t := 26) Try.underlying26 fl26 rfl rfl) rfl ?_ | refine WC.seq ?_ | refine WC.region ?_ | refine WL.nil ?_ | refine WN.then_normal ?_ | refine WC.skip ?_))
    refine WC.cond rfl (fun hl => ?_) (fun hl => ?_)
    · by_cases h2 : x.vs.length = x.ks.length
      · by_cases h3 : x.cs.length = 0
        · rw [decide_eq_true (p := Nod.Formed x) ⟨h1, by rw [if_pos hl]; exact ⟨h2, h3⟩⟩]
          (repeat (first | refine WL.want rfl rfl rfl ?_ | refine WL.step (Yl.move rfl) rfl ?_ | refine WL.step (Yl.assign rfl) rfl ?_ | (refine WL.k_load ?_; first | refine WL.step (Yl.loadBlk (T := 22) Try.isAgg22 rfl (by repeat (first | exact .head _ | refine .tail _ ?_)) (by rfl)) rfl ?_ | refine WL.step (Yl.loadBlk (T := 23) Try.isAgg23 rfl (by repeat (first | exact .head _ | refine .tail _ ?_)) (by rfl)) rfl ?_ | refine WL.step (Yl.loadBlk (T := 24) Try.isAgg24 rfl (by repeat (first | exact .head _ | refine .tail _ ?_)) (by rfl)) rfl ?_) | refine WL.step (Yl.fld0 (t := 26) Try.underlying26 fl26 rfl rfl) rfl ?_ | refine WL.step (Yl.pick_t rfl rfl rfl) rfl ?_ | (refine WL.k_bi .len ?_; first | refine WL.step (Yl.len (t := 22) Try.underlying22 rfl) rfl ?_ | refine WL.step (Yl.len (t := 23) Try.underlying23 rfl) rfl ?_ | refine WL.step (Yl.len (t := 24) Try.underlying24 rfl) rfl ?_) | (refine WL.k_bin .eql ?_; refine WL.step (Yl.eqlT rfl rfl (by omega)) rfl ?_) | refine WC.seq ?_ | refine WC.region ?_ | refine WL.nil ?_ | refine WN.then_normal ?_ | refine WC.ret ?_ | refine WN.then_ret ?_))
          exact WN.ret1 rfl rfl ⟨rfl, rfl⟩ .nil
        · rw [decide_eq_false (p := Nod.Formed x) fun q => by have := q.2; rw [if_pos hl] at this; exact h3 this.2]
          (repeat (first | refine WL.want rfl rfl rfl ?_ | refine WL.step (Yl.move rfl) rfl ?_ | refine WL.step (Yl.assign rfl) rfl ?_ | (refine WL.k_load ?_; first | refine WL.step (Yl.loadBlk (T := 22) Try.isAgg22 rfl (by repeat (first | exact .head _ | refine .tail _ ?_)) (by rfl)) rfl ?_ | refine WL.step (Yl.loadBlk (T := 23) Try.isAgg23 rfl (by repeat (first | exact .head _ | refine .tail _ ?_)) (by rfl)) rfl ?_ | refine WL.step (Yl.loadBlk (T := 24) Try.isAgg24 rfl (by repeat (first | exact .head _ | refine .tail _ ?_)) (by rfl)) rfl ?_) | refine WL.step (Yl.fld0 (t := 26) Try.underlying26 fl26 rfl rfl) rfl ?_ | refine WL.step (Yl.pick_t rfl rfl rfl) rfl ?_ | (refine WL.k_bi .len ?_; first | refine WL.step (Yl.len (t := 22) Try.underlying22 rfl) rfl ?_ | refine WL.step (Yl.len (t := 23) Try.underlying23 rfl) rfl ?_ | refine WL.step (Yl.len (t := 24) Try.underlying24 rfl) rfl ?_) | (refine WL.k_bin .eql ?_; first | refine WL.step (Yl.eqlT rfl rfl (by omega)) rfl ?_ | refine WL.step (Yl.eqlF rfl rfl (by omega)) rfl ?_) | refine WC.seq ?_ | refine WC.region ?_ | refine WL.nil ?_ | refine WN.then_normal ?_ | refine WC.ret ?_ | refine WN.then_ret ?_))
          exact WN.ret1 rfl rfl ⟨rfl, rfl⟩ .nil
      · rw [decide_eq_false (p := Nod.Formed x) fun q => by have := q.2; rw [if_pos hl] at this; exact h2 this.1]
        (repeat (first | refine WL.pass rfl rfl rfl rfl ?_ | refine WL.step (Yl.move rfl) rfl ?_ | refine WL.step (Yl.assign rfl) rfl ?_ | (refine WL.k_load ?_; first | refine WL.step (Yl.loadBlk (T := 22) Try.isAgg22 rfl (by repeat (first | exact .head _ | refine .tail _ ?_)) (by rfl)) rfl ?_ | refine WL.step (Yl.loadBlk (T := 23) Try.isAgg23 rfl (by repeat (first | exact .head _ | refine .tail _ ?_)) (by rfl)) rfl ?_) | refine WL.step (Yl.fld0 (t := 26) Try.underlying26 fl26 rfl rfl) rfl ?_ | refine WL.step (Yl.pick_f rfl rfl rfl) rfl ?_ | (refine WL.k_bi .len ?_; first | refine WL.step (Yl.len (t := 22) Try.underlying22 rfl) rfl ?_ | refine WL.step (Yl.len (t := 23) Try.underlying23 rfl) rfl ?_) | (refine WL.k_bin .eql ?_; refine WL.step (Yl.eqlF rfl rfl (by omega)) rfl ?_) | refine WC.seq ?_ | refine WC.region ?_ | refine WL.nil ?_ | refine WN.then_normal ?_ | refine WC.ret ?_ | refine WN.then_ret ?_))
        exact WN.ret1 rfl rfl ⟨rfl, rfl⟩ .nil
    · have hl' : ¬ x.leaf = true := by rw [hl]; decide
      by_cases h4 : ∀ c ∈ x.cs, Nod.kidOk c
      · have hk := fun w (q : CellsAt w p.ca (icells x.cs)) => kcont_c p.ca x.cs.length p.cc x.cs w rfl hcl q
        rw [decide_eq_false (p := ¬ ∀ c ∈ x.cs, Nod.kidOk c) (fun q => q h4)] at hk
        (repeat (first | refine WL.want rfl rfl rfl ?_ | refine WL.step (Yl.move rfl) rfl ?_ | refine WL.step (Yl.assign rfl) rfl ?_ | (refine WL.k_load ?_; refine WL.step (Yl.loadBlk (T := 24) Try.isAgg24 rfl (by repeat (first | exact .head _ | refine .tail _ ?_)) (by rfl)) rfl ?_) | refine WL.step (Yl.fld0 (t := 26) Try.underlying26 fl26 rfl rfl) rfl ?_ | (refine WL.k_call 59 ?_; refine WL.callV (g := 59) Try.call59 rfl (fun w s => hk w (Rd.old h.cs w s)) rfl ?_) | refine WL.step (Yl.not rfl) rfl ?_ | refine WC.seq ?_ | refine WC.region ?_ | refine WL.nil ?_ | refine WN.then_normal ?_ | refine WC.skip ?_))
        by_cases h2 : x.cs.length = x.ks.length + 1
        · by_cases h3 : x.vs.length = 0
          · rw [decide_eq_true (p := Nod.Formed x) ⟨h1, by rw [if_neg hl']; exact ⟨h4, h2, h3⟩⟩]
            (repeat (first | refine WL.want rfl rfl rfl ?_ | refine WL.step (Yl.move rfl) rfl ?_ | refine WL.step (Yl.assign rfl) rfl ?_ | (refine WL.k_load ?_; first | refine WL.step (Yl.loadBlk (T := 22) Try.isAgg22 rfl (by repeat (first | exact .head _ | refine .tail _ ?_)) (by rfl)) rfl ?_ | refine WL.step (Yl.loadBlk (T := 23) Try.isAgg23 rfl (by repeat (first | exact .head _ | refine .tail _ ?_)) (by rfl)) rfl ?_) | refine WL.step (Yl.fld0 (t := 26) Try.underlying26 fl26 rfl rfl) rfl ?_ | refine WL.step (Yl.pick_t rfl rfl rfl) rfl ?_ | (refine WL.k_bi .len ?_; first | refine WL.step (Yl.len (t := 22) Try.underlying22 rfl) rfl ?_ | refine WL.step (Yl.len (t := 23) Try.underlying23 rfl) rfl ?_ | refine WL.step (Yl.len (t := 24) Try.underlying24 rfl) rfl ?_) | (refine WL.k_bin .eql ?_; refine WL.step (Yl.eqlT rfl rfl (by omega)) rfl ?_) | (refine WL.k_bin .add ?_; refine WL.step (Yl.add64C rfl (by omega)) rfl ?_) | refine WL.nil ?_ | refine WN.then_normal ?_ | refine WC.ret ?_))
            exact WN.ret1 rfl rfl ⟨rfl, rfl⟩ .nil
          · rw [decide_eq_false (p := Nod.Formed x) fun q => by have := q.2; rw [if_neg hl'] at this; exact h3 this.2.2]
            (repeat (first | refine WL.want rfl rfl rfl ?_ | refine WL.step (Yl.move rfl) rfl ?_ | refine WL.step (Yl.assign rfl) rfl ?_ | (refine WL.k_load ?_; first | refine WL.step (Yl.loadBlk (T := 22) Try.isAgg22 rfl (by repeat (first | exact .head _ | refine .tail _ ?_)) (by rfl)) rfl ?_ | refine WL.step (Yl.loadBlk (T := 23) Try.isAgg23 rfl (by repeat (first | exact .head _ | refine .tail _ ?_)) (by rfl)) rfl ?_) | refine WL.step (Yl.fld0 (t := 26) Try.underlying26 fl26 rfl rfl) rfl ?_ | refine WL.step (Yl.pick_t rfl rfl rfl) rfl ?_ | (refine WL.k_bi .len ?_; first | refine WL.step (Yl.len (t := 22) Try.underlying22 rfl) rfl ?_ | refine WL.step (Yl.len (t := 23) Try.underlying23 rfl) rfl ?_ | refine WL.step (Yl.len (t := 24) Try.underlying24 rfl) rfl ?_) | (refine WL.k_bin .eql ?_; first | refine WL.step (Yl.eqlT rfl rfl (by omega)) rfl ?_ | refine WL.step (Yl.eqlF rfl rfl (by omega)) rfl ?_) | (refine WL.k_bin .add ?_; refine WL.step (Yl.add64C rfl (by omega)) rfl ?_) | refine WL.nil ?_ | refine WN.then_normal ?_ | refine WC.ret ?_))
            exact WN.ret1 rfl rfl ⟨rfl, rfl⟩ .nil
        · rw [decide_eq_false (p := Nod.Formed x) fun q => by have := q.2; rw [if_neg hl'] at this; exact h2 this.2.1]
          (repeat (first | (refine WL.kG ?_; first | refine WL.want rfl rfl rfl ?_ | refine WL.pass rfl rfl rfl rfl ?_) | refine WL.step (Yl.move rfl) rfl ?_ | refine WL.step (Yl.assign rfl) rfl ?_ | (refine WL.k_load ?_; refine WL.step (Yl.loadBlk (T := 22) Try.isAgg22 rfl (by repeat (first | exact .head _ | refine .tail _ ?_)) (by rfl)) rfl ?_) | refine WL.step (Yl.fld0 (t := 26) Try.underlying26 fl26 rfl rfl) rfl ?_ | (refine WL.k_pick ?_; first | refine WL.step (Yl.pick_t rfl rfl rfl) rfl ?_ | refine WL.step (Yl.pick_f rfl rfl rfl) rfl ?_) | (refine WL.k_bi .len ?_; first | refine WL.step (Yl.len (t := 22) Try.underlying22 rfl) rfl ?_ | refine WL.step (Yl.len (t := 24) Try.underlying24 rfl) rfl ?_) | (refine WL.k_bin .eql ?_; refine WL.step (Yl.eqlF rfl rfl (by omega)) rfl ?_) | (refine WL.k_bin .add ?_; refine WL.step (Yl.add64C rfl (by omega)) rfl ?_) | refine WL.nil ?_ | refine WN.then_normal ?_ | refine WC.ret ?_))
          exact WN.ret1 rfl rfl ⟨rfl, rfl⟩ .nil
      · rw [decide_eq_false (p := Nod.Formed x) fun q => by have := q.2; rw [if_neg hl'] at this; exact h4 this.1]
        have hk := fun w (q : CellsAt w p.ca (icells x.cs)) => kcont_c p.ca x.cs.length p.cc x.cs w rfl hcl q
        rw [decide_eq_true (p := ¬ ∀ c ∈ x.cs, Nod.kidOk c) h4] at hk
        (repeat (first | refine WL.pass rfl rfl rfl rfl ?_ | refine WL.step (Yl.move rfl) rfl ?_ | refine WL.step (Yl.assign rfl) rfl ?_ | (refine WL.k_load ?_; refine WL.step (Yl.loadBlk (T := 24) Try.isAgg24 rfl (by repeat (first | exact .head _ | refine .tail _ ?_)) (by rfl)) rfl ?_) | refine WL.step (Yl.fld0 (t := 26) Try.underlying26 fl26 rfl rfl) rfl ?_ | refine WL.step (Yl.pick_f rfl rfl rfl) rfl ?_ | (refine WL.k_call 59 ?_; refine WL.callV (g := 59) Try.call59 rfl (fun w s => hk w (Rd.old h.cs w s)) rfl ?_) | refine WL.step (Yl.not rfl) rfl ?_ | refine WC.seq ?_ | refine WC.region ?_ | refine WL.nil ?_ | refine WN.then_normal ?_ | refine WC.skip ?_ | refine WC.ret ?_))
        exact WN.ret1 rfl rfl ⟨rfl, rfl⟩ .nil
  · refine WC.cond_true rfl (by rw [decide_eq_false h1]; rfl) ?_
    rw [decide_eq_false (p := Nod.Formed x) fun q => h1 q.1]
    (repeat (first | refine WL.step (Yl.assign rfl) rfl ?_ | refine WC.seq ?_ | refine WC.region ?_ | refine WL.nil ?_ | refine WN.then_normal ?_ | refine WC.ret ?_ | refine WN.then_ret ?_))
    exact WN.ret1 rfl rfl ⟨rfl, rfl⟩ .nil
theorem err_ok {x : Nod.N} (h : Nod.Ok x) : Nod.err x = 0 := if_pos h
theorem err_bad {x : Nod.N} (h : ¬ Nod.Ok x) : Nod.err x = 2 := if_neg h
theorem check_c (x : Nod.N) (p : Pl) (w : World) (hx : x.Wf) (h : NdAt w x p) : Calls Try.prog 19 #[ndv x p] w (Gives (Val (.int .i64 ((Nod.err x : Nat) : Int))) w) := by
  have hkl := hx.kl
  refine enter (args := [_]) Try.func19 Try.ntmps19 rfl rfl ?_
  rcases Bool.eq_false_or_eq_true x.leaf with hlf | hlf
  · have hv : ndv x p = .agg #[.bool true, .slice p.ka x.ks.length p.kc, .slice p.va x.vs.length p.vc, .slice p.ca x.cs.length p.cc] := by unfold ndv ndl; rw [hlf]
    have hfo := fun w (q : NdAt w x p) => formed_c x p w hx q
    have hm := fun w => most_c x p w
    rw [hv] at hfo hm ⊢
    have hmo : Nod.most x.leaf = 8 := by rw [hlf]; rfl
    (repeat (first | refine WL.step (Yl.assign rfl) rfl ?_ | refine WL.boxA rfl rfl fun b1 => ?_ | refine WC.seq ?_ | refine WC.region ?_ | refine WL.nil ?_ | refine WN.then_normal ?_))
    refine WC.regionH [.blk b1 (.cells #[.bool true, .slice p.ka x.ks.length p.kc, .slice p.va x.vs.length p.vc, .slice p.ca x.cs.length p.cc] 26 (0, 0))] (by kernel_rfl) ?_
    (refine WH.order [0] (by repeat (first | exact Part.nil | refine Part.cons (by repeat (first | exact Pick.here | apply Pick.there)) ?_ | refine Part.free ?_)) (by kernel_rfl) ?_; (repeat (first | (refine WT.k_load rfl ?_; (refine WT.kn rfl ?_; refine WT.take rfl rfl (fun _ _ _ h => h) (Yl.loadAll (T := 26) (T' := 26) Try.isAgg26 Try.sizeOf26 rfl (.head _) rfl) rfl (by kernel_rfl) (by kernel_rfl) ?_)))); refine WT.nil ?_)
    refine WH.only (i := 1) (by kernel_rfl) rfl ?_
    refine WL.callV (g := 35) Try.call35 rfl (fun w s => hfo w ((NdAt.old h).at_ s)) rfl ?_
    refine WL.nil (WN.nextH (by repeat (first | exact Part.nil | refine Part.cons (by repeat (first | exact Pick.here | apply Pick.there)) ?_ | refine Part.free ?_)) ?_)
    by_cases h1 : Nod.Formed x
    · rw [decide_eq_true h1]
      (refine WH.order [2, 3, 4, 5, 6, 7] (by repeat (first | exact Part.nil | refine Part.cons (by repeat (first | exact Pick.here | apply Pick.there)) ?_ | refine Part.free ?_)) (by kernel_rfl) ?_; (repeat (first | (refine WT.k_move rfl ?_; (refine WT.kn rfl ?_; refine WT.take rfl rfl (fun _ _ _ h => h) (Yl.move rfl) rfl (by kernel_rfl) (by kernel_rfl) ?_)) | (refine WT.k_load rfl ?_; (refine WT.kg rfl ?_; first | refine WT.takeG rfl rfl rfl rfl (fun _ _ _ h => h) (Yl.loadBlk (T := 22) Try.isAgg22 rfl (by repeat (first | exact .head _ | refine .tail _ ?_)) (by rfl)) rfl (by kernel_rfl) (by kernel_rfl) ?_ | refine WT.takeG rfl rfl rfl rfl (fun _ _ _ h => h) (Yl.loadAll (T := 26) (T' := 26) Try.isAgg26 Try.sizeOf26 rfl (.head _) rfl) rfl (by kernel_rfl) (by kernel_rfl) ?_)) | (refine WT.k_fld rfl ?_; (refine WT.kg rfl ?_; refine WT.takeG rfl rfl rfl rfl (fun _ _ _ h => h) (Yl.fld0 (t := 26) Try.underlying26 fl26 rfl rfl) rfl (by kernel_rfl) (by kernel_rfl) ?_)) | (refine WT.k_bi .len rfl ?_; (refine WT.kg rfl ?_; refine WT.takeG rfl rfl rfl rfl (fun _ _ _ h => h) (Yl.len (t := 22) Try.underlying22 rfl) rfl (by kernel_rfl) (by kernel_rfl) ?_)) | (refine WT.k_unop rfl ?_; (refine WT.kn rfl ?_; refine WT.take rfl rfl (fun _ _ _ h => h) (Yl.not rfl) rfl (by kernel_rfl) (by kernel_rfl) ?_)))); refine WT.nil ?_)
      refine WH.only (i := 8) (by kernel_rfl) rfl ?_
      (repeat (first | refine WL.want rfl rfl rfl ?_ | refine WL.callV (g := 36) Try.call36 rfl (fun w _ => hm w) rfl ?_ | refine WL.nil ?_))
      refine WN.nextH (by repeat (first | exact Part.nil | refine Part.cons (by repeat (first | exact Pick.here | apply Pick.there)) ?_ | refine Part.free ?_)) ?_
      by_cases h2 : x.ks.length ≤ Nod.most x.leaf
      · rw [err_ok (x := x) ⟨h1, h2, fun q => absurd q (by rw [hlf]; decide)⟩]
        (refine WH.order [9, 10, 11, 12, 13, 14, 15, 16, 17, 18, 19, 20, 21] (by repeat (first | exact Part.nil | refine Part.cons (by repeat (first | exact Pick.here | apply Pick.there)) ?_ | refine Part.free ?_)) (by kernel_rfl) ?_; (repeat (first | refine WT.passG rfl rfl rfl rfl (fun _ _ _ h => h) rfl (by kernel_rfl) (by kernel_rfl) ?_ | (refine WT.k_move rfl ?_; first | (refine WT.kn rfl ?_; refine WT.take rfl rfl (fun _ _ _ h => h) (Yl.move rfl) rfl (by kernel_rfl) (by kernel_rfl) ?_) | (refine WT.kg rfl ?_; refine WT.takeG rfl rfl rfl rfl (fun _ _ _ h => h) (Yl.move rfl) rfl (by kernel_rfl) (by kernel_rfl) ?_)) | (refine WT.k_load rfl ?_; (refine WT.kg rfl ?_; refine WT.takeG rfl rfl rfl rfl (fun _ _ _ h => h) (Yl.loadBlk (T := 4) Try.isAgg4 rfl (by repeat (first | exact .head _ | refine .tail _ ?_)) (by rfl)) rfl (by kernel_rfl) (by kernel_rfl) ?_)) | (refine WT.k_fld rfl ?_; (refine WT.kg rfl ?_; refine WT.takeG rfl rfl rfl rfl (fun _ _ _ h => h) (Yl.fld0 (t := 26) Try.underlying26 fl26 rfl rfl) rfl (by kernel_rfl) (by kernel_rfl) ?_)) | (refine WT.k_pick rfl ?_; first | (refine WT.kn rfl ?_; refine WT.take rfl rfl (fun _ _ _ h => h) (Yl.pick_f rfl rfl rfl) rfl (by kernel_rfl) (by kernel_rfl) ?_) | (refine WT.kg rfl ?_; refine WT.takeG rfl rfl rfl rfl (fun _ _ _ h => h) (Yl.pick_f rfl rfl rfl) rfl (by kernel_rfl) (by kernel_rfl) ?_)) | (refine WT.k_bin .gtr rfl ?_; (refine WT.kg rfl ?_; refine WT.takeG rfl rfl rfl rfl (fun _ _ _ h => h) (Yl.gtrF rfl rfl (by omega)) rfl (by kernel_rfl) (by kernel_rfl) ?_)) | (refine WT.k_unop rfl ?_; (refine WT.kg rfl ?_; refine WT.takeG rfl rfl rfl rfl (fun _ _ _ h => h) (Yl.not rfl) rfl (by kernel_rfl) (by kernel_rfl) ?_)))); refine WT.nil ?_)
        refine WH.done (by kernel_rfl) ?_
        (repeat (first | refine WN.then_normal ?_))
        refine WC.cond_false rfl rfl ?_
        (repeat (first | refine WL.step (Yl.assign rfl) rfl ?_ | refine WC.seq ?_ | refine WC.region ?_ | refine WL.nil ?_ | refine WN.then_normal ?_ | refine WC.skip ?_ | refine WC.ret ?_))
        exact WN.ret1 rfl rfl ⟨rfl, rfl⟩ .nil
      · rw [err_bad (x := x) fun q => h2 q.2.1]
        (refine WH.order [9, 10, 11, 12, 13, 14, 15, 16, 17, 18, 19, 20, 21] (by repeat (first | exact Part.nil | refine Part.cons (by repeat (first | exact Pick.here | apply Pick.there)) ?_ | refine Part.free ?_)) (by kernel_rfl) ?_; (repeat (first | refine WT.passG rfl rfl rfl rfl (fun _ _ _ h => h) rfl (by kernel_rfl) (by kernel_rfl) ?_ | refine WT.passU rfl rfl rfl (fun _ _ _ h => h) rfl (by kernel_rfl) (by kernel_rfl) ?_ | (refine WT.k_move rfl ?_; (refine WT.kn rfl ?_; refine WT.take rfl rfl (fun _ _ _ h => h) (Yl.move rfl) rfl (by kernel_rfl) (by kernel_rfl) ?_)) | (refine WT.k_pick rfl ?_; (refine WT.kn rfl ?_; first | refine WT.take rfl rfl (fun _ _ _ h => h) (Yl.pick_t rfl rfl rfl) rfl (by kernel_rfl) (by kernel_rfl) ?_ | refine WT.take rfl rfl (fun _ _ _ h => h) (Yl.pick_f rfl rfl rfl) rfl (by kernel_rfl) (by kernel_rfl) ?_)) | (refine WT.k_bin .gtr rfl ?_; (refine WT.kg rfl ?_; refine WT.takeG rfl rfl rfl rfl (fun _ _ _ h => h) (Yl.gtrT rfl rfl (by omega)) rfl (by kernel_rfl) (by kernel_rfl) ?_)))); refine WT.nil ?_)
        refine WH.done (by kernel_rfl) ?_
        (repeat (first | refine WN.then_normal ?_))
        refine WC.cond_true rfl rfl ?_
        (repeat (first | refine WL.step (Yl.assign rfl) rfl ?_ | refine WC.seq ?_ | refine WC.region ?_ | refine WL.nil ?_ | refine WN.then_normal ?_ | refine WC.ret ?_ | refine WN.then_ret ?_))
        exact WN.ret1 rfl rfl ⟨rfl, rfl⟩ .nil
    · rw [decide_eq_false h1]
      rw [err_bad (x := x) fun q => h1 q.1]
      (refine WH.order [2, 3, 4, 5, 6, 7, 8, 9, 10, 11, 12, 13, 14, 15, 16, 17, 18, 19, 20, 21] (by repeat (first | exact Part.nil | refine Part.cons (by repeat (first | exact Pick.here | apply Pick.there)) ?_ | refine Part.free ?_)) (by kernel_rfl) ?_; (repeat (first | refine WT.passG rfl rfl rfl rfl (fun _ _ _ h => h) rfl (by kernel_rfl) (by kernel_rfl) ?_ | refine WT.passU rfl rfl rfl (fun _ _ _ h => h) rfl (by kernel_rfl) (by kernel_rfl) ?_ | (refine WT.k_move rfl ?_; (refine WT.kn rfl ?_; refine WT.take rfl rfl (fun _ _ _ h => h) (Yl.move rfl) rfl (by kernel_rfl) (by kernel_rfl) ?_)) | (refine WT.k_pick rfl ?_; (refine WT.kn rfl ?_; refine WT.take rfl rfl (fun _ _ _ h => h) (Yl.pick_t rfl rfl rfl) rfl (by kernel_rfl) (by kernel_rfl) ?_)) | (refine WT.k_unop rfl ?_; (refine WT.kn rfl ?_; refine WT.take rfl rfl (fun _ _ _ h => h) (Yl.not rfl) rfl (by kernel_rfl) (by kernel_rfl) ?_)))); refine WT.nil ?_)
      refine WH.done (by kernel_rfl) ?_
      (repeat (first | refine WN.then_normal ?_))
      refine WC.cond_true rfl rfl ?_
      (repeat (first | refine WL.step (Yl.assign rfl) rfl ?_ | refine WC.seq ?_ | refine WC.region ?_ | refine WL.nil ?_ | refine WN.then_normal ?_ | refine WC.ret ?_ | refine WN.then_ret ?_))
      exact WN.ret1 rfl rfl ⟨rfl, rfl⟩ .nil
  · have hv : ndv x p = .agg #[.bool false, .slice p.ka x.ks.length p.kc, .slice p.va x.vs.length p.vc, .slice p.ca x.cs.length p.cc] := by unfold ndv ndl; rw [hlf]
    have hfo := fun w (q : NdAt w x p) => formed_c x p w hx q
    have hm := fun w => most_c x p w
    rw [hv] at hfo hm ⊢
    have hmo : Nod.most x.leaf = 11 := by rw [hlf]; rfl
    (repeat (first | refine WL.step (Yl.assign rfl) rfl ?_ | refine WL.boxA rfl rfl fun b1 => ?_ | refine WC.seq ?_ | refine WC.region ?_ | refine WL.nil ?_ | refine WN.then_normal ?_))
    refine WC.regionH [.blk b1 (.cells #[.bool false, .slice p.ka x.ks.length p.kc, .slice p.va x.vs.length p.vc, .slice p.ca x.cs.length p.cc] 26 (0, 0))] (by kernel_rfl) ?_
    (refine WH.order [0] (by repeat (first | exact Part.nil | refine Part.cons (by repeat (first | exact Pick.here | apply Pick.there)) ?_ | refine Part.free ?_)) (by kernel_rfl) ?_; (repeat (first | (refine WT.k_load rfl ?_; (refine WT.kn rfl ?_; refine WT.take rfl rfl (fun _ _ _ h => h) (Yl.loadAll (T := 26) (T' := 26) Try.isAgg26 Try.sizeOf26 rfl (.head _) rfl) rfl (by kernel_rfl) (by kernel_rfl) ?_)))); refine WT.nil ?_)
    refine WH.only (i := 1) (by kernel_rfl) rfl ?_
    refine WL.callV (g := 35) Try.call35 rfl (fun w s => hfo w ((NdAt.old h).at_ s)) rfl ?_
    refine WL.nil (WN.nextH (by repeat (first | exact Part.nil | refine Part.cons (by repeat (first | exact Pick.here | apply Pick.there)) ?_ | refine Part.free ?_)) ?_)
    by_cases h1 : Nod.Formed x
    · rw [decide_eq_true h1]
      (refine WH.order [2, 3, 4, 5, 6, 7] (by repeat (first | exact Part.nil | refine Part.cons (by repeat (first | exact Pick.here | apply Pick.there)) ?_ | refine Part.free ?_)) (by kernel_rfl) ?_; (repeat (first | (refine WT.k_move rfl ?_; (refine WT.kn rfl ?_; refine WT.take rfl rfl (fun _ _ _ h => h) (Yl.move rfl) rfl (by kernel_rfl) (by kernel_rfl) ?_)) | (refine WT.k_load rfl ?_; (refine WT.kg rfl ?_; first | refine WT.takeG rfl rfl rfl rfl (fun _ _ _ h => h) (Yl.loadBlk (T := 22) Try.isAgg22 rfl (by repeat (first | exact .head _ | refine .tail _ ?_)) (by rfl)) rfl (by kernel_rfl) (by kernel_rfl) ?_ | refine WT.takeG rfl rfl rfl rfl (fun _ _ _ h => h) (Yl.loadAll (T := 26) (T' := 26) Try.isAgg26 Try.sizeOf26 rfl (.head _) rfl) rfl (by kernel_rfl) (by kernel_rfl) ?_)) | (refine WT.k_fld rfl ?_; (refine WT.kg rfl ?_; refine WT.takeG rfl rfl rfl rfl (fun _ _ _ h => h) (Yl.fld0 (t := 26) Try.underlying26 fl26 rfl rfl) rfl (by kernel_rfl) (by kernel_rfl) ?_)) | (refine WT.k_bi .len rfl ?_; (refine WT.kg rfl ?_; refine WT.takeG rfl rfl rfl rfl (fun _ _ _ h => h) (Yl.len (t := 22) Try.underlying22 rfl) rfl (by kernel_rfl) (by kernel_rfl) ?_)) | (refine WT.k_unop rfl ?_; (refine WT.kn rfl ?_; refine WT.take rfl rfl (fun _ _ _ h => h) (Yl.not rfl) rfl (by kernel_rfl) (by kernel_rfl) ?_)))); refine WT.nil ?_)
      refine WH.only (i := 8) (by kernel_rfl) rfl ?_
      (repeat (first | refine WL.want rfl rfl rfl ?_ | refine WL.callV (g := 36) Try.call36 rfl (fun w _ => hm w) rfl ?_ | refine WL.nil ?_))
      refine WN.nextH (by repeat (first | exact Part.nil | refine Part.cons (by repeat (first | exact Pick.here | apply Pick.there)) ?_ | refine Part.free ?_)) ?_
      by_cases h2 : x.ks.length ≤ Nod.most x.leaf
      · by_cases h3 : x.ks.length = 0
        · rw [err_bad (x := x) fun q => q.2.2 hlf h3]
          (refine WH.order [9, 10, 11, 12, 13, 14, 15, 16, 17, 18, 19, 20, 21] (by repeat (first | exact Part.nil | refine Part.cons (by repeat (first | exact Pick.here | apply Pick.there)) ?_ | refine Part.free ?_)) (by kernel_rfl) ?_; (repeat (first | (refine WT.k_move rfl ?_; first | (refine WT.kn rfl ?_; refine WT.take rfl rfl (fun _ _ _ h => h) (Yl.move rfl) rfl (by kernel_rfl) (by kernel_rfl) ?_) | (refine WT.kg rfl ?_; refine WT.takeG rfl rfl rfl rfl (fun _ _ _ h => h) (Yl.move rfl) rfl (by kernel_rfl) (by kernel_rfl) ?_)) | (refine WT.k_load rfl ?_; (refine WT.kg rfl ?_; first | refine WT.takeG rfl rfl rfl rfl (fun _ _ _ h => h) (Yl.loadBlk (T := 22) Try.isAgg22 rfl (by repeat (first | exact .head _ | refine .tail _ ?_)) (by rfl)) rfl (by kernel_rfl) (by kernel_rfl) ?_ | refine WT.takeG rfl rfl rfl rfl (fun _ _ _ h => h) (Yl.loadBlk (T := 4) Try.isAgg4 rfl (by repeat (first | exact .head _ | refine .tail _ ?_)) (by rfl)) rfl (by kernel_rfl) (by kernel_rfl) ?_)) | (refine WT.k_fld rfl ?_; (refine WT.kg rfl ?_; refine WT.takeG rfl rfl rfl rfl (fun _ _ _ h => h) (Yl.fld0 (t := 26) Try.underlying26 fl26 rfl rfl) rfl (by kernel_rfl) (by kernel_rfl) ?_)) | (refine WT.k_pick rfl ?_; first | (refine WT.kn rfl ?_; refine WT.take rfl rfl (fun _ _ _ h => h) (Yl.pick_f rfl rfl rfl) rfl (by kernel_rfl) (by kernel_rfl) ?_) | (refine WT.kg rfl ?_; refine WT.takeG rfl rfl rfl rfl (fun _ _ _ h => h) (Yl.pick_t rfl rfl rfl) rfl (by kernel_rfl) (by kernel_rfl) ?_)) | (refine WT.k_bi .len rfl ?_; (refine WT.kg rfl ?_; refine WT.takeG rfl rfl rfl rfl (fun _ _ _ h => h) (Yl.len (t := 22) Try.underlying22 rfl) rfl (by kernel_rfl) (by kernel_rfl) ?_)) | (refine WT.k_bin .gtr rfl ?_; (refine WT.kg rfl ?_; refine WT.takeG rfl rfl rfl rfl (fun _ _ _ h => h) (Yl.gtrF rfl rfl (by omega)) rfl (by kernel_rfl) (by kernel_rfl) ?_)) | (refine WT.k_bin .eql rfl ?_; (refine WT.kg rfl ?_; refine WT.takeG rfl rfl rfl rfl (fun _ _ _ h => h) (Yl.eqlT rfl rfl (by omega)) rfl (by kernel_rfl) (by kernel_rfl) ?_)) | (refine WT.k_unop rfl ?_; (refine WT.kg rfl ?_; refine WT.takeG rfl rfl rfl rfl (fun _ _ _ h => h) (Yl.not rfl) rfl (by kernel_rfl) (by kernel_rfl) ?_)))); refine WT.nil ?_)
          refine WH.done (by kernel_rfl) ?_
          (repeat (first | refine WN.then_normal ?_))
          refine WC.cond_true rfl rfl ?_
          (repeat (first | refine WL.step (Yl.assign rfl) rfl ?_ | refine WC.seq ?_ | refine WC.region ?_ | refine WL.nil ?_ | refine WN.then_normal ?_ | refine WC.ret ?_ | refine WN.then_ret ?_))
          exact WN.ret1 rfl rfl ⟨rfl, rfl⟩ .nil
        · rw [err_ok (x := x) ⟨h1, h2, fun q => h3⟩]
          (refine WH.order [9, 10, 11, 12, 13, 14, 15, 16, 17, 18, 19, 20, 21] (by repeat (first | exact Part.nil | refine Part.cons (by repeat (first | exact Pick.here | apply Pick.there)) ?_ | refine Part.free ?_)) (by kernel_rfl) ?_; (repeat (first | (refine WT.k_move rfl ?_; first | (refine WT.kn rfl ?_; refine WT.take rfl rfl (fun _ _ _ h => h) (Yl.move rfl) rfl (by kernel_rfl) (by kernel_rfl) ?_) | (refine WT.kg rfl ?_; refine WT.takeG rfl rfl rfl rfl (fun _ _ _ h => h) (Yl.move rfl) rfl (by kernel_rfl) (by kernel_rfl) ?_)) | (refine WT.k_load rfl ?_; (refine WT.kg rfl ?_; first | refine WT.takeG rfl rfl rfl rfl (fun _ _ _ h => h) (Yl.loadBlk (T := 22) Try.isAgg22 rfl (by repeat (first | exact .head _ | refine .tail _ ?_)) (by rfl)) rfl (by kernel_rfl) (by kernel_rfl) ?_ | refine WT.takeG rfl rfl rfl rfl (fun _ _ _ h => h) (Yl.loadBlk (T := 4) Try.isAgg4 rfl (by repeat (first | exact .head _ | refine .tail _ ?_)) (by rfl)) rfl (by kernel_rfl) (by kernel_rfl) ?_)) | (refine WT.k_fld rfl ?_; (refine WT.kg rfl ?_; refine WT.takeG rfl rfl rfl rfl (fun _ _ _ h => h) (Yl.fld0 (t := 26) Try.underlying26 fl26 rfl rfl) rfl (by kernel_rfl) (by kernel_rfl) ?_)) | (refine WT.k_pick rfl ?_; first | (refine WT.kn rfl ?_; refine WT.take rfl rfl (fun _ _ _ h => h) (Yl.pick_f rfl rfl rfl) rfl (by kernel_rfl) (by kernel_rfl) ?_) | (refine WT.kg rfl ?_; refine WT.takeG rfl rfl rfl rfl (fun _ _ _ h => h) (Yl.pick_t rfl rfl rfl) rfl (by kernel_rfl) (by kernel_rfl) ?_)) | (refine WT.k_bi .len rfl ?_; (refine WT.kg rfl ?_; refine WT.takeG rfl rfl rfl rfl (fun _ _ _ h => h) (Yl.len (t := 22) Try.underlying22 rfl) rfl (by kernel_rfl) (by kernel_rfl) ?_)) | (refine WT.k_bin .gtr rfl ?_; (refine WT.kg rfl ?_; refine WT.takeG rfl rfl rfl rfl (fun _ _ _ h => h) (Yl.gtrF rfl rfl (by omega)) rfl (by kernel_rfl) (by kernel_rfl) ?_)) | (refine WT.k_bin .eql rfl ?_; (refine WT.kg rfl ?_; refine WT.takeG rfl rfl rfl rfl (fun _ _ _ h => h) (Yl.eqlF rfl rfl (by omega)) rfl (by kernel_rfl) (by kernel_rfl) ?_)) | (refine WT.k_unop rfl ?_; (refine WT.kg rfl ?_; refine WT.takeG rfl rfl rfl rfl (fun _ _ _ h => h) (Yl.not rfl) rfl (by kernel_rfl) (by kernel_rfl) ?_)))); refine WT.nil ?_)
          refine WH.done (by kernel_rfl) ?_
          (repeat (first | refine WN.then_normal ?_))
          refine WC.cond_false rfl rfl ?_
          (repeat (first | refine WL.step (Yl.assign rfl) rfl ?_ | refine WC.seq ?_ | refine WC.region ?_ | refine WL.nil ?_ | refine WN.then_normal ?_ | refine WC.skip ?_ | refine WC.ret ?_))
          exact WN.ret1 rfl rfl ⟨rfl, rfl⟩ .nil
      · rw [err_bad (x := x) fun q => h2 q.2.1]
        (refine WH.order [9, 10, 11, 12, 13, 14, 15, 16, 17, 18, 19, 20, 21] (by repeat (first | exact Part.nil | refine Part.cons (by repeat (first | exact Pick.here | apply Pick.there)) ?_ | refine Part.free ?_)) (by kernel_rfl) ?_; (repeat (first | refine WT.passG rfl rfl rfl rfl (fun _ _ _ h => h) rfl (by kernel_rfl) (by kernel_rfl) ?_ | refine WT.passU rfl rfl rfl (fun _ _ _ h => h) rfl (by kernel_rfl) (by kernel_rfl) ?_ | (refine WT.k_move rfl ?_; (refine WT.kn rfl ?_; refine WT.take rfl rfl (fun _ _ _ h => h) (Yl.move rfl) rfl (by kernel_rfl) (by kernel_rfl) ?_)) | (refine WT.k_pick rfl ?_; (refine WT.kn rfl ?_; first | refine WT.take rfl rfl (fun _ _ _ h => h) (Yl.pick_t rfl rfl rfl) rfl (by kernel_rfl) (by kernel_rfl) ?_ | refine WT.take rfl rfl (fun _ _ _ h => h) (Yl.pick_f rfl rfl rfl) rfl (by kernel_rfl) (by kernel_rfl) ?_)) | (refine WT.k_bin .gtr rfl ?_; (refine WT.kg rfl ?_; refine WT.takeG rfl rfl rfl rfl (fun _ _ _ h => h) (Yl.gtrT rfl rfl (by omega)) rfl (by kernel_rfl) (by kernel_rfl) ?_)))); refine WT.nil ?_)
        refine WH.done (by kernel_rfl) ?_
        (repeat (first | refine WN.then_normal ?_))
        refine WC.cond_true rfl rfl ?_
        (repeat (first | refine WL.step (Yl.assign rfl) rfl ?_ | refine WC.seq ?_ | refine WC.region ?_ | refine WL.nil ?_ | refine WN.then_normal ?_ | refine WC.ret ?_ | refine WN.then_ret ?_))
        exact WN.ret1 rfl rfl ⟨rfl, rfl⟩ .nil
    · rw [decide_eq_false h1]
      rw [err_bad (x := x) fun q => h1 q.1]
      (refine WH.order [2, 3, 4, 5, 6, 7, 8, 9, 10, 11, 12, 13, 14, 15, 16, 17, 18, 19, 20, 21] (by repeat (first | exact Part.nil | refine Part.cons (by repeat (first | exact Pick.here | apply Pick.there)) ?_ | refine Part.free ?_)) (by kernel_rfl) ?_; (repeat (first | refine WT.passG rfl rfl rfl rfl (fun _ _ _ h => h) rfl (by kernel_rfl) (by kernel_rfl) ?_ | refine WT.passU rfl rfl rfl (fun _ _ _ h => h) rfl (by kernel_rfl) (by kernel_rfl) ?_ | (refine WT.k_move rfl ?_; (refine WT.kn rfl ?_; refine WT.take rfl rfl (fun _ _ _ h => h) (Yl.move rfl) rfl (by kernel_rfl) (by kernel_rfl) ?_)) | (refine WT.k_pick rfl ?_; (refine WT.kn rfl ?_; refine WT.take rfl rfl (fun _ _ _ h => h) (Yl.pick_t rfl rfl rfl) rfl (by kernel_rfl) (by kernel_rfl) ?_)) | (refine WT.k_unop rfl ?_; (refine WT.kn rfl ?_; refine WT.take rfl rfl (fun _ _ _ h => h) (Yl.not rfl) rfl (by kernel_rfl) (by kernel_rfl) ?_)))); refine WT.nil ?_)
      refine WH.done (by kernel_rfl) ?_
      (repeat (first | refine WN.then_normal ?_))
      refine WC.cond_true rfl rfl ?_
      (repeat (first | refine WL.step (Yl.assign rfl) rfl ?_ | refine WC.seq ?_ | refine WC.region ?_ | refine WL.nil ?_ | refine WN.then_normal ?_ | refine WC.ret ?_ | refine WN.then_ret ?_))
      exact WN.ret1 rfl rfl ⟨rfl, rfl⟩ .nil
end Go.Proofs.Ytbfhdggfdhlkfaa
