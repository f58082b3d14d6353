/- The order of keys is total; where keys are found. -/
import Derived.Test.YtbfhdggfdhlkfaaNod17
namespace Go.Proofs.Ytbfhdggfdhlkfaa
set_option linter.unusedVariables false
set_option linter.unusedSimpArgs false
open Go Go.RowKit
set_option maxRecDepth 100000
set_option maxHeartbeats 8000000
theorem Yl.negI {X : Cx} {ρ : Env} {A : List HA} {ty : TypeId} {x : Operand} {t : TypeId} {m : Int} (hx : ev ρ x = some (.int .i64 m)) (h : -9223372036854775808 ≤ -m ∧ -m ≤ 9223372036854775807) :
    Yl X (.unOp .neg t x) ty ρ A (.int .i64 (-m)) := Yl.intro fun o ho _ a w f _ => by
  simp [execOp, ho, f.ev hx, Op.unary, Op.intArith, wrap64_fits h.1 h.2]
theorem ord_eq (a b : Nod.K) : (decide (Nod.cmp a b = 0) != decide ((a.n : Int) = (b.n : Int) ∧ a.d = b.d)) = false := by
  have : Nod.cmp a b = 0 ↔ ((a.n : Int) = (b.n : Int) ∧ a.d = b.d) := (Nod.cmp_zero a b).trans ⟨fun h => by rw [h]; exact ⟨rfl, rfl⟩, k_eq⟩
  rw [show decide (Nod.cmp a b = 0) = decide ((a.n : Int) = (b.n : Int) ∧ a.d = b.d) from decide_eq_decide.2 this]; simp
theorem ord_n {a b : Nod.K} (h : ¬ (a.n : Int) = (b.n : Int)) : (decide (Nod.cmp a b < 0) != decide ((a.n : Int) < (b.n : Int))) = false := by
  have : Nod.cmp a b < 0 ↔ (a.n : Int) < (b.n : Int) := by
    unfold Nod.cmp
    by_cases h1 : a.n < b.n
    · rw [if_pos h1]; exact ⟨fun _ => by omega, fun _ => by decide⟩
    · rw [if_neg h1, if_pos (by omega)]; exact ⟨fun q => absurd q (by decide), fun q => by omega⟩
  rw [show decide (Nod.cmp a b < 0) = decide ((a.n : Int) < (b.n : Int)) from decide_eq_decide.2 this]; simp
attribute [local irreducible] WL WC WN Yl WH WQ WT WE WU Nod.cmp Nod.place
theorem lorder_c (a b c : Nod.K) (w : World) (ha : a.Wf) (hb : b.Wf) (hc : c.Wf) :
    Calls Try.prog 8 #[kval a, kval b, kval c] w (Gives (Val (.bool true)) w) := by
  have sa := kv_size ha
  have sb := kv_size hb
  have sc := kv_size hc
  have hr := Nod.cmp_range a b
  have hsw := Nod.cmp_swap a b
  have hself := Nod.cmp_self a
  have htr := Nod.cmp_trans a b c
  have hoe := ord_eq a b
  refine enter (args := [_, _, _]) Try.func8 Try.ntmps8 rfl rfl ?_
  (repeat (first | refine WL.boxA (cs := (kv a).toArray) rfl rfl fun b1 => ?_ | refine WC.seq ?_ | refine WC.region ?_))
  refine WL.boxA (cs := (kv b).toArray) rfl rfl fun b2 => ?_
  refine WL.boxA (cs := (kv c).toArray) rfl rfl fun b3 => ?_
  (repeat (first | refine WL.step (Yl.assign rfl) rfl ?_ | refine WC.seq ?_ | refine WL.nil ?_ | refine WN.then_normal ?_))
  refine WC.regionH [.blk b3 (.cells (kv c).toArray 42 (0, 0)), .blk b2 (.cells (kv b).toArray 42 (0, 0)), .blk b1 (.cells (kv a).toArray 42 (0, 0))] (by kernel_rfl) ?_
  (refine WH.order [0, 1, 3, 4, 6, 7] (by repeat (first | exact Part.nil | refine Part.cons (by repeat (first | exact Pick.here | apply Pick.there)) ?_ | refine Part.free ?_)) (by kernel_rfl) ?_; (repeat (first | (refine WT.k_load rfl ?_; (refine WT.kn rfl ?_; first | refine WT.take rfl rfl (fun _ _ _ h => h) (Yl.loadAll (T := 42) (T' := 42) (cs := (kv a).toArray) Try.isAgg42 Try.sizeOf42 rfl (by repeat (first | exact .head _ | refine .tail _ ?_)) sa) rfl (by kernel_rfl) (by kernel_rfl) ?_ | refine WT.take rfl rfl (fun _ _ _ h => h) (Yl.loadAll (T := 42) (T' := 42) (cs := (kv b).toArray) Try.isAgg42 Try.sizeOf42 rfl (by repeat (first | exact .head _ | refine .tail _ ?_)) sb) rfl (by kernel_rfl) (by kernel_rfl) ?_ | refine WT.take rfl rfl (fun _ _ _ h => h) (Yl.loadAll (T := 42) (T' := 42) (cs := (kv c).toArray) Try.isAgg42 Try.sizeOf42 rfl (by repeat (first | exact .head _ | refine .tail _ ?_)) sc) rfl (by kernel_rfl) (by kernel_rfl) ?_)))); refine WT.nil ?_)
  refine WH.only (i := 2) (by kernel_rfl) rfl ?_
  refine WL.callV (g := 27) Try.call27 rfl (fun w _ => ncmp_c a b w ha hb) rfl ?_
  refine WL.nil (WN.nextH (by repeat (first | exact Part.nil | refine Part.cons (by repeat (first | exact Pick.here | apply Pick.there)) ?_ | refine Part.free ?_)) ?_)
  refine WH.only (i := 5) (by kernel_rfl) rfl ?_
  refine WL.callV (g := 27) Try.call27 rfl (fun w _ => ncmp_c b c w hb hc) rfl ?_
  refine WL.nil (WN.nextH (by repeat (first | exact Part.nil | refine Part.cons (by repeat (first | exact Pick.here | apply Pick.there)) ?_ | refine Part.free ?_)) ?_)
  refine WH.only (i := 8) (by kernel_rfl) rfl ?_
  refine WL.callV (g := 27) Try.call27 rfl (fun w _ => ncmp_c a c w ha hc) rfl ?_
  refine WL.nil (WN.nextH (by repeat (first | exact Part.nil | refine Part.cons (by repeat (first | exact Pick.here | apply Pick.there)) ?_ | refine Part.free ?_)) ?_)
  (refine WH.order [9, 10, 11] (by repeat (first | exact Part.nil | refine Part.cons (by repeat (first | exact Pick.here | apply Pick.there)) ?_ | refine Part.free ?_)) (by kernel_rfl) ?_; (repeat (first | (refine WT.k_assign rfl ?_; (refine WT.kn rfl ?_; refine WT.take rfl rfl (fun _ _ _ h => h) (Yl.assign rfl) rfl (by kernel_rfl) (by kernel_rfl) ?_)))); refine WT.nil ?_)
  refine WH.done (by kernel_rfl) ?_
  (repeat (first | refine WL.want rfl rfl rfl ?_ | refine WL.step (Yl.move rfl) rfl ?_ | (refine WL.k_load ?_; first | refine WL.step (Yl.loadAll (T := 42) (T' := 42) (cs := (kv a).toArray) Try.isAgg42 Try.sizeOf42 rfl (by repeat (first | exact .head _ | refine .tail _ ?_)) sa) rfl ?_ | refine WL.step (Yl.loadAll (T := 42) (T' := 42) (cs := (kv b).toArray) Try.isAgg42 Try.sizeOf42 rfl (by repeat (first | exact .head _ | refine .tail _ ?_)) sb) rfl ?_) | refine WL.step (Yl.pick_f rfl rfl rfl) rfl ?_ | (refine WL.k_bin .lss ?_; refine WL.step (Yl.lssF rfl rfl (by omega)) rfl ?_) | (refine WL.k_bin .gtr ?_; refine WL.step (Yl.gtrF rfl rfl (by omega)) rfl ?_) | refine WC.seq ?_ | refine WC.region ?_ | refine WN.then_normal ?_))
  refine WL.callV (g := 27) Try.call27 rfl (fun w _ => ncmp_c b a w hb ha) rfl ?_
  (repeat (first | refine WL.want rfl rfl rfl ?_ | refine WL.step (Yl.move rfl) rfl ?_ | (refine WL.k_load ?_; first | refine WL.step (Yl.loadAll (T := 42) (T' := 42) (cs := (kv a).toArray) Try.isAgg42 Try.sizeOf42 rfl (by repeat (first | exact .head _ | refine .tail _ ?_)) sa) rfl ?_ | refine WL.step (Yl.loadAll (T := 42) (T' := 42) (cs := (kv b).toArray) Try.isAgg42 Try.sizeOf42 rfl (by repeat (first | exact .head _ | refine .tail _ ?_)) sb) rfl ?_) | refine WL.step (Yl.pick_f rfl rfl rfl) rfl ?_ | (refine WL.k_unop ?_; refine WL.step (Yl.negI rfl (by omega)) rfl ?_) | (refine WL.k_bin .neq ?_; first | refine WL.step (Yl.neqF rfl rfl hsw) rfl ?_ | refine WL.step (Yl.neqBv (p := decide (Nod.cmp a b = 0)) (q := decide ((a.n : Int) = (b.n : Int) ∧ a.d = b.d)) Try.underlying4 rfl rfl hoe) rfl ?_) | (refine WL.k_bin .eql ?_; first | refine WL.step (Yl.eql rfl rfl) rfl ?_ | refine WL.step (Yl.eqlK keyT rfl rfl ha.2 hb.2) rfl ?_)))
  refine WL.callV (g := 27) Try.call27 rfl (fun w _ => ncmp_c a a w ha ha) rfl ?_
  (repeat (first | refine WL.want rfl rfl rfl ?_ | refine WL.step (Yl.pick_f rfl rfl rfl) rfl ?_ | refine WL.step (Yl.neqF rfl rfl hself) rfl ?_ | refine WL.nil ?_ | refine WN.then_normal ?_))
  refine WC.cond_false rfl rfl ?_
  by_cases e : (a.n : Int) = (b.n : Int)
  · (repeat (first | refine WL.pass rfl rfl rfl rfl ?_ | refine WL.step (Yl.move rfl) rfl ?_ | (refine WL.k_load ?_; first | refine WL.step (Yl.loadBlk (T := 39) (v := .int .u64 (a.n : Int)) Try.isAgg39 rfl (by repeat (first | exact .head _ | refine .tail _ ?_)) (by rfl)) rfl ?_ | refine WL.step (Yl.loadBlk (T := 39) (v := .int .u64 (b.n : Int)) Try.isAgg39 rfl (by repeat (first | exact .head _ | refine .tail _ ?_)) (by rfl)) rfl ?_) | refine WL.step (Yl.fldN0 kN rfl) rfl ?_ | refine WL.step (Yl.pick_f rfl rfl rfl) rfl ?_ | refine WL.step (Yl.neqF rfl rfl e) rfl ?_ | refine WC.seq ?_ | refine WC.region ?_ | refine WL.nil ?_ | refine WN.then_normal ?_ | refine WC.skip ?_))
    refine WC.cond_false rfl rfl ?_
    by_cases h1 : 0 < Nod.cmp a b
    · (repeat (first | (refine WL.kG ?_; first | refine WL.want rfl rfl rfl ?_ | refine WL.pass rfl rfl rfl rfl ?_) | refine WL.step (Yl.move rfl) rfl ?_ | refine WL.step (Yl.assign rfl) rfl ?_ | refine WL.step (Yl.pick_t rfl rfl rfl) rfl ?_ | (refine WL.k_bin .gtr ?_; refine WL.step (Yl.gtrT rfl rfl (by omega)) rfl ?_) | (refine WL.k_call 13 ?_; refine WL.callV (g := 13) Try.call13 rfl (fun w s => works38_c w) rfl ?_) | refine WC.seq ?_ | refine WC.region ?_ | refine WL.nil ?_ | refine WN.then_normal ?_ | refine WC.skip ?_ | refine WC.ret ?_))
      exact WN.ret1 rfl rfl ⟨rfl, rfl⟩ .nil
    · by_cases h2 : 0 < Nod.cmp b c
      · (repeat (first | (refine WL.kG ?_; first | refine WL.want rfl rfl rfl ?_ | refine WL.pass rfl rfl rfl rfl ?_) | refine WL.step (Yl.move rfl) rfl ?_ | refine WL.step (Yl.assign rfl) rfl ?_ | (refine WL.k_pick ?_; first | refine WL.step (Yl.pick_t rfl rfl rfl) rfl ?_ | refine WL.step (Yl.pick_f rfl rfl rfl) rfl ?_) | (refine WL.k_bin .gtr ?_; first | refine WL.step (Yl.gtrT rfl rfl (by omega)) rfl ?_ | refine WL.step (Yl.gtrF rfl rfl (by omega)) rfl ?_) | (refine WL.k_call 13 ?_; refine WL.callV (g := 13) Try.call13 rfl (fun w s => works38_c w) rfl ?_) | refine WC.seq ?_ | refine WC.region ?_ | refine WL.nil ?_ | refine WN.then_normal ?_ | refine WC.skip ?_ | refine WC.ret ?_))
        exact WN.ret1 rfl rfl ⟨rfl, rfl⟩ .nil
      · have h3 := (htr (by omega) (by omega)).1
        (repeat (first | refine WL.want rfl rfl rfl ?_ | refine WL.step (Yl.move rfl) rfl ?_ | refine WL.step (Yl.assign rfl) rfl ?_ | (refine WL.k_pick ?_; first | refine WL.step (Yl.pick_t rfl rfl rfl) rfl ?_ | refine WL.step (Yl.pick_f rfl rfl rfl) rfl ?_) | (refine WL.k_bin .gtr ?_; refine WL.step (Yl.gtrF rfl rfl (by omega)) rfl ?_) | (refine WL.k_bin .leq ?_; refine WL.step (Yl.leqT rfl rfl (by omega)) rfl ?_) | (refine WL.k_call 13 ?_; refine WL.callV (g := 13) Try.call13 rfl (fun w s => works38_c w) rfl ?_) | refine WC.seq ?_ | refine WC.region ?_ | refine WL.nil ?_ | refine WN.then_normal ?_ | refine WC.skip ?_ | refine WC.ret ?_))
        exact WN.ret1 rfl rfl ⟨rfl, rfl⟩ .nil
  · have hon := ord_n e
    (repeat (first | refine WL.want rfl rfl rfl ?_ | refine WL.step (Yl.move rfl) rfl ?_ | (refine WL.k_load ?_; first | refine WL.step (Yl.loadBlk (T := 39) (v := .int .u64 (a.n : Int)) Try.isAgg39 rfl (by repeat (first | exact .head _ | refine .tail _ ?_)) (by rfl)) rfl ?_ | refine WL.step (Yl.loadBlk (T := 39) (v := .int .u64 (b.n : Int)) Try.isAgg39 rfl (by repeat (first | exact .head _ | refine .tail _ ?_)) (by rfl)) rfl ?_) | refine WL.step (Yl.fldN0 kN rfl) rfl ?_ | refine WL.step (Yl.pick_t rfl rfl rfl) rfl ?_ | (refine WL.k_bin .neq ?_; first | refine WL.step (Yl.neqT rfl rfl e) rfl ?_ | refine WL.step (Yl.neqBv (p := decide (Nod.cmp a b < 0)) (q := decide ((a.n : Int) < (b.n : Int))) Try.underlying4 rfl rfl hon) rfl ?_) | refine WL.step (Yl.lss rfl rfl) rfl ?_ | refine WC.seq ?_ | refine WC.region ?_ | refine WL.nil ?_ | refine WN.then_normal ?_ | refine WC.skip ?_))
    refine WC.cond_false rfl rfl ?_
    by_cases h1 : 0 < Nod.cmp a b
    · (repeat (first | (refine WL.kG ?_; first | refine WL.want rfl rfl rfl ?_ | refine WL.pass rfl rfl rfl rfl ?_) | refine WL.step (Yl.move rfl) rfl ?_ | refine WL.step (Yl.assign rfl) rfl ?_ | refine WL.step (Yl.pick_t rfl rfl rfl) rfl ?_ | (refine WL.k_bin .gtr ?_; refine WL.step (Yl.gtrT rfl rfl (by omega)) rfl ?_) | (refine WL.k_call 13 ?_; refine WL.callV (g := 13) Try.call13 rfl (fun w s => works38_c w) rfl ?_) | refine WC.seq ?_ | refine WC.region ?_ | refine WL.nil ?_ | refine WN.then_normal ?_ | refine WC.skip ?_ | refine WC.ret ?_))
      exact WN.ret1 rfl rfl ⟨rfl, rfl⟩ .nil
    · by_cases h2 : 0 < Nod.cmp b c
      · (repeat (first | (refine WL.kG ?_; first | refine WL.want rfl rfl rfl ?_ | refine WL.pass rfl rfl rfl rfl ?_) | refine WL.step (Yl.move rfl) rfl ?_ | refine WL.step (Yl.assign rfl) rfl ?_ | (refine WL.k_pick ?_; first | refine WL.step (Yl.pick_t rfl rfl rfl) rfl ?_ | refine WL.step (Yl.pick_f rfl rfl rfl) rfl ?_) | (refine WL.k_bin .gtr ?_; first | refine WL.step (Yl.gtrT rfl rfl (by omega)) rfl ?_ | refine WL.step (Yl.gtrF rfl rfl (by omega)) rfl ?_) | (refine WL.k_call 13 ?_; refine WL.callV (g := 13) Try.call13 rfl (fun w s => works38_c w) rfl ?_) | refine WC.seq ?_ | refine WC.region ?_ | refine WL.nil ?_ | refine WN.then_normal ?_ | refine WC.skip ?_ | refine WC.ret ?_))
        exact WN.ret1 rfl rfl ⟨rfl, rfl⟩ .nil
      · have h3 := (htr (by omega) (by omega)).1
        (repeat (first | refine WL.want rfl rfl rfl ?_ | refine WL.step (Yl.move rfl) rfl ?_ | refine WL.step (Yl.assign rfl) rfl ?_ | (refine WL.k_pick ?_; first | refine WL.step (Yl.pick_t rfl rfl rfl) rfl ?_ | refine WL.step (Yl.pick_f rfl rfl rfl) rfl ?_) | (refine WL.k_bin .gtr ?_; refine WL.step (Yl.gtrF rfl rfl (by omega)) rfl ?_) | (refine WL.k_bin .leq ?_; refine WL.step (Yl.leqT rfl rfl (by omega)) rfl ?_) | (refine WL.k_call 13 ?_; refine WL.callV (g := 13) Try.call13 rfl (fun w s => works38_c w) rfl ?_) | refine WC.seq ?_ | refine WC.region ?_ | refine WL.nil ?_ | refine WN.then_normal ?_ | refine WC.skip ?_ | refine WC.ret ?_))
        exact WN.ret1 rfl rfl ⟨rfl, rfl⟩ .nil
end Go.Proofs.Ytbfhdggfdhlkfaa
