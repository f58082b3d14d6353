/- Places in any node; checks, pages and halves of any node. -/
import Derived.Test.YtbfhdggfdhlkfaaNod17
namespace Go.Proofs.Ytbfhdggfdhlkfaa
set_option linter.unusedVariables false
set_option linter.unusedSimpArgs false
open Go Go.RowKit
set_option maxRecDepth 100000
set_option maxHeartbeats 8000000
structure Nod.N.Wf0 (x : Nod.N) : Prop where
  ks : ∀ k ∈ x.ks, k.Wf
  vs : ∀ v ∈ x.vs, v.length = 20
  cs : ∀ c ∈ x.cs, -9223372036854775808 ≤ c ∧ c ≤ 9223372036854775807
theorem Nod.N.Wf0.wf {x : Nod.N} (h : x.Wf0) (hf : Few x) : x.Wf := ⟨h.ks, h.vs, h.cs, Nat.le_trans hf.1 (by decide), Nat.le_trans hf.2.1 (by decide), Nat.le_trans hf.2.2 (by decide)⟩
theorem few_t {x : Nod.N} (p : Pl) (w : World) (h : Few x) : Calls Try.prog 12 #[ndv x p] w (Gives (Val (.bool true)) w) := by
  have := few_c x.ks.length x.vs.length x.cs.length x.leaf p.ka p.va p.ca p.kc p.vc p.cc w
  rwa [decide_eq_true (p := x.ks.length ≤ 40 ∧ x.vs.length ≤ 40 ∧ x.cs.length ≤ 40) h] at this
theorem few_f {x : Nod.N} (p : Pl) (w : World) (h : ¬ Few x) : Calls Try.prog 12 #[ndv x p] w (Gives (Val (.bool false)) w) := by
  have := few_c x.ks.length x.vs.length x.cs.length x.leaf p.ka p.va p.ca p.kc p.vc p.cc w
  rwa [decide_eq_false (p := x.ks.length ≤ 40 ∧ x.vs.length ≤ 40 ∧ x.cs.length ≤ 40) h] at this
theorem Nod.sp_wf {x : Nod.N} (hx : x.Wf) : (Nod.sp x).1.Wf ∧ (Nod.sp x).2.1.Wf ∧ (Nod.sp x).2.2.1.Wf := by
  have h1 := hx.kl
  have h2 := hx.vl
  have h3 := hx.cl
  unfold Nod.sp
  split
  · rename_i hf
    have hl := Nod.full_len hf
    refine ⟨?_, ?_, ?_⟩
    · show (Nod.low x).Wf
      unfold Nod.low; split
      · exact ⟨fun k hk => hx.ks k (List.mem_of_mem_take hk), fun k hk => hx.vs k (List.mem_of_mem_take hk), fun c hc => (by cases hc), by simp only [List.length_take]; omega, by simp only [List.length_take]; omega, by simp⟩
      · exact ⟨fun k hk => hx.ks k (List.mem_of_mem_take hk), fun k hk => (by cases hk), fun c hc => hx.cs c (List.mem_of_mem_take hc), by simp only [List.length_take]; omega, by simp, by simp only [List.length_take]; omega⟩
    · show (Nod.mid x).Wf
      unfold Nod.mid
      split at hl <;> rename_i hlf
      · rw [if_pos hlf]; exact hx.ks _ (key_mem (by omega))
      · rw [if_neg hlf]; exact hx.ks _ (key_mem (by omega))
    · show (Nod.high x).Wf
      unfold Nod.high; split
      · exact ⟨fun k hk => hx.ks k (List.mem_of_mem_drop hk), fun k hk => hx.vs k (List.mem_of_mem_drop hk), fun c hc => (by cases hc), by simp only [List.length_drop]; omega, by simp only [List.length_drop]; omega, by simp⟩
      · exact ⟨fun k hk => hx.ks k (List.mem_of_mem_drop hk), fun k hk => (by cases hk), fun c hc => hx.cs c (List.mem_of_mem_drop hc), by simp only [List.length_drop]; omega, by simp, by simp only [List.length_drop]; omega⟩
  · exact ⟨Nod.zero_wf, ⟨by decide, by decide⟩, Nod.zero_wf⟩
theorem enc_len {x : Nod.N} (h : x.Wf) : (Nod.encR x).2.length ≤ 9223372036854775807 := by
  by_cases ho : Nod.Ok x
  · rw [enc_page ho]; show (Nod.page x).length ≤ _; rw [Nod.page_len h ho]; decide
  · rw [enc_none ho]; decide
theorem Yl.eqlKT {X : Cx} {ρ : Env} {A : List HA} {ty : TypeId} {x y : Operand} {t u : TypeId} {k : Nod.K} (ht : KeyT X.P t) (hx : ev ρ x = some (kval k)) (hy : ev ρ y = some (kval k)) (hk : k.Wf) :
    Yl X (.binOp .eql t x y u) ty ρ A (.bool true) := by
  have := Yl.eqlK (X := X) (ρ := ρ) (A := A) (ty := ty) (u := u) ht hx hy hk.2 hk.2
  rwa [decide_eq_true (p := (k.n : Int) = (k.n : Int) ∧ k.d = k.d) ⟨rfl, rfl⟩] at this
attribute [local irreducible] WL WC WN Yl WH WQ WT WE WU Nod.cmp Nod.place Nod.isAt Nod.encR Nod.err Nod.sp Few
theorem lfinds_c (x : Nod.N) (p : Pl) (a b : Nod.K) (w : World) (hx : x.Wf0) (ha : a.Wf) (hb : b.Wf) (h : NdAt w x p) :
    Calls Try.prog 5 #[ndv x p, kval a, kval b] w (Gives (Val (.bool true)) w) := by
  have sa := kv_size ha
  have sb := kv_size hb
  refine enter (args := [_, _, _]) Try.func5 Try.ntmps5 rfl rfl ?_
  (repeat (first | refine WL.boxA (cs := (ndl x p).toArray) rfl rfl fun b1 => ?_ | refine WC.seq ?_ | refine WC.region ?_))
  refine WL.boxA (cs := (kv a).toArray) rfl rfl fun b2 => ?_
  refine WL.boxA (cs := (kv b).toArray) rfl rfl fun b3 => ?_
  by_cases hf : Few x
  · have hw := hx.wf hf
    (repeat (first | refine WL.step (Yl.assign rfl) rfl ?_ | (refine WL.k_load ?_; refine WL.step (Yl.loadAll (T := 26) (T' := 26) Try.isAgg26 Try.sizeOf26 rfl (by repeat (first | exact .head _ | refine .tail _ ?_)) rfl) rfl ?_) | (refine WL.k_call 12 ?_; refine WL.callV (g := 12) Try.call12 rfl (fun w s => few_t p w hf) rfl ?_) | refine WL.step (Yl.not rfl) rfl ?_ | refine WC.seq ?_ | refine WC.region ?_ | refine WL.nil ?_ | refine WN.then_normal ?_))
    refine WC.cond_false rfl rfl ?_
    (repeat (first | (refine WL.k_load ?_; first | refine WL.step (Yl.loadAll (T := 26) (T' := 26) Try.isAgg26 Try.sizeOf26 rfl (by repeat (first | exact .head _ | refine .tail _ ?_)) rfl) rfl ?_ | refine WL.step (Yl.loadAll (T := 42) (T' := 42) (cs := (kv a).toArray) Try.isAgg42 Try.sizeOf42 rfl (by repeat (first | exact .head _ | refine .tail _ ?_)) sa) rfl ?_) | refine WC.seq ?_ | refine WC.region ?_ | refine WN.then_normal ?_ | refine WC.skip ?_))
    refine WL.callV (g := 25) Try.call25 rfl (fun w s => find_c x p a w hw ha ((NdAt.old h).at_ s)) rfl ?_
    (repeat (first | refine WL.step (Yl.move rfl) rfl ?_ | refine WL.step (Yl.assign rfl) rfl ?_ | refine WL.step (Yl.extract rfl rfl) rfl ?_ | refine WC.seq ?_ | refine WL.nil ?_ | refine WN.then_normal ?_))
    refine WC.regionH [.blk b2 (.cells (kv a).toArray 42 (0, 0)), .blk b1 (.cells (ndl x p).toArray 26 (0, 0))] (by kernel_rfl) ?_
    (refine WH.order [0, 2] (by repeat (first | exact Part.nil | refine Part.cons (by repeat (first | exact Pick.here | apply Pick.there)) ?_ | refine Part.free ?_)) (by kernel_rfl) ?_; (repeat (first | (refine WT.k_load rfl ?_; (refine WT.kn rfl ?_; first | refine WT.take rfl rfl (fun _ _ _ h => h) (Yl.loadAll (T := 26) (T' := 26) Try.isAgg26 Try.sizeOf26 rfl (by repeat (first | exact .head _ | refine .tail _ ?_)) rfl) rfl (by kernel_rfl) (by kernel_rfl) ?_ | refine WT.take rfl rfl (fun _ _ _ h => h) (Yl.loadAll (T := 42) (T' := 42) (cs := (kv a).toArray) Try.isAgg42 Try.sizeOf42 rfl (by repeat (first | exact .head _ | refine .tail _ ?_)) sa) rfl (by kernel_rfl) (by kernel_rfl) ?_)))); refine WT.nil ?_)
    refine WH.only (i := 1) (by kernel_rfl) rfl ?_
    refine WL.call (g := 14) Try.call14 rfl (fun w s => lref_c x p w hw ((NdAt.old h).at_ s)) rfl fun v1 B1 hv1 => ?_
    obtain ⟨q1, q2, hq1, hq2, rfl, rfl⟩ := hv1
    simp only [List.cons_append, List.nil_append]
    refine WL.nil (WN.nextH (by repeat (first | exact Part.nil | refine Part.cons (by repeat (first | exact Pick.here | apply Pick.there)) ?_ | refine Part.free ?_)) ?_)
    refine WH.only (i := 3) (by kernel_rfl) rfl ?_
    refine WL.callV (g := 26) Try.call26 rfl (fun w s => rfind_c x ⟨q1.1, q1.2, q2.1, q2.2, p.ca, p.cc⟩ a w hw ha (NdRd.at_ ⟨Rd.row (by repeat (first | exact .head _ | refine .tail _ ?_)), Rd.row (by repeat (first | exact .head _ | refine .tail _ ?_)), Rd.old h.cs, hq1, hq2, h.cc⟩ s)) rfl ?_
    refine WL.nil (WN.nextH (by repeat (first | exact Part.nil | refine Part.cons (by repeat (first | exact Pick.here | apply Pick.there)) ?_ | refine Part.free ?_)) ?_)
    (refine WH.order [4, 5, 6, 7, 8] (by repeat (first | exact Part.nil | refine Part.cons (by repeat (first | exact Pick.here | apply Pick.there)) ?_ | refine Part.free ?_)) (by kernel_rfl) ?_; (repeat (first | (refine WT.k_move rfl ?_; (refine WT.kn rfl ?_; refine WT.take rfl rfl (fun _ _ _ h => h) (Yl.move rfl) rfl (by kernel_rfl) (by kernel_rfl) ?_)) | (refine WT.k_assign rfl ?_; (refine WT.kn rfl ?_; refine WT.take rfl rfl (fun _ _ _ h => h) (Yl.assign rfl) rfl (by kernel_rfl) (by kernel_rfl) ?_)) | (refine WT.k_extract rfl ?_; (refine WT.kn rfl ?_; refine WT.take rfl rfl (fun _ _ _ h => h) (Yl.extract rfl rfl) rfl (by kernel_rfl) (by kernel_rfl) ?_)))); refine WT.nil ?_)
    refine WH.done (by kernel_rfl) ?_
    (repeat (first | refine WC.seq ?_ | refine WN.then_normal ?_))
    refine WC.regionH [.blk b3 (.cells (kv b).toArray 42 (0, 0)), .blk b2 (.cells (kv a).toArray 42 (0, 0))] (by kernel_rfl) ?_
    (refine WH.order [0, 1, 3, 4] (by repeat (first | exact Part.nil | refine Part.cons (by repeat (first | exact Pick.here | apply Pick.there)) ?_ | refine Part.free ?_)) (by kernel_rfl) ?_; (repeat (first | (refine WT.k_load rfl ?_; (refine WT.kn rfl ?_; first | refine WT.take rfl rfl (fun _ _ _ h => h) (Yl.loadAll (T := 42) (T' := 42) (cs := (kv a).toArray) Try.isAgg42 Try.sizeOf42 rfl (by repeat (first | exact .head _ | refine .tail _ ?_)) sa) rfl (by kernel_rfl) (by kernel_rfl) ?_ | refine WT.take rfl rfl (fun _ _ _ h => h) (Yl.loadAll (T := 42) (T' := 42) (cs := (kv b).toArray) Try.isAgg42 Try.sizeOf42 rfl (by repeat (first | exact .head _ | refine .tail _ ?_)) sb) rfl (by kernel_rfl) (by kernel_rfl) ?_)))); refine WT.nil ?_)
    refine WH.only (i := 2) (by kernel_rfl) rfl ?_
    refine WL.callV (g := 27) Try.call27 rfl (fun w _ => ncmp_c a b w ha hb) rfl ?_
    refine WL.nil (WN.nextH (by repeat (first | exact Part.nil | refine Part.cons (by repeat (first | exact Pick.here | apply Pick.there)) ?_ | refine Part.free ?_)) ?_)
    refine WH.only (i := 5) (by kernel_rfl) rfl ?_
    refine WL.callV (g := 28) Try.call28 rfl (fun w _ => rcmp_c a b w ha hb) rfl ?_
    refine WL.nil (WN.nextH (by repeat (first | exact Part.nil | refine Part.cons (by repeat (first | exact Pick.here | apply Pick.there)) ?_ | refine Part.free ?_)) ?_)
    (refine WH.order [6, 7, 8, 9, 10, 11, 12, 13, 14, 15, 16, 17] (by repeat (first | exact Part.nil | refine Part.cons (by repeat (first | exact Pick.here | apply Pick.there)) ?_ | refine Part.free ?_)) (by kernel_rfl) ?_; (repeat (first | (refine WT.k_move rfl ?_; first | (refine WT.kn rfl ?_; refine WT.take rfl rfl (fun _ _ _ h => h) (Yl.move rfl) rfl (by kernel_rfl) (by kernel_rfl) ?_) | (refine WT.kg rfl ?_; refine WT.takeG rfl rfl rfl rfl (fun _ _ _ h => h) (Yl.move rfl) rfl (by kernel_rfl) (by kernel_rfl) ?_)) | (refine WT.k_pick rfl ?_; (refine WT.kn rfl ?_; refine WT.take rfl rfl (fun _ _ _ h => h) (Yl.pick_t rfl rfl rfl) rfl (by kernel_rfl) (by kernel_rfl) ?_)) | (refine WT.k_bin .eql rfl ?_; first | (refine WT.kn rfl ?_; refine WT.take rfl rfl (fun _ _ _ h => h) (Yl.eqlT rfl rfl rfl) rfl (by kernel_rfl) (by kernel_rfl) ?_) | (refine WT.kg rfl ?_; first | refine WT.takeG rfl rfl rfl rfl (fun _ _ _ h => h) (Yl.eqlT rfl rfl rfl) rfl (by kernel_rfl) (by kernel_rfl) ?_ | refine WT.takeG rfl rfl rfl rfl (fun _ _ _ h => h) (Yl.eqlBT (t := 4) Try.underlying4 rfl rfl rfl) rfl (by kernel_rfl) (by kernel_rfl) ?_)))); refine WT.nil ?_)
    refine WH.only (i := 18) (by kernel_rfl) rfl ?_
    refine WL.want rfl rfl rfl ?_
    refine WL.callV (g := 13) (v := .bool true) Try.call13 rfl (fun w s => works38_c w) rfl ?_
    refine WL.nil (WN.nextH (by repeat (first | exact Part.nil | refine Part.cons (by repeat (first | exact Pick.here | apply Pick.there)) ?_ | refine Part.free ?_)) ?_)
    (refine WH.order [19, 20] (by repeat (first | exact Part.nil | refine Part.cons (by repeat (first | exact Pick.here | apply Pick.there)) ?_ | refine Part.free ?_)) (by kernel_rfl) ?_; (repeat (first | (refine WT.k_assign rfl ?_; (refine WT.kn rfl ?_; refine WT.take rfl rfl (fun _ _ _ h => h) (Yl.assign rfl) rfl (by kernel_rfl) (by kernel_rfl) ?_)) | (refine WT.k_pick rfl ?_; (refine WT.kn rfl ?_; refine WT.take rfl rfl (fun _ _ _ h => h) (Yl.pick_t rfl rfl rfl) rfl (by kernel_rfl) (by kernel_rfl) ?_)))); refine WT.nil ?_)
    refine WH.done (by kernel_rfl) ?_
    (repeat (first | refine WN.then_normal ?_ | refine WC.ret ?_))
    exact WN.ret1 rfl rfl ⟨rfl, rfl⟩ .nil
  · (repeat (first | refine WL.step (Yl.assign rfl) rfl ?_ | (refine WL.k_load ?_; refine WL.step (Yl.loadAll (T := 26) (T' := 26) Try.isAgg26 Try.sizeOf26 rfl (by repeat (first | exact .head _ | refine .tail _ ?_)) rfl) rfl ?_) | (refine WL.k_call 12 ?_; refine WL.callV (g := 12) Try.call12 rfl (fun w s => few_f p w hf) rfl ?_) | refine WL.step (Yl.not rfl) rfl ?_ | refine WC.seq ?_ | refine WC.region ?_ | refine WL.nil ?_ | refine WN.then_normal ?_))
    refine WC.cond_true rfl rfl ?_
    (repeat (first | refine WL.step (Yl.assign rfl) rfl ?_ | (refine WL.k_call 13 ?_; refine WL.callV (g := 13) Try.call13 rfl (fun w s => works38_c w) rfl ?_) | refine WC.seq ?_ | refine WC.region ?_ | refine WL.nil ?_ | refine WN.then_normal ?_ | refine WC.ret ?_ | refine WN.then_ret ?_))
    exact WN.ret1 rfl rfl ⟨rfl, rfl⟩ .nil
theorem lchecks_c (x : Nod.N) (p : Pl) (w : World) (hx : x.Wf0) (h : NdAt w x p) :
    Calls Try.prog 3 #[ndv x p] w (Gives (Val (.bool true)) w) := by
  refine enter (args := [_]) Try.func3 Try.ntmps3 rfl rfl ?_
  (repeat (first | refine WL.step (Yl.assign rfl) rfl ?_ | refine WL.boxA (cs := (ndl x p).toArray) rfl rfl fun b1 => ?_ | refine WC.seq ?_ | refine WC.region ?_ | refine WL.nil ?_ | refine WN.then_normal ?_))
  by_cases hf : Few x
  · have hw := hx.wf hf
    (repeat (first | (refine WL.k_load ?_; refine WL.step (Yl.loadAll (T := 26) (T' := 26) Try.isAgg26 Try.sizeOf26 rfl (by repeat (first | exact .head _ | refine .tail _ ?_)) rfl) rfl ?_) | (refine WL.k_call 12 ?_; refine WL.callV (g := 12) Try.call12 rfl (fun w s => few_t p w hf) rfl ?_) | refine WL.step (Yl.not rfl) rfl ?_ | refine WL.nil ?_ | refine WN.then_normal ?_))
    refine WC.cond_false rfl rfl ?_
    (repeat (first | (refine WL.k_load ?_; refine WL.step (Yl.loadAll (T := 26) (T' := 26) Try.isAgg26 Try.sizeOf26 rfl (by repeat (first | exact .head _ | refine .tail _ ?_)) rfl) rfl ?_) | refine WC.seq ?_ | refine WC.region ?_ | refine WN.then_normal ?_ | refine WC.skip ?_))
    refine WL.call (g := 14) Try.call14 rfl (fun w s => lref_c x p w hw ((NdAt.old h).at_ s)) rfl fun v1 B1 hv1 => ?_
    obtain ⟨q1, q2, hq1, hq2, rfl, rfl⟩ := hv1
    simp only [List.cons_append, List.nil_append]
    refine WL.allocA Try.zeroValue32 rfl fun b3 => ?_
    refine WL.storeWhole (T := 32) (k := 4) (us := (ndl x ⟨q1.1, q1.2, q2.1, q2.2, p.ca, p.cc⟩).toArray) Try.sizeOf32 rfl rfl rfl (by repeat (first | exact Pick.here | apply Pick.there)) rfl rfl ?_
    (repeat (first | (refine WL.k_load ?_; refine WL.step (Yl.loadAll (T := 26) (T' := 26) Try.isAgg26 Try.sizeOf26 rfl (by repeat (first | exact .head _ | refine .tail _ ?_)) rfl) rfl ?_) | refine WC.seq ?_ | refine WC.region ?_ | refine WL.nil ?_ | refine WN.then_normal ?_))
    refine WL.callR (g := 15) Try.call15 rfl (fun w s => encode_c x p w hw ((NdAt.old h).at_ s)) rfl fun q hq => ?_
    obtain ⟨qa, qc⟩ := q
    simp only at hq ⊢
    (repeat (first | refine WL.step (Yl.move rfl) rfl ?_ | refine WL.step (Yl.assign rfl) rfl ?_ | refine WL.step (Yl.extract rfl rfl) rfl ?_ | (refine WL.k_load ?_; refine WL.step (Yl.loadAll (T := 32) (T' := 32) Try.isAgg32 Try.sizeOf32 rfl (by repeat (first | exact .head _ | refine .tail _ ?_)) rfl) rfl ?_) | refine WC.seq ?_ | refine WC.region ?_ | refine WL.nil ?_ | refine WN.then_normal ?_))
    refine WL.callR (g := 16) Try.call16 rfl (fun w s => rencode_c x ⟨q1.1, q1.2, q2.1, q2.2, p.ca, p.cc⟩ w hw (NdRd.at_ ⟨Rd.row (by repeat (first | exact .head _ | refine .tail _ ?_)), Rd.row (by repeat (first | exact .head _ | refine .tail _ ?_)), Rd.old h.cs, hq1, hq2, h.cc⟩ s)) rfl fun q hq' => ?_
    obtain ⟨ra, rc⟩ := q
    simp only at hq' ⊢
    (repeat (first | refine WL.step (Yl.move rfl) rfl ?_ | refine WL.step (Yl.assign rfl) rfl ?_ | refine WL.step (Yl.extract rfl rfl) rfl ?_ | (refine WL.k_load ?_; refine WL.step (Yl.loadAll (T := 26) (T' := 26) Try.isAgg26 Try.sizeOf26 rfl (by repeat (first | exact .head _ | refine .tail _ ?_)) rfl) rfl ?_) | refine WC.seq ?_ | refine WC.region ?_ | refine WL.nil ?_ | refine WN.then_normal ?_))
    refine WL.call (g := 17) Try.call17 rfl (fun w s => split_c x p w hw ((NdAt.old h).at_ s)) rfl fun v1 B1 hv1 => ?_
    obtain ⟨p1, p2, c1, c2, rfl, rfl⟩ := hv1
    simp only [List.cons_append, List.nil_append]
    obtain ⟨sw1, swk, sw2⟩ := Nod.sp_wf hw
    have elen := enc_len hw
    have sk := kv_size swk
    (repeat (first | refine WL.step (Yl.move rfl) rfl ?_ | refine WL.step (Yl.extract rfl rfl) rfl ?_))
    refine WL.allocA Try.zeroValue26 rfl fun b8 => ?_
    refine WL.allocA zeroKey rfl fun b9 => ?_
    refine WL.allocA Try.zeroValue26 rfl fun b10 => ?_
    refine WL.storeWhole (k := 4) (us := (ndl (Nod.sp x).1 p1).toArray) Try.sizeOf26 rfl rfl rfl (by repeat (first | exact Pick.here | apply Pick.there)) rfl rfl ?_
    refine WL.storeWhole (k := 33) (us := (kv (Nod.sp x).2.1).toArray) Try.sizeOf42 rfl rfl (kv_all _) (by repeat (first | exact Pick.here | apply Pick.there)) sk rfl ?_
    refine WL.storeWhole (k := 4) (us := (ndl (Nod.sp x).2.2.1 p2).toArray) Try.sizeOf26 rfl rfl rfl (by repeat (first | exact Pick.here | apply Pick.there)) rfl rfl ?_
    (repeat (first | refine WL.step (Yl.assign rfl) rfl ?_ | (refine WL.k_load ?_; refine WL.step (Yl.loadAll (T := 32) (T' := 32) Try.isAgg32 Try.sizeOf32 rfl (by repeat (first | exact .head _ | refine .tail _ ?_)) rfl) rfl ?_) | refine WC.seq ?_ | refine WC.region ?_ | refine WL.nil ?_ | refine WN.then_normal ?_))
    refine WL.call (g := 18) Try.call18 rfl (fun w s => rsplit_c x ⟨q1.1, q1.2, q2.1, q2.2, p.ca, p.cc⟩ w hw (NdRd.at_ ⟨Rd.row (by repeat (first | exact .head _ | refine .tail _ ?_)), Rd.row (by repeat (first | exact .head _ | refine .tail _ ?_)), Rd.old h.cs, hq1, hq2, h.cc⟩ s)) rfl fun v1 B1 hv1 => ?_
    obtain ⟨rfl, p3, p4, d1, d2, rfl⟩ := hv1
    simp only [List.cons_append, List.nil_append]
    (repeat (first | refine WL.step (Yl.move rfl) rfl ?_ | refine WL.step (Yl.extract rfl rfl) rfl ?_))
    refine WL.allocA Try.zeroValue32 rfl fun b12 => ?_
    refine WL.allocA zeroRKey rfl fun b13 => ?_
    refine WL.allocA Try.zeroValue32 rfl fun b14 => ?_
    refine WL.storeWhole (k := 4) (us := (ndl (Nod.sp x).1 p3).toArray) Try.sizeOf32 rfl rfl rfl (by repeat (first | exact Pick.here | apply Pick.there)) rfl rfl ?_
    refine WL.storeWhole (k := 33) (us := (kv (Nod.sp x).2.1).toArray) Try.sizeOf45 rfl rfl (kv_all _) (by repeat (first | exact Pick.here | apply Pick.there)) sk rfl ?_
    refine WL.storeWhole (k := 4) (us := (ndl (Nod.sp x).2.2.1 p4).toArray) Try.sizeOf32 rfl rfl rfl (by repeat (first | exact Pick.here | apply Pick.there)) rfl rfl ?_
    (repeat (first | refine WL.step (Yl.assign rfl) rfl ?_ | refine WC.seq ?_ | refine WL.nil ?_ | refine WN.then_normal ?_))
    refine WC.regionH [.blk b1 (.cells (ndl x p).toArray 26 (0, 0)), .blk b3 (.cells (ndl x ⟨q1.1, q1.2, q2.1, q2.2, p.ca, p.cc⟩).toArray 32 (0, 0)), .blk b8 (.cells (ndl (Nod.sp x).1 p1).toArray 26 (0, 0)), .blk b9 (.cells (kv (Nod.sp x).2.1).toArray 42 (0, 0)), .blk b10 (.cells (ndl (Nod.sp x).2.2.1 p2).toArray 26 (0, 0)), .blk b12 (.cells (ndl (Nod.sp x).1 p3).toArray 32 (0, 0)), .blk b13 (.cells (kv (Nod.sp x).2.1).toArray 45 (0, 0)), .blk b14 (.cells (ndl (Nod.sp x).2.2.1 p4).toArray 32 (0, 0))] (by kernel_rfl) ?_
    (refine WH.order [0, 2] (by repeat (first | exact Part.nil | refine Part.cons (by repeat (first | exact Pick.here | apply Pick.there)) ?_ | refine Part.free ?_)) (by kernel_rfl) ?_; (repeat (first | (refine WT.k_load rfl ?_; (refine WT.kn rfl ?_; first | refine WT.take rfl rfl (fun _ _ _ h => h) (Yl.loadAll (T := 26) (T' := 26) Try.isAgg26 Try.sizeOf26 rfl (by repeat (first | exact .head _ | refine .tail _ ?_)) rfl) rfl (by kernel_rfl) (by kernel_rfl) ?_ | refine WT.take rfl rfl (fun _ _ _ h => h) (Yl.loadAll (T := 32) (T' := 32) Try.isAgg32 Try.sizeOf32 rfl (by repeat (first | exact .head _ | refine .tail _ ?_)) rfl) rfl (by kernel_rfl) (by kernel_rfl) ?_)))); refine WT.nil ?_)
    refine WH.only (i := 1) (by kernel_rfl) rfl ?_
    refine WL.callV (g := 19) Try.call19 rfl (fun w s => check_c x p w hw ((NdAt.old h).at_ s)) rfl ?_
    refine WL.nil (WN.nextH (by repeat (first | exact Part.nil | refine Part.cons (by repeat (first | exact Pick.here | apply Pick.there)) ?_ | refine Part.free ?_)) ?_)
    refine WH.only (i := 3) (by kernel_rfl) rfl ?_
    refine WL.callV (g := 20) Try.call20 rfl (fun w s => rcheck_c x ⟨q1.1, q1.2, q2.1, q2.2, p.ca, p.cc⟩ w hw (NdRd.at_ ⟨Rd.row (by repeat (first | exact .head _ | refine .tail _ ?_)), Rd.row (by repeat (first | exact .head _ | refine .tail _ ?_)), Rd.old h.cs, hq1, hq2, h.cc⟩ s)) rfl ?_
    refine WL.nil (WN.nextH (by repeat (first | exact Part.nil | refine Part.cons (by repeat (first | exact Pick.here | apply Pick.there)) ?_ | refine Part.free ?_)) ?_)
    (refine WH.order [4, 5, 6, 7] (by repeat (first | exact Part.nil | refine Part.cons (by repeat (first | exact Pick.here | apply Pick.there)) ?_ | refine Part.free ?_)) (by kernel_rfl) ?_; (repeat (first | (refine WT.k_move rfl ?_; first | (refine WT.kn rfl ?_; refine WT.take rfl rfl (fun _ _ _ h => h) (Yl.move rfl) rfl (by kernel_rfl) (by kernel_rfl) ?_) | (refine WT.kg rfl ?_; refine WT.takeG rfl rfl rfl rfl (fun _ _ _ h => h) (Yl.move rfl) rfl (by kernel_rfl) (by kernel_rfl) ?_)) | (refine WT.k_bin .eql rfl ?_; (refine WT.kn rfl ?_; refine WT.take rfl rfl (fun _ _ _ h => h) (Yl.eqlT rfl rfl rfl) rfl (by kernel_rfl) (by kernel_rfl) ?_)))); refine WT.nil ?_)
    refine WH.only (i := 8) (by kernel_rfl) rfl ?_
    refine WL.want rfl rfl rfl ?_
    refine WL.callV (g := 21) Try.call21 rfl (fun w s => bsame_t qa ra _ _ qc rc (Nod.encR x).2 w rfl rfl elen (Rd.row (by repeat (first | exact .head _ | refine .tail _ ?_)) w s) (Rd.row (by repeat (first | exact .head _ | refine .tail _ ?_)) w s)) rfl ?_
    refine WL.nil (WN.nextH (by repeat (first | exact Part.nil | refine Part.cons (by repeat (first | exact Pick.here | apply Pick.there)) ?_ | refine Part.free ?_)) ?_)
    (refine WH.order [9, 10, 11, 12, 13, 14, 15, 16, 18] (by repeat (first | exact Part.nil | refine Part.cons (by repeat (first | exact Pick.here | apply Pick.there)) ?_ | refine Part.free ?_)) (by kernel_rfl) ?_; (repeat (first | (refine WT.k_move rfl ?_; first | (refine WT.kn rfl ?_; refine WT.take rfl rfl (fun _ _ _ h => h) (Yl.move rfl) rfl (by kernel_rfl) (by kernel_rfl) ?_) | (refine WT.kg rfl ?_; refine WT.takeG rfl rfl rfl rfl (fun _ _ _ h => h) (Yl.move rfl) rfl (by kernel_rfl) (by kernel_rfl) ?_)) | (refine WT.k_load rfl ?_; (refine WT.kg rfl ?_; first | refine WT.takeG rfl rfl rfl rfl (fun _ _ _ h => h) (Yl.loadAll (T' := 26) (b := b8) (cs := (ndl (Nod.sp x).1 p1).toArray) (fr := (0, 0)) Try.isAgg26 Try.sizeOf26 rfl (by repeat (first | exact .head _ | refine .tail _ ?_)) rfl) rfl (by kernel_rfl) (by kernel_rfl) ?_ | refine WT.takeG rfl rfl rfl rfl (fun _ _ _ h => h) (Yl.loadAll (T' := 32) (b := b12) (cs := (ndl (Nod.sp x).1 p3).toArray) (fr := (0, 0)) Try.isAgg32 Try.sizeOf32 rfl (by repeat (first | exact .head _ | refine .tail _ ?_)) rfl) rfl (by kernel_rfl) (by kernel_rfl) ?_)) | (refine WT.k_pick rfl ?_; (refine WT.kn rfl ?_; refine WT.take rfl rfl (fun _ _ _ h => h) (Yl.pick_t rfl rfl rfl) rfl (by kernel_rfl) (by kernel_rfl) ?_)) | (refine WT.k_bin .eql rfl ?_; (refine WT.kg rfl ?_; refine WT.takeG rfl rfl rfl rfl (fun _ _ _ h => h) (Yl.eqlT rfl rfl rfl) rfl (by kernel_rfl) (by kernel_rfl) ?_)))); refine WT.nil ?_)
    refine WH.only (i := 17) (by kernel_rfl) rfl ?_
    refine WL.want rfl rfl rfl ?_
    refine WL.call (g := 14) Try.call14 rfl (fun w s => lref_c (Nod.sp x).1 p1 w sw1 (NdRd.at_ ⟨Rd.row (by repeat (first | exact .head _ | refine .tail _ ?_)), Rd.row (by repeat (first | exact .head _ | refine .tail _ ?_)), Rd.row (by repeat (first | exact .head _ | refine .tail _ ?_)), c1.kc, c1.vc, c1.cc⟩ s)) rfl fun v1 B1 hv1 => ?_
    obtain ⟨k1, k2, hk1, hk2, rfl, rfl⟩ := hv1
    simp only [List.cons_append, List.nil_append]
    refine WL.nil (WN.nextH (by repeat (first | exact Part.nil | refine Part.cons (by repeat (first | exact Pick.here | apply Pick.there)) ?_ | refine Part.free ?_)) ?_)
    refine WH.only (i := 19) (by kernel_rfl) rfl ?_
    refine WL.want rfl rfl rfl ?_
    refine WL.callV (g := 22) Try.call22 rfl (fun w s => rsame_t (Nod.sp x).1 ⟨k1.1, k1.2, k2.1, k2.2, p1.ca, p1.cc⟩ p3 w sw1 (NdRd.at_ ⟨Rd.row (by repeat (first | exact .head _ | refine .tail _ ?_)), Rd.row (by repeat (first | exact .head _ | refine .tail _ ?_)), Rd.row (by repeat (first | exact .head _ | refine .tail _ ?_)), hk1, hk2, c1.cc⟩ s) (d1 w (NdRd.at_ ⟨Rd.row (by repeat (first | exact .head _ | refine .tail _ ?_)), Rd.row (by repeat (first | exact .head _ | refine .tail _ ?_)), Rd.old h.cs, hq1, hq2, h.cc⟩ s))) rfl ?_
    refine WL.nil (WN.nextH (by repeat (first | exact Part.nil | refine Part.cons (by repeat (first | exact Pick.here | apply Pick.there)) ?_ | refine Part.free ?_)) ?_)
    (refine WH.order [20, 21, 22, 23, 24, 25, 26, 27, 29] (by repeat (first | exact Part.nil | refine Part.cons (by repeat (first | exact Pick.here | apply Pick.there)) ?_ | refine Part.free ?_)) (by kernel_rfl) ?_; (repeat (first | (refine WT.k_move rfl ?_; (refine WT.kn rfl ?_; refine WT.take rfl rfl (fun _ _ _ h => h) (Yl.move rfl) rfl (by kernel_rfl) (by kernel_rfl) ?_)) | (refine WT.k_load rfl ?_; (refine WT.kg rfl ?_; first | refine WT.takeG rfl rfl rfl rfl (fun _ _ _ h => h) (Yl.loadAll (T' := 42) (cs := (kv (Nod.sp x).2.1).toArray) Try.isAgg42 Try.sizeOf42 rfl (by repeat (first | exact .head _ | refine .tail _ ?_)) sk) rfl (by kernel_rfl) (by kernel_rfl) ?_ | refine WT.takeG rfl rfl rfl rfl (fun _ _ _ h => h) (Yl.loadAll (T' := 45) (cs := (kv (Nod.sp x).2.1).toArray) Try.isAgg45 Try.sizeOf45 rfl (by repeat (first | exact .head _ | refine .tail _ ?_)) sk) rfl (by kernel_rfl) (by kernel_rfl) ?_ | refine WT.takeG rfl rfl rfl rfl (fun _ _ _ h => h) (Yl.loadAll (T' := 26) (b := b10) (cs := (ndl (Nod.sp x).2.2.1 p2).toArray) (fr := (0, 0)) Try.isAgg26 Try.sizeOf26 rfl (by repeat (first | exact .head _ | refine .tail _ ?_)) rfl) rfl (by kernel_rfl) (by kernel_rfl) ?_ | refine WT.takeG rfl rfl rfl rfl (fun _ _ _ h => h) (Yl.loadAll (T' := 32) (b := b14) (cs := (ndl (Nod.sp x).2.2.1 p4).toArray) (fr := (0, 0)) Try.isAgg32 Try.sizeOf32 rfl (by repeat (first | exact .head _ | refine .tail _ ?_)) rfl) rfl (by kernel_rfl) (by kernel_rfl) ?_)) | (refine WT.k_pick rfl ?_; (refine WT.kn rfl ?_; refine WT.take rfl rfl (fun _ _ _ h => h) (Yl.pick_t rfl rfl rfl) rfl (by kernel_rfl) (by kernel_rfl) ?_)) | (refine WT.k_bin .eql rfl ?_; (refine WT.kg rfl ?_; refine WT.takeG rfl rfl rfl rfl (fun _ _ _ h => h) (Yl.eqlKT (k := (Nod.sp x).2.1) rkeyT rfl rfl swk) rfl (by kernel_rfl) (by kernel_rfl) ?_)))); refine WT.nil ?_)
    refine WH.only (i := 28) (by kernel_rfl) rfl ?_
    refine WL.want rfl rfl rfl ?_
    refine WL.call (g := 14) Try.call14 rfl (fun w s => lref_c (Nod.sp x).2.2.1 p2 w sw2 (NdRd.at_ ⟨Rd.row (by repeat (first | exact .head _ | refine .tail _ ?_)), Rd.row (by repeat (first | exact .head _ | refine .tail _ ?_)), Rd.row (by repeat (first | exact .head _ | refine .tail _ ?_)), c2.kc, c2.vc, c2.cc⟩ s)) rfl fun v1 B1 hv1 => ?_
    obtain ⟨k3, k4, hk3, hk4, rfl, rfl⟩ := hv1
    simp only [List.cons_append, List.nil_append]
    refine WL.nil (WN.nextH (by repeat (first | exact Part.nil | refine Part.cons (by repeat (first | exact Pick.here | apply Pick.there)) ?_ | refine Part.free ?_)) ?_)
    refine WH.only (i := 30) (by kernel_rfl) rfl ?_
    refine WL.want rfl rfl rfl ?_
    refine WL.callV (g := 22) Try.call22 rfl (fun w s => rsame_t (Nod.sp x).2.2.1 ⟨k3.1, k3.2, k4.1, k4.2, p2.ca, p2.cc⟩ p4 w sw2 (NdRd.at_ ⟨Rd.row (by repeat (first | exact .head _ | refine .tail _ ?_)), Rd.row (by repeat (first | exact .head _ | refine .tail _ ?_)), Rd.row (by repeat (first | exact .head _ | refine .tail _ ?_)), hk3, hk4, c2.cc⟩ s) (d2 w (NdRd.at_ ⟨Rd.row (by repeat (first | exact .head _ | refine .tail _ ?_)), Rd.row (by repeat (first | exact .head _ | refine .tail _ ?_)), Rd.old h.cs, hq1, hq2, h.cc⟩ s))) rfl ?_
    refine WL.nil (WN.nextH (by repeat (first | exact Part.nil | refine Part.cons (by repeat (first | exact Pick.here | apply Pick.there)) ?_ | refine Part.free ?_)) ?_)
    (refine WH.order [31, 32, 33, 34, 35, 36, 37] (by repeat (first | exact Part.nil | refine Part.cons (by repeat (first | exact Pick.here | apply Pick.there)) ?_ | refine Part.free ?_)) (by kernel_rfl) ?_; (repeat (first | (refine WT.k_move rfl ?_; first | (refine WT.kn rfl ?_; refine WT.take rfl rfl (fun _ _ _ h => h) (Yl.move rfl) rfl (by kernel_rfl) (by kernel_rfl) ?_) | (refine WT.kg rfl ?_; refine WT.takeG rfl rfl rfl rfl (fun _ _ _ h => h) (Yl.move rfl) rfl (by kernel_rfl) (by kernel_rfl) ?_)) | (refine WT.k_pick rfl ?_; (refine WT.kn rfl ?_; refine WT.take rfl rfl (fun _ _ _ h => h) (Yl.pick_t rfl rfl rfl) rfl (by kernel_rfl) (by kernel_rfl) ?_)) | (refine WT.k_bin .eql rfl ?_; (refine WT.kg rfl ?_; refine WT.takeG rfl rfl rfl rfl (fun _ _ _ h => h) (Yl.eqlT rfl rfl rfl) rfl (by kernel_rfl) (by kernel_rfl) ?_)))); refine WT.nil ?_)
    refine WH.only (i := 38) (by kernel_rfl) rfl ?_
    refine WL.want rfl rfl rfl ?_
    refine WL.callV (g := 13) (v := .bool true) Try.call13 rfl (fun w s => works38_c w) rfl ?_
    refine WL.nil (WN.nextH (by repeat (first | exact Part.nil | refine Part.cons (by repeat (first | exact Pick.here | apply Pick.there)) ?_ | refine Part.free ?_)) ?_)
    (refine WH.order [39, 40] (by repeat (first | exact Part.nil | refine Part.cons (by repeat (first | exact Pick.here | apply Pick.there)) ?_ | refine Part.free ?_)) (by kernel_rfl) ?_; (repeat (first | (refine WT.k_assign rfl ?_; (refine WT.kn rfl ?_; refine WT.take rfl rfl (fun _ _ _ h => h) (Yl.assign rfl) rfl (by kernel_rfl) (by kernel_rfl) ?_)) | (refine WT.k_pick rfl ?_; (refine WT.kn rfl ?_; refine WT.take rfl rfl (fun _ _ _ h => h) (Yl.pick_t rfl rfl rfl) rfl (by kernel_rfl) (by kernel_rfl) ?_)))); refine WT.nil ?_)
    refine WH.done (by kernel_rfl) ?_
    (repeat (first | refine WN.then_normal ?_ | refine WC.ret ?_))
    exact WN.ret1 rfl rfl ⟨rfl, rfl⟩ .nil
  · (repeat (first | (refine WL.k_load ?_; refine WL.step (Yl.loadAll (T := 26) (T' := 26) Try.isAgg26 Try.sizeOf26 rfl (by repeat (first | exact .head _ | refine .tail _ ?_)) rfl) rfl ?_) | (refine WL.k_call 12 ?_; refine WL.callV (g := 12) Try.call12 rfl (fun w s => few_f p w hf) rfl ?_) | refine WL.step (Yl.not rfl) rfl ?_ | refine WL.nil ?_ | refine WN.then_normal ?_))
    refine WC.cond_true rfl rfl ?_
    (repeat (first | refine WL.step (Yl.assign rfl) rfl ?_ | (refine WL.k_call 13 ?_; refine WL.callV (g := 13) Try.call13 rfl (fun w s => works38_c w) rfl ?_) | refine WC.seq ?_ | refine WC.region ?_ | refine WL.nil ?_ | refine WN.then_normal ?_ | refine WC.ret ?_ | refine WN.then_ret ?_))
    exact WN.ret1 rfl rfl ⟨rfl, rfl⟩ .nil
end Go.Proofs.Ytbfhdggfdhlkfaa
