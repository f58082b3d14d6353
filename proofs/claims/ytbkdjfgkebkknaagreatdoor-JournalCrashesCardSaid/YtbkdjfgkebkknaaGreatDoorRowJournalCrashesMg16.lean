import Derived.Test.YtbkdjfgkebkknaaGreatDoorRowJournalCrashesMg8
import Derived.Test.YtbkdjfgkebkknaaGreatDoorRowJournalCrashesMg7
import Derived.Test.YtbkdjfgkebkknaaGreatDoorRowJournalCrashesMg15
import Derived.Test.YtbkdjfgkebkknaaGreatDoorRowJournalCrashesMg13
import Derived.Test.YtbkdjfgkebkknaaGreatDoorRowJournalCrashesMg12
namespace Go.Proofs.YtbkdjfgkebkknaaGreatDoor
set_option linter.unusedVariables false
set_option linter.unusedSimpArgs false
open Go Go.RowKit
set_option maxRecDepth 100000
set_option maxHeartbeats 8000000
def LI (X : Cx) (ds : List Deferred) (ops : Array Oper) (Q : Exit → Act → World → Prop) (l : List Oper) (ρ : Env) (A : List HA) : Prop := ∀ a w, Fr X.n ρ a → St X.w0 X.S A w → wpListIn (fence none) 0 X.P ops Q l (sd ds a) w
section
variable {X : Cx} {Q : Exit → Act → World → Prop} {ρ : Env} {A : List HA} {ds : List Deferred} {ops : Array Oper} {rest : List Oper} {d : Tmp} {op : Op} {ty : TypeId} {ps : String} {af : Array Edge} {v : Value}
theorem WG.regionI {id : Nat} {l : List Oper} (h : LI X ds l.toArray Q l ρ A) : WG X none ds (.region id l.toArray false) Q ρ A := fun a w f s => wpIn_region_lit (h a w f s)
theorem LI.step (hy : Yl X op ty ρ A v) (hnd : ∀ c, op ≠ .defer c) (hd : Nat.blt d X.n = true) (h : LI X ds ops Q rest ((d, v) :: ρ) A) : LI X ds ops Q (⟨some d, op, ty, ps, af, none⟩ :: rest) ρ A := fun a w f s => by
  refine wpListIn_plain rfl fun K hK => ⟨fun _ _ => trivial, ?_⟩
  have q0 : (Oper.semAt (fence none).round (sd ds a).eval ⟨some d, op, ty, ps, af, none⟩).run X.P w = .ok (.value v) w := by
    rw [Oper.semAt_eq _ _ _ (fun c e => hnd c e)]
    exact hy ⟨some d, op, ty, ps, af, none⟩ rfl rfl a w f s
  rw [q0, Oper.uponIn_value, ← sd_put]
  exact hK _ _ (h _ _ (f.put (blt_lt hd) v) s)
theorem LI.yield {l m : Nat} {t0 t1 t2 t3 ty2 ty3 tb : Nat} {p2 p3 : String} {a2 a3 : Array Edge} {ts : Array TypeId} {R : Ending → World → Prop}
    (h0 : lk ρ t0 = some (.func (.yield l) #[] #[])) (h1 : lk ρ t1 = some v) (d2 : Nat.blt t2 X.n = true) (d3 : Nat.blt t3 X.n = true)
    (hy : ∀ w, St X.w0 X.S A w → YieldAt (fence none) m X.P l #[v] w R) (hR : ∀ e w, R e w → ∃ b, e = .returned (.bool b))
    (h : ∀ b a w, R (.returned (.bool b)) w → Fr X.n ((t3, .bool (!b)) :: (t2, .bool b) :: ρ) a → Q .normal (sd ds a) w) :
    LI X ds ops Q [⟨some t2, .call { callee := .value (.tmp t0), args := [Operand.tmp t1].toArray, argTypes := ts }, ty2, p2, a2, none⟩, ⟨some t3, .unOp .not tb (.tmp t2), ty3, p3, a3, none⟩] ρ A := fun a w f s => by
  have l0 : a.eval (.tmp t0) = .func (.yield l) #[] #[] := f.ev (x := .tmp t0) h0
  have l1 : a.eval (.tmp t1) = v := f.ev (x := .tmp t1) h1
  obtain ⟨fn, tmps, assign, body, hrun, hround⟩ := hy w s
  refine wpListIn_plain rfl fun K hK => ⟨fun _ _ => trivial, ?_⟩
  have q2 : (Oper.semAt (fence none).round (sd ds a).eval ⟨some t2, .call { callee := .value (.tmp t0), args := [Operand.tmp t1].toArray, argTypes := ts }, ty2, p2, a2, none⟩).run X.P w = .ok (.round l fn tmps assign body) w := by
    rw [Oper.semAt_eq _ _ _ (fun c e => by cases e)]
    show (execOp a.eval _).run X.P w = _
    simp [execOp, resolve, Deferred.ofValue, l0, l1, invoke, hrun]
  rw [q2, Oper.uponIn_round]
  refine ⟨fun hd => (by cases hd), ?_⟩
  have hround' : RoundIn (fence none) (0 - 1) X.P l fn tmps assign body w R := ⟨hround.1, fun c cs _ => hround.2 c cs (room_fence _ _)⟩
  refine hround'.mono fun e w' hr => ?_
  obtain ⟨b, rfl⟩ := hR e w' hr
  simp only
  rw [← sd_put]
  have f3 := f.put (blt_lt d2) (Value.bool b)
  refine hK _ _ (wpListIn_plain rfl fun K hK => ⟨fun _ _ => trivial, ?_⟩)
  have l2 : (a.put (some t2) (.bool b)).eval (.tmp t2) = .bool b := f3.ev (x := .tmp t2) (by show lk _ t2 = _; simp only [lk, Nat.beq_refl]; rfl)
  have q3 : (Oper.semAt (fence none).round (sd ds (a.put (some t2) (.bool b))).eval ⟨some t3, .unOp .not tb (.tmp t2), ty3, p3, a3, none⟩).run X.P w' = .ok (.value (.bool (!b))) w' := by
    rw [Oper.semAt_eq _ _ _ (fun c e => by cases e)]
    show (execOp (a.put (some t2) (.bool b)).eval _).run X.P w' = _
    have hn : (Op.unary .not (.bool b)).run X.P w' = .ok (.bool (!b)) w' := by simp [Op.unary]
    simp [execOp, l2, hn]
  rw [q3, Oper.uponIn_value, ← sd_put]
  exact hK _ _ (wpListIn_nil (h b _ w' hr (f3.put (blt_lt d3) (.bool (!b)))))
end
def piece (a : Option Addr) (i : Nat) : Value := .slice (cutA a (128 * i) (128 * (i + 1)) 1) 128 128
theorem Yl.piece {X : Cx} {A : List HA} {ρ : Env} {ty : TypeId} {x l h m : Operand} {t e : TypeId} {a : Option Addr} {n cap i : Nat} (hu : X.P.underlying t = some (.slice e)) (hs : ∀ w, (sizeOf e).run X.P w = .ok 1 w) (hx : ev ρ x = some (.slice a n cap))
    (hl : ev ρ l = some (.int .i64 ((128 * i : Nat) : Int))) (hh : ev ρ h = some (.int .i64 ((128 * i + 128 : Nat) : Int))) (hm : ev ρ m = some (.int .i64 ((128 * i + 128 : Nat) : Int))) (hc : 128 * i + 128 ≤ cap) : Yl X (.slice t x (some l) (some h) (some m)) ty ρ A (piece a i) := by
  have := Yl.cutAll (X := X) (A := A) (ty := ty) hu hs hx hl hh hm (by omega) (Nat.le_refl _) hc
  rw [show 128 * i + 128 - 128 * i = 128 by omega] at this
  exact this
def ChunkV (a : Option Addr) (k c : Nat) : Value → List HA → Prop := fun u B => ∃ b2 b3, u = .func (.func 149) #[] #[.pointer (some ⟨b2, 0, none⟩), .pointer (some ⟨b3, 0, none⟩)] ∧
  B = [.blk b3 (.cells #[.int .i64 128] 3 (0, 0)), .blk b2 (.cells #[.slice a (128 * k) c] 23 (0, 0))]
attribute [local irreducible] WL WC WN Yl WH WQ WT WE WU WG
theorem chunk_c (a : Option Addr) (k c : Nat) (w : World) : Calls Tryz.prog 111 #[.slice a (128 * k) c, .int .i64 128] w (Gives (ChunkV a k c) w) := by
  refine enter (args := [_, _]) Tryz.func111 Tryz.ntmps111 rfl rfl ?_
  (repeat (first | refine WC.seq ?_ | refine WC.region ?_))
  refine WL.box rfl rfl fun b2 => ?_
  refine WL.box rfl rfl fun b3 => ?_
  (repeat (first | refine WL.step (Yl.assign rfl) rfl ?_ | (refine WL.k_load ?_; refine WL.step (Yl.loadBlk (T := 3) Tryz.isAgg3 rfl (by repeat (first | exact .head _ | refine .tail _ ?_)) (by rfl)) rfl ?_) | (refine WL.k_bin .lss ?_; refine WL.step (Yl.lssF rfl rfl (by decide)) rfl ?_) | refine WC.seq ?_ | refine WC.region ?_ | refine WL.nil ?_ | refine WN.then_normal ?_))
  refine WC.cond_false rfl rfl ?_
  (repeat (first | refine WL.step (Yl.assign rfl) rfl ?_ | refine WL.step (Yl.capFunc (vs := [.pointer (some ⟨b2, 0, none⟩), .pointer (some ⟨b3, 0, none⟩)]) rfl) rfl ?_ | refine WC.seq ?_ | refine WC.region ?_ | refine WL.nil ?_ | refine WN.then_normal ?_ | refine WC.skip ?_ | refine WC.ret ?_))
  exact WN.ret1 rfl rfl ⟨b2, b3, rfl, rfl⟩ (Part.refl _)
theorem chunk_seq (a : Option Addr) (k c b2 b3 : Nat) (w : World) (M : List Nat) (hk : k ≤ 5) (hc : 128 * k ≤ c) (hb2 : w.heap[b2]? = some (.cells #[.slice a (128 * k) c] 23 (0, 0))) (hb3 : w.heap[b3]? = some (.cells #[.int .i64 128] 3 (0, 0))) (h2M : b2 ∈ M) (h3M : b3 ∈ M) :
    SeqStopsK (fence none) 1 Tryz.prog 149 #[.pointer (some ⟨b2, 0, none⟩), .pointer (some ⟨b3, 0, none⟩)] (fun i : Sec k => #[piece a i.1]) (Kq M) (fun xs => xs.map (·.1) = List.range k) (fun pre => ∃ j, j ≤ k ∧ pre.map (·.1) = List.range j) k w := by
  intro l J Jx W hW hJ hJx hY h0
  have kW := Kept.of_below hW
  have x2 := (kW.block b2 (lt_of_heap hb2) (by simp)).trans hb2
  have x3 := (kW.block b3 (lt_of_heap hb3) (by simp)).trans hb3
  have hk0 : ∀ w', Kept W [] w' → J [] w' := fun w' k => hJ [] W w' none h0 k.grown (fun r e => by cases e)
  have e : (#[Value.func (.yield l) #[] #[]] ++ #[Value.pointer (some ⟨b2, 0, none⟩), Value.pointer (some ⟨b3, 0, none⟩)] : Array Value) = [Value.func (.yield l) #[] #[], .pointer (some ⟨b2, 0, none⟩), .pointer (some ⟨b3, 0, none⟩)].toArray := by simp
  rw [e]
  refine enterI (args := [_, _, _]) Tryz.func149 Tryz.ntmps149 rfl rfl ?_
  (repeat (first | refine WL.step (Yl.assign rfl) rfl ?_ | refine WG.seq ?_ | refine WG.region (fun _ _ h => h) rfl ?_ | refine WL.nil ?_ | refine WN.g_then ?_ | refine WG.block ?_))
  refine WG.intro fun a0 w2 f s => ?_
  have hJ0 := hk0 w2 s.kept
  have y2 := (s.kept.block b2 (lt_of_heap x2) (by simp)).trans x2
  have y3 := (s.kept.block b3 (lt_of_heap x3) (by simp)).trans x3
  refine wpIn_loop_ghost (a := sd [] a0) (fun m a1 w => ∃ pre : List (Sec k), m + pre.length = k ∧ pre.map (·.1) = List.range pre.length ∧ J pre w ∧ w.heap[b2]? = some (.cells #[.slice a (128 * k) c] 23 (0, 0)) ∧ w.heap[b3]? = some (.cells #[.int .i64 128] 3 (0, 0)) ∧ ∃ b, a1 = sd [] b ∧
    Fr 31 [(0, .func (.yield l) #[] #[]), (1, .pointer (some ⟨b2, 0, none⟩)), (2, .pointer (some ⟨b3, 0, none⟩)), (4, .int .i64 ((128 * pre.length : Nat) : Int))] b) k ⟨[], rfl, rfl, hJ0, y2, y3, a0, rfl, f.of_sub (by repeat (first | exact Sub.nil | refine Sub.cons rfl rfl ?_))⟩ ?_
  rintro m _ w ⟨pre, hm, hp, hj, z2, z3, b, rfl, f⟩
  obtain ⟨i, hi⟩ : ∃ i, i = pre.length := ⟨_, rfl⟩
  rw [← hi] at hm hp f
  refine WG.elim (X := ⟨Tryz.prog, 31, w, []⟩) (A := []) ?_ b w f (St.start w)
  have hkJ : ∀ w', Kept w [] w' → J pre w' := fun w' k => hJ _ w w' none hj k.grown (fun r e => by cases e)
  (repeat (first | refine WL.step (Yl.move rfl) rfl ?_ | refine WL.step (Yl.loadH Tryz.isAgg23 rfl (Has.old z2) rfl) rfl ?_ | refine WL.step (Yl.len (t := 23) Tryz.underlying23 rfl) rfl ?_ | refine WL.step (Yl.lss rfl rfl) rfl ?_ | refine WG.seq ?_ | refine WG.region (fun _ _ h => h) rfl ?_ | refine WL.nil ?_ | refine WN.g_then ?_))
  refine WG.ite rfl (fun h1 => ?_) (fun h1 => ?_)
  · have hik : i < k := by omega
    have hnext : (pre ++ [(⟨i, hik⟩ : Sec k)]).map (·.1) = List.range (i + 1) := by
      rw [List.map_append, hp, List.range_succ]; rfl
    have hnl : (pre ++ [(⟨i, hik⟩ : Sec k)]).length = i + 1 := by simp [hi]
    generalize hpn : pre ++ [(⟨i, hik⟩ : Sec k)] = pn at hnext hnl
    refine WG.skip (WN.g_then (WG.seq (WG.block (WG.seq (WG.regionH [] (by kernel_rfl) (fun _ _ h => h) rfl ?_)))))
    (refine WH.order [0, 1, 2, 3, 4, 5, 6] (by repeat (first | exact Part.nil | refine Part.cons (by repeat (first | exact Pick.here | apply Pick.there)) ?_ | refine Part.free ?_)) (by kernel_rfl) ?_; (repeat (first | (refine WT.k_move rfl ?_; refine WT.take rfl rfl (fun _ _ _ h => h) (Yl.move rfl) rfl (by kernel_rfl) (by kernel_rfl) ?_) | (refine WT.k_assign rfl ?_; refine WT.take rfl rfl (fun _ _ _ h => h) (Yl.assign rfl) rfl (by kernel_rfl) (by kernel_rfl) ?_) | (refine WT.k_load rfl ?_; first | refine WT.take rfl rfl (fun _ _ _ h => h) (Yl.loadH Tryz.isAgg23 rfl (Has.old z2) rfl) rfl (by kernel_rfl) (by kernel_rfl) ?_ | refine WT.take rfl rfl (fun _ _ _ h => h) (Yl.loadH Tryz.isAgg3 rfl (Has.old z3) rfl) rfl (by kernel_rfl) (by kernel_rfl) ?_) | (refine WT.k_slice rfl ?_; refine WT.take rfl rfl (fun _ _ _ h => h) (Yl.cutFrom (t := 23) (n := 128 * k) (lo := 128 * i) Tryz.underlying23 Tryz.sizeOf5 rfl rfl (by omega)) rfl (by kernel_rfl) (by kernel_rfl) ?_) | (refine WT.k_bi .len rfl ?_; refine WT.take rfl rfl (fun _ _ _ h => h) (Yl.len (t := 23) Tryz.underlying23 rfl) rfl (by kernel_rfl) (by kernel_rfl) ?_) | (refine WT.k_bi .min rfl ?_; refine WT.take rfl rfl (fun _ _ _ h => h) (Yl.min2N rfl rfl) rfl (by kernel_rfl) (by kernel_rfl) ?_))); refine WT.nil ?_)
    refine WH.done (by kernel_rfl) ?_
    rw [show min 128 (128 * k - 128 * i) = 128 by omega]
    refine WN.g_then (WG.seq ?_)
    refine WG.regionI ?_
    refine LI.step (Yl.move rfl) (fun c e => by cases e) rfl ?_
    refine LI.step (Yl.loadH Tryz.isAgg23 rfl (Has.old z2) (by rfl)) (fun c e => by cases e) rfl ?_
    refine LI.step (Yl.move rfl) (fun c e => by cases e) rfl ?_
    refine LI.step (Yl.move rfl) (fun c e => by cases e) rfl ?_
    refine LI.step (Yl.move rfl) (fun c e => by cases e) rfl ?_
    refine LI.step (Yl.add64N (m := 128 * i) (n := 128) rfl rfl (by omega)) (fun c e => by cases e) rfl ?_
    refine LI.step (Yl.move rfl) (fun c e => by cases e) rfl ?_
    refine LI.step (Yl.move rfl) (fun c e => by cases e) rfl ?_
    refine LI.step (Yl.add64N (m := 128 * i) (n := 128) rfl rfl (by omega)) (fun c e => by cases e) rfl ?_
    refine LI.step (Yl.piece (i := i) Tryz.underlying23 Tryz.sizeOf5 rfl rfl rfl rfl (by omega)) (fun c e => by cases e) rfl ?_
    refine LI.yield (l := l) (m := 1 - 1) (R := fun e W' => (e = .returned (.bool true) ∧ J pn W' ∧ Kq M w W') ∨ (e = .returned (.bool false) ∧ Jx pn W')) rfl rfl rfl rfl (fun w' s' => ?_) (fun e w' hq => ?_) (fun bb a' w' hR f' => ?_)
    · rw [← hpn]
      refine YieldAt.mono (hY pre ⟨i, hik⟩ w' (hkJ w' s'.kept) (by omega)) fun e W' hq => ?_
      rcases hq with ⟨h1, h2, h3⟩ | h2
      · exact .inl ⟨h1, h2, (s'.kept.kq M).trans h3⟩
      · exact .inr h2
    · rcases hq with h | h
      · exact ⟨true, h.1⟩
      · exact ⟨false, h.1⟩
    rcases hR with ⟨hb1, hJ', hK'⟩ | ⟨hb1, hJ'⟩
    · obtain rfl : bb = true := by simpa using hb1
      have q2 := hK'.cells b2 h2M _ z2 rfl
      have q3 := hK'.cells b3 h3M _ z3 rfl
      refine WG.elim (X := ⟨Tryz.prog, 31, w', []⟩) (A := []) ?_ a' w' f' (St.start w')
      refine WG.cond_false rfl rfl ?_
      (repeat (first | refine WL.step (Yl.move rfl) rfl ?_ | refine WL.step (Yl.assign rfl) rfl ?_ | refine WL.step (Yl.loadH Tryz.isAgg3 rfl (Has.old q3) rfl) rfl ?_ | (refine WL.k_bin .add ?_; refine WL.step (Yl.add64N (m := 128 * i) (n := 128) rfl rfl (by omega)) rfl ?_) | refine WG.region (fun _ _ h => h) rfl ?_ | refine WL.nil ?_ | refine WN.g_then ?_ | refine WG.skip ?_ | refine WN.g_bnormal ?_))
      refine WN.g_done fun a3 w3 f3 s3 => ⟨m - 1, by omega, pn, by omega, by rw [hnl]; exact hnext, hJ _ w' w3 none hJ' s3.kept.grown (fun r e => by cases e), (s3.kept.block b2 (lt_of_heap q2) (by simp)).trans q2, (s3.kept.block b3 (lt_of_heap q3) (by simp)).trans q3, a3, rfl, f3.of_sub (by rw [hnl]; exact (by repeat (first | exact Sub.nil | refine Sub.cons rfl rfl ?_)))⟩
    · obtain rfl : bb = false := by simpa using hb1
      refine WG.elim (X := ⟨Tryz.prog, 31, w', []⟩) (A := []) ?_ a' w' f' (St.start w')
      refine WG.cond_true rfl rfl ?_
      (repeat (first | refine WG.ret ?_ | refine WN.g_ret ?_ | refine WN.g_bret ?_))
      exact WN.iret rfl (fun w3 s3 => ⟨⟨_, rfl⟩, .inr ⟨_, ⟨i + 1, by omega, hnext⟩, hJx _ w' w3 none hJ' s3.kept.grown (fun r e => by cases e)⟩⟩)
  · have hN : i = k := by omega
    (repeat (first | refine WG.exit ?_ | refine WN.g_exit ?_ | refine WN.g_bhere ?_))
    exact WN.iend rfl (fun w s => ⟨⟨_, rfl⟩, .inl ⟨pre, (by show pre.map (·.1) = List.range k; rw [hp, hN]), hkJ w s.kept⟩⟩)
end Go.Proofs.YtbkdjfgkebkknaaGreatDoor
namespace Go.Proofs.YtbkdjfgkebkknaaGreatDoor
set_option linter.unusedVariables false
set_option linter.unusedSimpArgs false
open Go Go.RowKit
set_option maxHeartbeats 8000000
set_option maxRecDepth 100000
attribute [local irreducible] WL WC WN Yl WH WQ WT Big.be Frm.stamp Frm.payload Frm.chunks Crc.sealed
def hdN (kd tx ix no : Nat) : Nat → List UInt8
  | 0 => []
  | 1 => Big.be 1 kd
  | 2 => Big.be 1 kd ++ Big.be 4 tx
  | 3 => Big.be 1 kd ++ Big.be 4 tx ++ Big.be 2 ix
  | _ => Frm.head kd tx ix no
theorem hdN_le (kd tx ix no i : Nat) : (hdN kd tx ix no i).length ≤ 11 := by
  match i with
  | 0 => exact Nat.zero_le _
  | 1 => show (Big.be 1 kd).length ≤ 11; rw [Big.be_length]; decide
  | 2 => show (Big.be 1 kd ++ Big.be 4 tx).length ≤ 11; simp only [List.length_append, Big.be_length]; decide
  | 3 => show (Big.be 1 kd ++ Big.be 4 tx ++ Big.be 2 ix).length ≤ 11; simp only [List.length_append, Big.be_length]; decide
  | k + 4 => show (Frm.head kd tx ix no).length ≤ 11; rw [Frm.head_length]; decide
theorem appFits {l : List UInt8} {x W : Nat} (hW : 1 ≤ W ∧ W ≤ 8) (h : x < 2 ^ (8 * W)) : Big.appended l x (W : Int) = (0, l ++ Big.be W x) := by
  unfold Big.appended
  rw [if_neg (by omega), Int.toNat_natCast, if_neg (by omega)]
theorem tab_sec {k : Nat} (h : k = 1 ∨ k = 2) : tabCells[0 + k * 5 + 0]? = some (.int .i64 (((Frm.secs (k : Int)).1 : Nat) : Int)) := by
  rcases h with rfl | rfl <;> rfl
theorem enc_ok {kd ep tx ix no : Int} {d : List UInt8} (h : Frm.Ok kd ep tx ix no d.length) : Frm.enc kd ep tx ix no d = (0, Frm.chunks ep (Frm.payload kd.toNat tx.toNat ix.toNat no.toNat d) (Frm.secs kd).1) := if_pos h
theorem drop_step (p : List UInt8) (j : Nat) : (p.drop (112 * j)).drop (min (p.drop (112 * j)).length 112) = p.drop (112 * (j + 1)) := by
  rw [List.drop_drop]
  by_cases h : 112 ≤ (p.drop (112 * j)).length
  · rw [Nat.min_eq_right h]; congr 1
  · have h1 : p.length ≤ 112 * j + (p.drop (112 * j)).length := by rw [List.length_drop]; omega
    rw [Nat.min_eq_left (by omega), List.drop_eq_nil_of_le h1, List.drop_eq_nil_of_le]
    rw [List.length_drop] at h; omega
theorem take_step (p : List UInt8) : p.take (min p.length 112) = p.take 112 := by
  by_cases h : 112 ≤ p.length
  · rw [Nat.min_eq_right h]
  · rw [Nat.min_eq_left (by omega), List.take_of_length_le (Nat.le_refl _), List.take_of_length_le (by omega)]
theorem encode_c (kd ep tx ix no : Int) (a : Option Addr) (n cap : Nat) (dt : List UInt8) (w : World) (hT : Tab w) (hl : dt.length = n) (hr : CellsAt w a (bs dt)) :
    Calls Tryz.prog 110 #[.agg #[.int .i64 kd, .int .i64 ep, .int .i64 tx, .int .i64 ix, .int .i64 no, .slice a n cap]] w (Gives (Slc 5 (Frm.enc kd ep tx ix no dt)) w) := by
  refine enter (args := [_]) Tryz.func110 Tryz.ntmps110 rfl rfl ?_
  (repeat (first | refine WC.seq ?_ | refine WC.region ?_))
  refine WL.boxA rfl rfl fun b => ?_
  by_cases hok : Frm.Ok kd ep tx ix no n
  · have hok' : Frm.Ok kd ep tx ix no dt.length := by rw [hl]; exact hok
    rw [enc_ok hok']
    obtain ⟨he, ht1, ht2, hkd⟩ := hok
    obtain ⟨KD, rfl⟩ : ∃ K : Nat, kd = (K : Int) := ⟨kd.toNat, by omega⟩
    obtain ⟨TX, rfl⟩ : ∃ K : Nat, tx = (K : Int) := ⟨tx.toNat, by omega⟩
    obtain ⟨IX, rfl⟩ : ∃ K : Nat, ix = (K : Int) := ⟨ix.toNat, by omega⟩
    obtain ⟨NO, rfl⟩ : ∃ K : Nat, no = (K : Int) := ⟨no.toNat, by omega⟩
    simp only [Int.toNat_natCast]
    have hK : KD = 1 ∨ KD = 2 := by omega
    have hI : IX < 65536 := by omega
    have hN : NO < 4294967296 := by omega
    have hn : n ≤ 512 := by omega
    have hpl := Frm.payload_length KD TX IX NO dt
    have hsec := tab_sec hK
    have hS : (Frm.secs (KD : Int)).1 ≤ 5 := by rcases hK with rfl | rfl <;> decide
    have hhd := Frm.head_length KD TX IX NO
    have hpay : Crc.sealed (Frm.head KD TX IX NO ++ dt) = Frm.payload KD TX IX NO dt := by unfold Frm.payload; rfl
    generalize (Frm.secs (KD : Int)).1 = S at *
    (repeat (first | refine WL.step (Yl.move rfl) rfl ?_ | refine WL.step (Yl.assign rfl) rfl ?_ | refine WL.step (Yl.loadAll (T := 121) Tryz.isAgg121 Tryz.sizeOf121 rfl (.head _) rfl) rfl ?_ | (refine WL.k_call 144 ?_; refine WL.callV (g := 144) (v := .int .i64 0) Tryz.call144 rfl (fun w s => by have := check_c KD ep TX IX NO a n cap w (Rd.old hT w s); rwa [show Frm.check KD ep TX IX NO n = 0 from if_pos (by rw [← hl]; exact hok')] at this) rfl ?_) | refine WL.step (Yl.neqF rfl rfl rfl) rfl ?_ | refine WC.seq ?_ | refine WC.region ?_ | refine WL.nil ?_ | refine WN.then_normal ?_))
    refine WC.cond_false rfl rfl ?_
    (repeat (first | refine WL.step (Yl.assign rfl) rfl ?_ | refine WC.seq ?_ | refine WC.region ?_ | refine WL.nil ?_ | refine WN.then_normal ?_ | refine WC.skip ?_))
    refine WL.call (g := 145) Tryz.call145 rfl (fun w _ => fields_c b w) rfl fun v B hv => ?_
    obtain ⟨c, q, rfl, rfl⟩ := hv
    simp only [List.cons_append, List.nil_append]
    (repeat (first | refine WL.step (Yl.move rfl) rfl ?_ | refine WL.step (Yl.len (t := 202) Tryz.underlying202 rfl) rfl ?_ | refine WL.nil ?_ | refine WN.then_normal ?_ | refine WC.block ?_))
    refine WC.loop (α := Nat × Option Addr × Nat) (fun g => [(1, .pointer (some ⟨b, 0, none⟩)), (5, .slice g.2.1 (hdN KD TX IX NO g.1).length g.2.2), (17, .slice (some ⟨q, 0, none⟩) 4 4), (18, .int .i64 4), (19, .int .i64 (g.1 : Int))])
      (fun g => [.row g.2.1 g.2.2 5 1 (bs (hdN KD TX IX NO g.1)), .row (some ⟨q, 0, none⟩) 4 206 2 (fcells c), .blk c (.cells #[.pointer (some ⟨b, 0, none⟩)] 237 (0, 0)), .blk b (.cells #[.int .i64 (KD : Int), .int .i64 ep, .int .i64 (TX : Int), .int .i64 (IX : Int), .int .i64 (NO : Int), .slice a n cap] 121 (0, 0))])
      (fun g => g.1 ≤ 4 ∧ (hdN KD TX IX NO g.1).length ≤ g.2.2) (fun g => 4 - g.1) (0, none, 0) (by repeat (first | exact Sub.nil | refine Sub.cons rfl rfl ?_)) (.free (.cons .here (.cons .here (.cons .here .nil)))) ⟨by simp, by simp [hdN]⟩ ?_
    intro ⟨i, o, oc⟩ ⟨hi, hoc⟩
    simp only at hi hoc ⊢
    (repeat (first | refine WL.step (Yl.lss rfl rfl) rfl ?_ | refine WC.seq ?_ | refine WC.region ?_ | refine WL.nil ?_ | refine WN.then_normal ?_))
    refine WC.ite rfl (fun h1 => ?_) (fun h1 => ?_)
    · rcases (show i = 0 ∨ i = 1 ∨ i = 2 ∨ i = 3 by omega) with rfl | rfl | rfl | rfl
      · have hlen := hdN_le KD TX IX NO 0
        (repeat (first | (refine WL.k_load ?_; refine WL.step (Yl.loadAggRd (b := q) (off := 0) (vs := fcells c) (us := [.int .i64 1, .func (.func 180) #[] #[.pointer (some ⟨c, 0, none⟩)]]) Tryz.isAgg206 Tryz.sizeOf206 rfl (Rd.row (by repeat (first | exact .head _ | refine .tail _ ?_))) rfl rfl) rfl ?_) | (refine WL.k_idxa ?_; refine WL.step (Yl.indexAddr (t := 202) (k := 2) (j := 0) Tryz.underlying202 Tryz.sizeOf206 rfl rfl (Rd.row (by repeat (first | exact .head _ | refine .tail _ ?_))) (by unfold fcells; exact List.cons_ne_nil _ _) (by decide)) rfl ?_) | refine WC.seq ?_ | refine WC.region ?_ | refine WN.then_normal ?_ | refine WC.block ?_ | refine WC.skip ?_))
        refine WL.allocA Tryz.zeroValue206 rfl fun m => ?_
        refine WL.storeWhole (T := 206) (k := 2) Tryz.sizeOf206 rfl rfl rfl .here rfl rfl ?_
        (repeat (first | refine WL.nil ?_ | refine WN.then_normal ?_))
        refine WC.regionH [.blk m (.cells #[.int .i64 1, .func (.func 180) #[] #[.pointer (some ⟨c, 0, none⟩)]] 206 (0, 0)), .blk b (.cells #[.int .i64 (KD : Int), .int .i64 ep, .int .i64 (TX : Int), .int .i64 (IX : Int), .int .i64 (NO : Int), .slice a n cap] 121 (0, 0))] (by kernel_rfl) ?_
        (refine WH.order [0, 1, 2, 7, 8] (by repeat (first | exact Part.nil | refine Part.cons (by repeat (first | exact Pick.here | apply Pick.there)) ?_ | refine Part.free ?_)) (by kernel_rfl) ?_; (repeat (first | (refine WT.k_move rfl ?_; refine WT.take rfl rfl (fun _ _ _ h => h) (Yl.move rfl) rfl (by kernel_rfl) (by kernel_rfl) ?_) | (refine WT.k_load rfl ?_; first | refine WT.take rfl rfl (fun _ _ _ h => h) (Yl.loadBlk (T := 204) Tryz.isAgg204 rfl (by repeat (first | exact .head _ | refine .tail _ ?_)) (by rfl)) rfl (by kernel_rfl) (by kernel_rfl) ?_ | refine WT.take rfl rfl (fun _ _ _ h => h) (Yl.loadBlk (T := 3) Tryz.isAgg3 rfl (by repeat (first | exact .head _ | refine .tail _ ?_)) (by rfl)) rfl (by kernel_rfl) (by kernel_rfl) ?_) | (refine WT.k_fld rfl ?_; refine WT.take rfl rfl (fun _ _ _ h => h) (Yl.fld0 (t := 206) Tryz.underlying206 fl206 rfl rfl) rfl (by kernel_rfl) (by kernel_rfl) ?_))); refine WT.nil ?_)
        refine WH.only (i := 3) (by kernel_rfl) rfl ?_
        refine WL.callFV (g := 180) Tryz.call180 rfl rfl (fun w s => field1_c c b w (Rd.lit (vs := [.pointer (some ⟨b, 0, none⟩)]) (by repeat (first | exact .head _ | refine .tail _ ?_)) w s)) rfl ?_
        refine WL.nil (WN.nextH (.cons (by repeat (first | exact Pick.here | apply Pick.there)) (.cons (by repeat (first | exact Pick.here | apply Pick.there)) .nil)) ?_)
        (refine WH.order [4, 5, 6] (by repeat (first | exact Part.nil | refine Part.cons (by repeat (first | exact Pick.here | apply Pick.there)) ?_ | refine Part.free ?_)) (by kernel_rfl) ?_; (repeat (first | (refine WT.k_load rfl ?_; refine WT.take rfl rfl (fun _ _ _ h => h) (Yl.loadBlk (T := 3) Tryz.isAgg3 rfl (by repeat (first | exact .head _ | refine .tail _ ?_)) (by rfl)) rfl (by kernel_rfl) (by kernel_rfl) ?_) | (refine WT.k_nilc rfl ?_; refine WT.take rfl rfl (fun _ _ _ h => h) (Yl.nilCheck rfl) rfl (by kernel_rfl) (by kernel_rfl) ?_) | (refine WT.k_conv rfl ?_; refine WT.take rfl rfl (fun _ _ _ h => h) (Yl.convLt (s := 3) (t := 49) Tryz.underlying3 Tryz.underlying49 rfl rfl (by show _ < 18446744073709551616; omega)) rfl (by kernel_rfl) (by kernel_rfl) ?_))); refine WT.nil ?_)
        refine WH.only (i := 9) (by kernel_rfl) rfl ?_
        refine WL.callR (g := 146) Tryz.call146 rfl (fun w s => append_v o _ oc (hdN KD TX IX NO 0) (Big.be 1 KD) KD 0 1 w rfl (by omega) (by omega) (Rd.row (by repeat (first | exact .head _ | refine .tail _ ?_)) w s) (appFits (W := 1) (by decide) (by omega))) rfl fun p hp => ?_
        refine WL.nil (WN.nextH (.cons (by repeat (first | exact Pick.here | apply Pick.there)) (.cons (by repeat (first | exact Pick.here | apply Pick.there)) .nil)) ?_)
        (refine WH.order [10, 11, 12, 13] (by repeat (first | exact Part.nil | refine Part.cons (by repeat (first | exact Pick.here | apply Pick.there)) ?_ | refine Part.free ?_)) (by kernel_rfl) ?_; (repeat (first | (refine WT.k_move rfl ?_; refine WT.take rfl rfl (fun _ _ _ h => h) (Yl.move rfl) rfl (by kernel_rfl) (by kernel_rfl) ?_) | (refine WT.k_assign rfl ?_; refine WT.take rfl rfl (fun _ _ _ h => h) (Yl.assign rfl) rfl (by kernel_rfl) (by kernel_rfl) ?_) | (refine WT.k_extract rfl ?_; refine WT.take rfl rfl (fun _ _ _ h => h) (Yl.extract rfl rfl) rfl (by kernel_rfl) (by kernel_rfl) ?_))); refine WT.nil ?_)
        refine WH.done (by kernel_rfl) ?_
        (repeat (first | refine WL.step (Yl.move rfl) rfl ?_ | (refine WL.k_bin .add ?_; refine WL.step (Yl.add64C rfl (by omega)) rfl ?_) | refine WC.region ?_ | refine WL.nil ?_ | refine WN.then_normal ?_ | refine WN.block_normal ?_))
        exact WN.next (1, p) ⟨by simp, hp⟩ (by simp) (by repeat (first | exact Sub.nil | refine Sub.cons rfl rfl ?_)) (.cons (by repeat (first | exact Pick.here | apply Pick.there)) (.cons (by repeat (first | exact Pick.here | apply Pick.there)) (.cons (by repeat (first | exact Pick.here | apply Pick.there)) (.cons (by repeat (first | exact Pick.here | apply Pick.there)) .nil))))
      · have hlen := hdN_le KD TX IX NO 1
        (repeat (first | (refine WL.k_load ?_; refine WL.step (Yl.loadAggRd (b := q) (off := 2) (vs := fcells c) (us := [.int .i64 4, .func (.func 181) #[] #[.pointer (some ⟨c, 0, none⟩)]]) Tryz.isAgg206 Tryz.sizeOf206 rfl (Rd.row (by repeat (first | exact .head _ | refine .tail _ ?_))) rfl rfl) rfl ?_) | (refine WL.k_idxa ?_; refine WL.step (Yl.indexAddr (t := 202) (k := 2) (j := 1) Tryz.underlying202 Tryz.sizeOf206 rfl rfl (Rd.row (by repeat (first | exact .head _ | refine .tail _ ?_))) (by unfold fcells; exact List.cons_ne_nil _ _) (by decide)) rfl ?_) | refine WC.seq ?_ | refine WC.region ?_ | refine WN.then_normal ?_ | refine WC.block ?_ | refine WC.skip ?_))
        refine WL.allocA Tryz.zeroValue206 rfl fun m => ?_
        refine WL.storeWhole (T := 206) (k := 2) Tryz.sizeOf206 rfl rfl rfl .here rfl rfl ?_
        (repeat (first | refine WL.nil ?_ | refine WN.then_normal ?_))
        refine WC.regionH [.blk m (.cells #[.int .i64 4, .func (.func 181) #[] #[.pointer (some ⟨c, 0, none⟩)]] 206 (0, 0)), .blk b (.cells #[.int .i64 (KD : Int), .int .i64 ep, .int .i64 (TX : Int), .int .i64 (IX : Int), .int .i64 (NO : Int), .slice a n cap] 121 (0, 0))] (by kernel_rfl) ?_
        (refine WH.order [0, 1, 2, 7, 8] (by repeat (first | exact Part.nil | refine Part.cons (by repeat (first | exact Pick.here | apply Pick.there)) ?_ | refine Part.free ?_)) (by kernel_rfl) ?_; (repeat (first | (refine WT.k_move rfl ?_; refine WT.take rfl rfl (fun _ _ _ h => h) (Yl.move rfl) rfl (by kernel_rfl) (by kernel_rfl) ?_) | (refine WT.k_load rfl ?_; first | refine WT.take rfl rfl (fun _ _ _ h => h) (Yl.loadBlk (T := 204) Tryz.isAgg204 rfl (by repeat (first | exact .head _ | refine .tail _ ?_)) (by rfl)) rfl (by kernel_rfl) (by kernel_rfl) ?_ | refine WT.take rfl rfl (fun _ _ _ h => h) (Yl.loadBlk (T := 3) Tryz.isAgg3 rfl (by repeat (first | exact .head _ | refine .tail _ ?_)) (by rfl)) rfl (by kernel_rfl) (by kernel_rfl) ?_) | (refine WT.k_fld rfl ?_; refine WT.take rfl rfl (fun _ _ _ h => h) (Yl.fld0 (t := 206) Tryz.underlying206 fl206 rfl rfl) rfl (by kernel_rfl) (by kernel_rfl) ?_))); refine WT.nil ?_)
        refine WH.only (i := 3) (by kernel_rfl) rfl ?_
        refine WL.callFV (g := 181) Tryz.call181 rfl rfl (fun w s => field2_c c b w (Rd.lit (vs := [.pointer (some ⟨b, 0, none⟩)]) (by repeat (first | exact .head _ | refine .tail _ ?_)) w s)) rfl ?_
        refine WL.nil (WN.nextH (.cons (by repeat (first | exact Pick.here | apply Pick.there)) (.cons (by repeat (first | exact Pick.here | apply Pick.there)) .nil)) ?_)
        (refine WH.order [4, 5, 6] (by repeat (first | exact Part.nil | refine Part.cons (by repeat (first | exact Pick.here | apply Pick.there)) ?_ | refine Part.free ?_)) (by kernel_rfl) ?_; (repeat (first | (refine WT.k_load rfl ?_; refine WT.take rfl rfl (fun _ _ _ h => h) (Yl.loadBlk (T := 3) Tryz.isAgg3 rfl (by repeat (first | exact .head _ | refine .tail _ ?_)) (by rfl)) rfl (by kernel_rfl) (by kernel_rfl) ?_) | (refine WT.k_nilc rfl ?_; refine WT.take rfl rfl (fun _ _ _ h => h) (Yl.nilCheck rfl) rfl (by kernel_rfl) (by kernel_rfl) ?_) | (refine WT.k_conv rfl ?_; refine WT.take rfl rfl (fun _ _ _ h => h) (Yl.convLt (s := 3) (t := 49) Tryz.underlying3 Tryz.underlying49 rfl rfl (by show _ < 18446744073709551616; omega)) rfl (by kernel_rfl) (by kernel_rfl) ?_))); refine WT.nil ?_)
        refine WH.only (i := 9) (by kernel_rfl) rfl ?_
        refine WL.callR (g := 146) Tryz.call146 rfl (fun w s => append_v o _ oc (hdN KD TX IX NO 1) (Big.be 1 KD ++ Big.be 4 TX) TX 0 4 w rfl (by omega) (by omega) (Rd.row (by repeat (first | exact .head _ | refine .tail _ ?_)) w s) (appFits (W := 4) (by decide) (by omega))) rfl fun p hp => ?_
        refine WL.nil (WN.nextH (.cons (by repeat (first | exact Pick.here | apply Pick.there)) (.cons (by repeat (first | exact Pick.here | apply Pick.there)) .nil)) ?_)
        (refine WH.order [10, 11, 12, 13] (by repeat (first | exact Part.nil | refine Part.cons (by repeat (first | exact Pick.here | apply Pick.there)) ?_ | refine Part.free ?_)) (by kernel_rfl) ?_; (repeat (first | (refine WT.k_move rfl ?_; refine WT.take rfl rfl (fun _ _ _ h => h) (Yl.move rfl) rfl (by kernel_rfl) (by kernel_rfl) ?_) | (refine WT.k_assign rfl ?_; refine WT.take rfl rfl (fun _ _ _ h => h) (Yl.assign rfl) rfl (by kernel_rfl) (by kernel_rfl) ?_) | (refine WT.k_extract rfl ?_; refine WT.take rfl rfl (fun _ _ _ h => h) (Yl.extract rfl rfl) rfl (by kernel_rfl) (by kernel_rfl) ?_))); refine WT.nil ?_)
        refine WH.done (by kernel_rfl) ?_
        (repeat (first | refine WL.step (Yl.move rfl) rfl ?_ | (refine WL.k_bin .add ?_; refine WL.step (Yl.add64C rfl (by omega)) rfl ?_) | refine WC.region ?_ | refine WL.nil ?_ | refine WN.then_normal ?_ | refine WN.block_normal ?_))
        exact WN.next (2, p) ⟨by simp, hp⟩ (by simp) (by repeat (first | exact Sub.nil | refine Sub.cons rfl rfl ?_)) (.cons (by repeat (first | exact Pick.here | apply Pick.there)) (.cons (by repeat (first | exact Pick.here | apply Pick.there)) (.cons (by repeat (first | exact Pick.here | apply Pick.there)) (.cons (by repeat (first | exact Pick.here | apply Pick.there)) .nil))))
      · have hlen := hdN_le KD TX IX NO 2
        (repeat (first | (refine WL.k_load ?_; refine WL.step (Yl.loadAggRd (b := q) (off := 4) (vs := fcells c) (us := [.int .i64 2, .func (.func 182) #[] #[.pointer (some ⟨c, 0, none⟩)]]) Tryz.isAgg206 Tryz.sizeOf206 rfl (Rd.row (by repeat (first | exact .head _ | refine .tail _ ?_))) rfl rfl) rfl ?_) | (refine WL.k_idxa ?_; refine WL.step (Yl.indexAddr (t := 202) (k := 2) (j := 2) Tryz.underlying202 Tryz.sizeOf206 rfl rfl (Rd.row (by repeat (first | exact .head _ | refine .tail _ ?_))) (by unfold fcells; exact List.cons_ne_nil _ _) (by decide)) rfl ?_) | refine WC.seq ?_ | refine WC.region ?_ | refine WN.then_normal ?_ | refine WC.block ?_ | refine WC.skip ?_))
        refine WL.allocA Tryz.zeroValue206 rfl fun m => ?_
        refine WL.storeWhole (T := 206) (k := 2) Tryz.sizeOf206 rfl rfl rfl .here rfl rfl ?_
        (repeat (first | refine WL.nil ?_ | refine WN.then_normal ?_))
        refine WC.regionH [.blk m (.cells #[.int .i64 2, .func (.func 182) #[] #[.pointer (some ⟨c, 0, none⟩)]] 206 (0, 0)), .blk b (.cells #[.int .i64 (KD : Int), .int .i64 ep, .int .i64 (TX : Int), .int .i64 (IX : Int), .int .i64 (NO : Int), .slice a n cap] 121 (0, 0))] (by kernel_rfl) ?_
        (refine WH.order [0, 1, 2, 7, 8] (by repeat (first | exact Part.nil | refine Part.cons (by repeat (first | exact Pick.here | apply Pick.there)) ?_ | refine Part.free ?_)) (by kernel_rfl) ?_; (repeat (first | (refine WT.k_move rfl ?_; refine WT.take rfl rfl (fun _ _ _ h => h) (Yl.move rfl) rfl (by kernel_rfl) (by kernel_rfl) ?_) | (refine WT.k_load rfl ?_; first | refine WT.take rfl rfl (fun _ _ _ h => h) (Yl.loadBlk (T := 204) Tryz.isAgg204 rfl (by repeat (first | exact .head _ | refine .tail _ ?_)) (by rfl)) rfl (by kernel_rfl) (by kernel_rfl) ?_ | refine WT.take rfl rfl (fun _ _ _ h => h) (Yl.loadBlk (T := 3) Tryz.isAgg3 rfl (by repeat (first | exact .head _ | refine .tail _ ?_)) (by rfl)) rfl (by kernel_rfl) (by kernel_rfl) ?_) | (refine WT.k_fld rfl ?_; refine WT.take rfl rfl (fun _ _ _ h => h) (Yl.fld0 (t := 206) Tryz.underlying206 fl206 rfl rfl) rfl (by kernel_rfl) (by kernel_rfl) ?_))); refine WT.nil ?_)
        refine WH.only (i := 3) (by kernel_rfl) rfl ?_
        refine WL.callFV (g := 182) Tryz.call182 rfl rfl (fun w s => field3_c c b w (Rd.lit (vs := [.pointer (some ⟨b, 0, none⟩)]) (by repeat (first | exact .head _ | refine .tail _ ?_)) w s)) rfl ?_
        refine WL.nil (WN.nextH (.cons (by repeat (first | exact Pick.here | apply Pick.there)) (.cons (by repeat (first | exact Pick.here | apply Pick.there)) .nil)) ?_)
        (refine WH.order [4, 5, 6] (by repeat (first | exact Part.nil | refine Part.cons (by repeat (first | exact Pick.here | apply Pick.there)) ?_ | refine Part.free ?_)) (by kernel_rfl) ?_; (repeat (first | (refine WT.k_load rfl ?_; refine WT.take rfl rfl (fun _ _ _ h => h) (Yl.loadBlk (T := 3) Tryz.isAgg3 rfl (by repeat (first | exact .head _ | refine .tail _ ?_)) (by rfl)) rfl (by kernel_rfl) (by kernel_rfl) ?_) | (refine WT.k_nilc rfl ?_; refine WT.take rfl rfl (fun _ _ _ h => h) (Yl.nilCheck rfl) rfl (by kernel_rfl) (by kernel_rfl) ?_) | (refine WT.k_conv rfl ?_; refine WT.take rfl rfl (fun _ _ _ h => h) (Yl.convLt (s := 3) (t := 49) Tryz.underlying3 Tryz.underlying49 rfl rfl (by show _ < 18446744073709551616; omega)) rfl (by kernel_rfl) (by kernel_rfl) ?_))); refine WT.nil ?_)
        refine WH.only (i := 9) (by kernel_rfl) rfl ?_
        refine WL.callR (g := 146) Tryz.call146 rfl (fun w s => append_v o _ oc (hdN KD TX IX NO 2) (Big.be 1 KD ++ Big.be 4 TX ++ Big.be 2 IX) IX 0 2 w rfl (by omega) (by omega) (Rd.row (by repeat (first | exact .head _ | refine .tail _ ?_)) w s) (appFits (W := 2) (by decide) (by omega))) rfl fun p hp => ?_
        refine WL.nil (WN.nextH (.cons (by repeat (first | exact Pick.here | apply Pick.there)) (.cons (by repeat (first | exact Pick.here | apply Pick.there)) .nil)) ?_)
        (refine WH.order [10, 11, 12, 13] (by repeat (first | exact Part.nil | refine Part.cons (by repeat (first | exact Pick.here | apply Pick.there)) ?_ | refine Part.free ?_)) (by kernel_rfl) ?_; (repeat (first | (refine WT.k_move rfl ?_; refine WT.take rfl rfl (fun _ _ _ h => h) (Yl.move rfl) rfl (by kernel_rfl) (by kernel_rfl) ?_) | (refine WT.k_assign rfl ?_; refine WT.take rfl rfl (fun _ _ _ h => h) (Yl.assign rfl) rfl (by kernel_rfl) (by kernel_rfl) ?_) | (refine WT.k_extract rfl ?_; refine WT.take rfl rfl (fun _ _ _ h => h) (Yl.extract rfl rfl) rfl (by kernel_rfl) (by kernel_rfl) ?_))); refine WT.nil ?_)
        refine WH.done (by kernel_rfl) ?_
        (repeat (first | refine WL.step (Yl.move rfl) rfl ?_ | (refine WL.k_bin .add ?_; refine WL.step (Yl.add64C rfl (by omega)) rfl ?_) | refine WC.region ?_ | refine WL.nil ?_ | refine WN.then_normal ?_ | refine WN.block_normal ?_))
        exact WN.next (3, p) ⟨by simp, hp⟩ (by simp) (by repeat (first | exact Sub.nil | refine Sub.cons rfl rfl ?_)) (.cons (by repeat (first | exact Pick.here | apply Pick.there)) (.cons (by repeat (first | exact Pick.here | apply Pick.there)) (.cons (by repeat (first | exact Pick.here | apply Pick.there)) (.cons (by repeat (first | exact Pick.here | apply Pick.there)) .nil))))
      · have hlen := hdN_le KD TX IX NO 3
        (repeat (first | (refine WL.k_load ?_; refine WL.step (Yl.loadAggRd (b := q) (off := 6) (vs := fcells c) (us := [.int .i64 4, .func (.func 183) #[] #[.pointer (some ⟨c, 0, none⟩)]]) Tryz.isAgg206 Tryz.sizeOf206 rfl (Rd.row (by repeat (first | exact .head _ | refine .tail _ ?_))) rfl rfl) rfl ?_) | (refine WL.k_idxa ?_; refine WL.step (Yl.indexAddr (t := 202) (k := 2) (j := 3) Tryz.underlying202 Tryz.sizeOf206 rfl rfl (Rd.row (by repeat (first | exact .head _ | refine .tail _ ?_))) (by unfold fcells; exact List.cons_ne_nil _ _) (by decide)) rfl ?_) | refine WC.seq ?_ | refine WC.region ?_ | refine WN.then_normal ?_ | refine WC.block ?_ | refine WC.skip ?_))
        refine WL.allocA Tryz.zeroValue206 rfl fun m => ?_
        refine WL.storeWhole (T := 206) (k := 2) Tryz.sizeOf206 rfl rfl rfl .here rfl rfl ?_
        (repeat (first | refine WL.nil ?_ | refine WN.then_normal ?_))
        refine WC.regionH [.blk m (.cells #[.int .i64 4, .func (.func 183) #[] #[.pointer (some ⟨c, 0, none⟩)]] 206 (0, 0)), .blk b (.cells #[.int .i64 (KD : Int), .int .i64 ep, .int .i64 (TX : Int), .int .i64 (IX : Int), .int .i64 (NO : Int), .slice a n cap] 121 (0, 0))] (by kernel_rfl) ?_
        (refine WH.order [0, 1, 2, 7, 8] (by repeat (first | exact Part.nil | refine Part.cons (by repeat (first | exact Pick.here | apply Pick.there)) ?_ | refine Part.free ?_)) (by kernel_rfl) ?_; (repeat (first | (refine WT.k_move rfl ?_; refine WT.take rfl rfl (fun _ _ _ h => h) (Yl.move rfl) rfl (by kernel_rfl) (by kernel_rfl) ?_) | (refine WT.k_load rfl ?_; first | refine WT.take rfl rfl (fun _ _ _ h => h) (Yl.loadBlk (T := 204) Tryz.isAgg204 rfl (by repeat (first | exact .head _ | refine .tail _ ?_)) (by rfl)) rfl (by kernel_rfl) (by kernel_rfl) ?_ | refine WT.take rfl rfl (fun _ _ _ h => h) (Yl.loadBlk (T := 3) Tryz.isAgg3 rfl (by repeat (first | exact .head _ | refine .tail _ ?_)) (by rfl)) rfl (by kernel_rfl) (by kernel_rfl) ?_) | (refine WT.k_fld rfl ?_; refine WT.take rfl rfl (fun _ _ _ h => h) (Yl.fld0 (t := 206) Tryz.underlying206 fl206 rfl rfl) rfl (by kernel_rfl) (by kernel_rfl) ?_))); refine WT.nil ?_)
        refine WH.only (i := 3) (by kernel_rfl) rfl ?_
        refine WL.callFV (g := 183) Tryz.call183 rfl rfl (fun w s => field4_c c b w (Rd.lit (vs := [.pointer (some ⟨b, 0, none⟩)]) (by repeat (first | exact .head _ | refine .tail _ ?_)) w s)) rfl ?_
        refine WL.nil (WN.nextH (.cons (by repeat (first | exact Pick.here | apply Pick.there)) (.cons (by repeat (first | exact Pick.here | apply Pick.there)) .nil)) ?_)
        (refine WH.order [4, 5, 6] (by repeat (first | exact Part.nil | refine Part.cons (by repeat (first | exact Pick.here | apply Pick.there)) ?_ | refine Part.free ?_)) (by kernel_rfl) ?_; (repeat (first | (refine WT.k_load rfl ?_; refine WT.take rfl rfl (fun _ _ _ h => h) (Yl.loadBlk (T := 3) Tryz.isAgg3 rfl (by repeat (first | exact .head _ | refine .tail _ ?_)) (by rfl)) rfl (by kernel_rfl) (by kernel_rfl) ?_) | (refine WT.k_nilc rfl ?_; refine WT.take rfl rfl (fun _ _ _ h => h) (Yl.nilCheck rfl) rfl (by kernel_rfl) (by kernel_rfl) ?_) | (refine WT.k_conv rfl ?_; refine WT.take rfl rfl (fun _ _ _ h => h) (Yl.convLt (s := 3) (t := 49) Tryz.underlying3 Tryz.underlying49 rfl rfl (by show _ < 18446744073709551616; omega)) rfl (by kernel_rfl) (by kernel_rfl) ?_))); refine WT.nil ?_)
        refine WH.only (i := 9) (by kernel_rfl) rfl ?_
        refine WL.callR (g := 146) Tryz.call146 rfl (fun w s => append_v o _ oc (hdN KD TX IX NO 3) (Frm.head KD TX IX NO) NO 0 4 w rfl (by omega) (by omega) (Rd.row (by repeat (first | exact .head _ | refine .tail _ ?_)) w s) (appFits (W := 4) (by decide) (by omega))) rfl fun p hp => ?_
        refine WL.nil (WN.nextH (.cons (by repeat (first | exact Pick.here | apply Pick.there)) (.cons (by repeat (first | exact Pick.here | apply Pick.there)) .nil)) ?_)
        (refine WH.order [10, 11, 12, 13] (by repeat (first | exact Part.nil | refine Part.cons (by repeat (first | exact Pick.here | apply Pick.there)) ?_ | refine Part.free ?_)) (by kernel_rfl) ?_; (repeat (first | (refine WT.k_move rfl ?_; refine WT.take rfl rfl (fun _ _ _ h => h) (Yl.move rfl) rfl (by kernel_rfl) (by kernel_rfl) ?_) | (refine WT.k_assign rfl ?_; refine WT.take rfl rfl (fun _ _ _ h => h) (Yl.assign rfl) rfl (by kernel_rfl) (by kernel_rfl) ?_) | (refine WT.k_extract rfl ?_; refine WT.take rfl rfl (fun _ _ _ h => h) (Yl.extract rfl rfl) rfl (by kernel_rfl) (by kernel_rfl) ?_))); refine WT.nil ?_)
        refine WH.done (by kernel_rfl) ?_
        (repeat (first | refine WL.step (Yl.move rfl) rfl ?_ | (refine WL.k_bin .add ?_; refine WL.step (Yl.add64C rfl (by omega)) rfl ?_) | refine WC.region ?_ | refine WL.nil ?_ | refine WN.then_normal ?_ | refine WN.block_normal ?_))
        exact WN.next (4, p) ⟨by simp, hp⟩ (by simp) (by repeat (first | exact Sub.nil | refine Sub.cons rfl rfl ?_)) (.cons (by repeat (first | exact Pick.here | apply Pick.there)) (.cons (by repeat (first | exact Pick.here | apply Pick.there)) (.cons (by repeat (first | exact Pick.here | apply Pick.there)) (.cons (by repeat (first | exact Pick.here | apply Pick.there)) .nil))))
    · obtain rfl : i = 4 := by omega
      have hoc' : 11 ≤ oc := by rw [← hhd]; exact hoc
      (repeat (first | refine WL.step (Yl.move rfl) rfl ?_ | (refine WL.k_load ?_; refine WL.step (Yl.loadBlk (T := 23) Tryz.isAgg23 rfl (by repeat (first | exact .head _ | refine .tail _ ?_)) (by rfl)) rfl ?_) | refine WL.step (Yl.fld0 (t := 121) Tryz.underlying121 fl121 rfl rfl) rfl ?_ | refine WC.seq ?_ | refine WC.region ?_ | refine WN.then_normal ?_ | refine WC.exit ?_ | refine WN.then_exit ?_ | refine WN.block_here ?_))
      refine WL.appendRow (t := 23) (n := 11) (olds := bs (Frm.head KD TX IX NO)) Tryz.underlying23 elemU8 (by rw [← hhd]; rfl) rfl .here (by rw [bs_length, hhd]) hoc' (Rd.old hr) (by rw [bs_length]; omega) (bs_one _) (by omega) (by simp only [maxLen]; omega) rfl fun p1 hp1 => ?_
      rw [← bs_append]
      refine WL.callR (g := 147) Tryz.call147 rfl (fun w s => seal_c p1.1 (11 + n) p1.2 (Frm.head KD TX IX NO ++ dt) w (by rw [List.length_append, hhd, hl]) hp1 (by omega) (Rd.row (by repeat (first | exact .head _ | refine .tail _ ?_)) w s)) rfl fun p2 hp2 => ?_
      rw [hpay]
      have hpl2 : (Frm.payload KD TX IX NO dt).length = 11 + n + 4 := by rw [hpl, hl]; omega
      generalize Frm.payload KD TX IX NO dt = P at *
      rw [← hpl2] at hp2 ⊢
      (repeat (first | refine WL.step (Yl.move rfl) rfl ?_ | refine WL.step (Yl.assign rfl) rfl ?_ | (refine WL.k_load ?_; first | refine WL.step (Yl.loadBlk (T := 3) Tryz.isAgg3 rfl (by repeat (first | exact .head _ | refine .tail _ ?_)) (by rfl)) rfl ?_ | refine WL.step (Yl.loadRd (T := 3) (v := .int .i64 (S : Int)) Tryz.isAgg3 rfl (Rd.old hT) hsec) rfl ?_) | (refine WL.k_fld ?_; first | refine WL.step (Yl.fld0 (t := 121) Tryz.underlying121 fl121 rfl rfl) rfl ?_ | refine WL.step (Yl.fldAt (t := 211) Tryz.underlying211 fl211 rfl rfl) rfl ?_) | (refine WL.k_idxa ?_; refine WL.step (Yl.indexArr (t := 212) (j := KD) Tryz.underlying212 Tryz.sizeOf211 rfl rfl (by omega)) rfl ?_) | refine WC.seq ?_ | refine WC.region ?_ | refine WL.nil ?_ | refine WN.then_normal ?_ | refine WC.block ?_))
      refine WC.loop (α := Nat × (Option Addr × Nat) × (Option Addr × Nat)) (fun g => [(1, .pointer (some ⟨b, 0, none⟩)), (5, .slice g.2.1.1 (P.drop (112 * g.1)).length g.2.1.2), (8, .slice g.2.2.1 (128 * g.1) g.2.2.2), (46, .int .i64 (S : Int)), (47, .int .i64 (g.1 : Int))])
        (fun g => [.row g.2.2.1 g.2.2.2 5 1 (bs (Frm.chunks ep P g.1)), .row p2.1 p2.2 5 1 (bs P), .blk b (.cells #[.int .i64 (KD : Int), .int .i64 ep, .int .i64 (TX : Int), .int .i64 (IX : Int), .int .i64 (NO : Int), .slice a n cap] 121 (0, 0))])
        (fun g => g.1 ≤ S ∧ (P.drop (112 * g.1)).length ≤ g.2.1.2 ∧ 128 * g.1 ≤ g.2.2.2 ∧ Rd ⟨Tryz.prog, 72, w, []⟩ [.row p2.1 p2.2 5 1 (bs P), .blk b (.cells #[.int .i64 (KD : Int), .int .i64 ep, .int .i64 (TX : Int), .int .i64 (IX : Int), .int .i64 (NO : Int), .slice a n cap] 121 (0, 0))] g.2.1.1 (bs (P.drop (112 * g.1)))) (fun g => S - g.1) (0, p2, (none, 0))
        (.cons rfl rfl (.cons rfl rfl (.cons rfl rfl (.cons rfl rfl (.cons rfl rfl .nil))))) (by rw [Frm.chunks_zero]; exact .free (.cons (by repeat (first | exact Pick.here | apply Pick.there)) (.cons (by repeat (first | exact Pick.here | apply Pick.there)) .nil))) ⟨by simp, by simpa using hp2, by simp, by simp only [Nat.mul_zero, List.drop_zero]; exact Rd.row (.head _)⟩ ?_
      intro ⟨j, ⟨o2, oc2⟩, ⟨u, uc⟩⟩ ⟨hj, hoc2, huc, hRd⟩
      simp only at hj hoc2 huc hRd ⊢
      have hcl := Frm.chunks_length ep P j
      have hcl1 : Frm.chunks ep P (j + 1) = Frm.chunks ep P j ++ Frm.stamp ep ((P.drop (112 * j)).take 112) := Frm.chunks_succ ep P j
      have hstep := drop_step P j
      have htake := take_step (P.drop (112 * j))
      have hrl : (P.drop (112 * j)).length ≤ 527 := by rw [List.length_drop]; omega
      (repeat (first | refine WL.step (Yl.lss rfl rfl) rfl ?_ | refine WC.seq ?_ | refine WC.region ?_ | refine WL.nil ?_ | refine WN.then_normal ?_))
      refine WC.ite rfl (fun h2 => ?_) (fun h2 => ?_)
      · have hst : Frm.stamped ep ((P.drop (112 * j)).take (min (P.drop (112 * j)).length 112)) = (0, Frm.stamp ep ((P.drop (112 * j)).take 112)) := by
          rw [htake]; exact if_pos ⟨he, by rw [List.length_take]; omega⟩
        have hsl := Frm.stamp_length (n := ep) (d := (P.drop (112 * j)).take 112) (by rw [List.length_take]; omega)
        have hcut : Rd ⟨Tryz.prog, 72, w, []⟩ [.row p2.1 p2.2 5 1 (bs P), .blk b (.cells #[.int .i64 (KD : Int), .int .i64 ep, .int .i64 (TX : Int), .int .i64 (IX : Int), .int .i64 (NO : Int), .slice a n cap] 121 (0, 0))] (cutA o2 0 oc2 1) (bs ((P.drop (112 * j)).take (min (P.drop (112 * j)).length 112))) := by
          have := Rd.cut (lo := 0) (cap := oc2) (k := 1) (m := min (P.drop (112 * j)).length 112) hRd (by rw [bs_length]; omega)
          rwa [Nat.zero_mul, List.drop_zero, ← bs_take] at this
        have hcut2 : Rd ⟨Tryz.prog, 72, w, []⟩ [.row p2.1 p2.2 5 1 (bs P), .blk b (.cells #[.int .i64 (KD : Int), .int .i64 ep, .int .i64 (TX : Int), .int .i64 (IX : Int), .int .i64 (NO : Int), .slice a n cap] 121 (0, 0))] (cutA o2 (min (P.drop (112 * j)).length 112) oc2 1) (bs (P.drop (112 * (j + 1)))) := by
          have := Rd.cut (lo := min (P.drop (112 * j)).length 112) (cap := oc2) (k := 1) (m := (P.drop (112 * j)).length) hRd (by rw [bs_length]; omega)
          rwa [Nat.mul_one, ← bs_drop, hstep, List.take_of_length_le (by rw [bs_length, ← hstep, List.length_drop]; omega)] at this
        have hl3 : (P.drop (112 * (j + 1))).length = (P.drop (112 * j)).length - min (P.drop (112 * j)).length 112 := by rw [← hstep, List.length_drop]
        have hl4 : ((P.drop (112 * j)).take (min (P.drop (112 * j)).length 112)).length = min (P.drop (112 * j)).length 112 := by rw [List.length_take]; omega
        clear hstep htake
        (repeat (first | refine WL.step (Yl.move rfl) rfl ?_ | refine WL.step (Yl.assign rfl) rfl ?_ | refine WL.step (Yl.min2N (n := 112) rfl rfl) rfl ?_ | refine WL.step (Yl.len (t := 23) Tryz.underlying23 rfl) rfl ?_ | refine WC.seq ?_ | refine WC.region ?_ | refine WL.nil ?_ | refine WN.then_normal ?_ | refine WC.block ?_ | refine WC.skip ?_))
        refine WC.regionH [.blk b (.cells #[.int .i64 (KD : Int), .int .i64 ep, .int .i64 (TX : Int), .int .i64 (IX : Int), .int .i64 (NO : Int), .slice a n cap] 121 (0, 0))] (by kernel_rfl) ?_
        (refine WH.order [0, 1, 2, 3, 4] (by repeat (first | exact Part.nil | refine Part.cons (by repeat (first | exact Pick.here | apply Pick.there)) ?_ | refine Part.free ?_)) (by kernel_rfl) ?_; (repeat (first | (refine WT.k_move rfl ?_; refine WT.take rfl rfl (fun _ _ _ h => h) (Yl.move rfl) rfl (by kernel_rfl) (by kernel_rfl) ?_) | (refine WT.k_load rfl ?_; refine WT.take rfl rfl (fun _ _ _ h => h) (Yl.loadBlk (T := 2) Tryz.isAgg2 rfl (by repeat (first | exact .head _ | refine .tail _ ?_)) (by rfl)) rfl (by kernel_rfl) (by kernel_rfl) ?_) | (refine WT.k_fld rfl ?_; refine WT.take rfl rfl (fun _ _ _ h => h) (Yl.fld0 (t := 121) Tryz.underlying121 fl121 rfl rfl) rfl (by kernel_rfl) (by kernel_rfl) ?_) | (refine WT.k_slice rfl ?_; refine WT.take rfl rfl (fun _ _ _ h => h) (Yl.cutTo (t := 23) Tryz.underlying23 Tryz.sizeOf5 rfl rfl (by omega)) rfl (by kernel_rfl) (by kernel_rfl) ?_))); refine WT.nil ?_)
        refine WH.only (i := 5) (by kernel_rfl) rfl ?_
        refine WL.callR (g := 148) Tryz.call148 rfl (fun w s => by have := stamp_c ep _ _ oc2 _ w hl4 (Rd.more hcut w s); rwa [hst] at this) rfl fun p5 hp5 => ?_
        refine WL.nil (WN.nextH (.cons (by repeat (first | exact Pick.here | apply Pick.there)) .nil) ?_)
        (refine WH.order [6, 7, 8, 9, 10] (by repeat (first | exact Part.nil | refine Part.cons (by repeat (first | exact Pick.here | apply Pick.there)) ?_ | refine Part.free ?_)) (by kernel_rfl) ?_; (repeat (first | (refine WT.k_move rfl ?_; refine WT.take rfl rfl (fun _ _ _ h => h) (Yl.move rfl) rfl (by kernel_rfl) (by kernel_rfl) ?_) | (refine WT.k_assign rfl ?_; refine WT.take rfl rfl (fun _ _ _ h => h) (Yl.assign rfl) rfl (by kernel_rfl) (by kernel_rfl) ?_) | (refine WT.k_extract rfl ?_; refine WT.take rfl rfl (fun _ _ _ h => h) (Yl.extract rfl rfl) rfl (by kernel_rfl) (by kernel_rfl) ?_))); refine WT.nil ?_)
        refine WH.done (by kernel_rfl) ?_
        (repeat (first | refine WL.step (Yl.move rfl) rfl ?_ | refine WL.step (Yl.neqF rfl rfl rfl) rfl ?_ | refine WC.seq ?_ | refine WC.region ?_ | refine WL.nil ?_ | refine WN.then_normal ?_))
        refine WC.cond_false rfl rfl ?_
        (repeat (first | refine WN.then_normal ?_ | refine WC.skip ?_))
        refine WC.regionH [] (by kernel_rfl) ?_
        (refine WH.order [0, 1, 3, 4, 5] (by repeat (first | exact Part.nil | refine Part.cons (by repeat (first | exact Pick.here | apply Pick.there)) ?_ | refine Part.free ?_)) (by kernel_rfl) ?_; (repeat (first | (refine WT.k_move rfl ?_; refine WT.take rfl rfl (fun _ _ _ h => h) (Yl.move rfl) rfl (by kernel_rfl) (by kernel_rfl) ?_) | (refine WT.k_slice rfl ?_; refine WT.take rfl rfl (fun _ _ _ h => h) (Yl.cutFrom (t := 23) Tryz.underlying23 Tryz.sizeOf5 rfl rfl (by omega)) rfl (by kernel_rfl) (by kernel_rfl) ?_))); refine WT.nil ?_)
        refine WH.only (i := 2) (by kernel_rfl) rfl ?_
        refine WL.appendRow (t := 23) (n := 128 * j) (m := 128) (olds := bs (Frm.chunks ep P j)) Tryz.underlying23 elemU8 rfl (by simp only [hsl]; rfl) (by repeat (first | exact Pick.here | apply Pick.there)) (by rw [bs_length, hcl]; omega) huc (Rd.row (.head _)) (by simp only [bs_length, hsl]) (bs_one _) (by omega) (by simp only [maxLen]; omega) rfl fun p6 hp6 => ?_
        rw [← bs_append, ← hcl1]
        refine WL.nil (WN.nextH .nil ?_)
        (refine WH.order [6, 7] (by repeat (first | exact Part.nil | refine Part.cons (by repeat (first | exact Pick.here | apply Pick.there)) ?_ | refine Part.free ?_)) (by kernel_rfl) ?_; (repeat (first | (refine WT.k_assign rfl ?_; refine WT.take rfl rfl (fun _ _ _ h => h) (Yl.assign rfl) rfl (by kernel_rfl) (by kernel_rfl) ?_))); refine WT.nil ?_)
        refine WH.done (by kernel_rfl) ?_
        (repeat (first | refine WL.step (Yl.move rfl) rfl ?_ | (refine WL.k_bin .add ?_; refine WL.step (Yl.add64C rfl (by omega)) rfl ?_) | refine WC.region ?_ | refine WL.nil ?_ | refine WN.then_normal ?_ | refine WN.block_normal ?_))
        exact WN.next (j + 1, (cutA o2 (min (P.drop (112 * j)).length 112) oc2 1, oc2 - min (P.drop (112 * j)).length 112), p6) ⟨by simp only; omega, by simp only; omega, by simp only; omega, hcut2⟩ (by simp only; omega)
          (.cons rfl rfl (.cons rfl (by simp only [hl3]) (.cons rfl rfl (.cons rfl rfl (.cons rfl rfl .nil))))) (.cons (by repeat (first | exact Pick.here | apply Pick.there)) (.cons (by repeat (first | exact Pick.here | apply Pick.there)) (.cons (by repeat (first | exact Pick.here | apply Pick.there)) .nil)))
      · obtain rfl : j = S := by omega
        (repeat (first | refine WL.step (Yl.move rfl) rfl ?_ | refine WL.step (Yl.assign rfl) rfl ?_ | refine WC.seq ?_ | refine WC.region ?_ | refine WL.nil ?_ | refine WN.then_normal ?_ | refine WC.exit ?_ | refine WC.ret ?_ | refine WN.then_exit ?_ | refine WN.block_here ?_))
        exact WN.ret2 rfl rfl rfl ⟨u, uc, by rw [hcl]; exact huc, by rw [hcl]; rfl, rfl⟩ (.cons .here .nil)
  · have e : Frm.enc kd ep tx ix no dt = (2, []) := if_neg (by rw [hl]; exact hok)
    rw [e]
    (repeat (first | refine WL.step (Yl.move rfl) rfl ?_ | refine WL.step (Yl.assign rfl) rfl ?_ | refine WL.step (Yl.loadAll (T := 121) Tryz.isAgg121 Tryz.sizeOf121 rfl (.head _) rfl) rfl ?_ | (refine WL.k_call 144 ?_; refine WL.callV (g := 144) (v := .int .i64 2) Tryz.call144 rfl (fun w s => by have := check_c kd ep tx ix no a n cap w (Rd.old hT w s); rwa [show Frm.check kd ep tx ix no n = 2 from if_neg hok] at this) rfl ?_) | (refine WL.k_bin .neq ?_; refine WL.step (Yl.neqT rfl rfl (by decide)) rfl ?_) | refine WC.seq ?_ | refine WC.region ?_ | refine WL.nil ?_ | refine WN.then_normal ?_))
    refine WC.cond_true rfl rfl ?_
    (repeat (first | refine WL.step (Yl.move rfl) rfl ?_ | refine WL.step (Yl.assign rfl) rfl ?_ | refine WC.seq ?_ | refine WC.region ?_ | refine WL.nil ?_ | refine WN.then_normal ?_ | refine WC.ret ?_ | refine WN.then_ret ?_))
    exact WN.ret2 rfl rfl rfl (Slc.none _ 2) (.free .nil)
end Go.Proofs.YtbkdjfgkebkknaaGreatDoor
