import Derived.Test.YtbkdjfgkebkknaaGreatDoorRowJournalNilMg9
/- Drives: plans; a crash; rules for calls. -/
namespace Go.Proofs.YtbkdjfgkebkknaaGreatDoor
set_option linter.unusedVariables false
set_option linter.unusedSimpArgs false
open Go Go.RowKit
set_option maxRecDepth 100000
set_option maxHeartbeats 8000000
theorem keepOne : keepOk [128] := ⟨by simp, fun k hk => by simp at hk; omega⟩
theorem pk {x : HA} {A A1 B : List HA} (p : Pick x A A1) (h : A1.Perm B) : A.Perm (x :: B) := p.perm.trans (h.cons x)
section
variable {X : Cx} {ops : Array Oper} {Q : Exit → Act → World → Prop} {ρ : Env} {A B : List HA} {rest : List Oper} {d : Tmp} {op : Op} {ty : TypeId} {ps : String} {af : Array Edge} {v : Value}
/-- A call of a function value with what it has captured; some memory is lent. -/
theorem WL.callFS {A0 : List HA} {R : Value → List HA → Prop} {g : FuncId} {x : Operand} {xs : List Operand} {ts : Array TypeId} {vs cs : List Value} (he : ∀ args w, (callFunc g args).run X.P w = .ok (.enter g args) w) (hf : ev ρ x = some (.func (.func g) #[] cs.toArray)) (hx : evs ρ xs = some vs) (hp : A.Perm (A0 ++ B))
    (hc : ∀ w, St X.w0 X.S A w → St w (A0.filterMap HA.foot) A0 w → Calls X.P g (vs ++ cs).toArray w (GivesS (A0.filterMap HA.foot) R w)) (hd : Nat.blt d X.n = true) (h : ∀ v C, R v C → WL X ops Q rest ((d, v) :: ρ) (C ++ B)) :
    WL X ops Q (⟨some d, .call { callee := .value x, args := xs.toArray, argTypes := ts }, ty, ps, af, none⟩ :: rest) ρ A :=
  fun a w f s => wpList_plain rfl fun K hK => by
    unfold Oper.wp
    have e := evs_map f hx
    have e2 := f.ev hf
    have hr : (execOp a.eval ⟨some d, .call { callee := .value x, args := xs.toArray, argTypes := ts }, ty, ps, af, none⟩).run X.P w = .ok (.enter g (vs ++ cs).toArray) w := by
      simp [execOp, resolve, Deferred.ofValue, e2, invoke, e, he]
    rw [hr]
    have s1 := s.perm hp
    exact (hc w s s1.lend).mono fun e w' hq => by
      obtain ⟨v, B, rfl, hR, hs⟩ := hq
      exact hK _ _ (h v B hR _ _ (f.put (blt_lt hd) v) (s1.join (fun b hb => by obtain ⟨x, hx, hf⟩ := List.mem_filterMap.1 hb; exact ⟨x, hx, hf⟩) hs))
end
def DcV (p : DP) (s' : DS → Prop) (e : Nat) : Value → List HA → Prop := fun u B => u = .int .i64 (e : Int) ∧ ∃ s : DS, s' s ∧ B = .blk p.bd (drO p s) :: bankItems p.bk p.da p.cap p.mb s.d s.M s.c
def DrV (p : DP) (v : DV) (e : Nat) : Value → List HA → Prop := fun u B => u = .int .i64 (e : Int) ∧ ∃ s : DS, s.Ok p ∧ s.v = v ∧ B = drI p s
def CloneV (n : Int) (K : List Int) : Value → List HA → Prop := fun u B => ∃ b a c, u = .pointer (some ⟨b, 0, none⟩) ∧ K.length ≤ c ∧ B = [.blk b (.cells #[.int .i64 n, .slice a K.length c] 63 (0, 0)), .row a c 3 1 (zcells K)]
attribute [local irreducible] WL WC WN Yl WH WQ WT WE WU WG WV
theorem zcells_one (l : List Int) : ∀ u ∈ zcells l, u.oneCell' = true := fun u h => by obtain ⟨s, _, rfl⟩ := List.mem_map.1 h; rfl
theorem icl_c (a : Option Addr) (n cap : Nat) (l : List Int) (w : World) (hl : l.length = n) (hn : n ≤ 100000) (hr : CellsAt w a (zcells l)) :
    Calls Tryz.prog 115 #[.slice a n cap] w (Gives (NewRow id 3 1 n (zcells l)) w) := by
  refine enter (args := [_]) Tryz.func115 Tryz.ntmps115 rfl rfl ?_
  cases a with
  | none =>
    obtain rfl : l = [] := by
      rcases hr with h | ⟨b, off, h, _⟩
      · simpa [zcells] using h
      · cases h
    obtain rfl : n = 0 := hl.symm
    (repeat (first | refine WL.step (Yl.move rfl) rfl ?_ | refine WL.step (Yl.assign rfl) rfl ?_ | refine WL.step (Yl.eqNil (t := 61) Tryz.underlying61 rfl) rfl ?_ | refine WC.seq ?_ | refine WC.region ?_ | refine WL.nil ?_ | refine WN.then_normal ?_))
    refine WC.cond_true rfl rfl ?_
    (repeat (first | refine WL.step (Yl.assign rfl) rfl ?_ | refine WC.seq ?_ | refine WC.region ?_ | refine WL.nil ?_ | refine WN.then_normal ?_ | refine WC.ret ?_ | refine WN.then_ret ?_))
    exact WN.ret1 rfl rfl ⟨none, 0, by omega, rfl, rfl⟩ (.free .nil)
  | some ad =>
    (repeat (first | refine WL.step (Yl.move rfl) rfl ?_ | refine WL.step (Yl.assign rfl) rfl ?_ | refine WL.step (Yl.eqNil (t := 61) Tryz.underlying61 rfl) rfl ?_ | refine WC.seq ?_ | refine WC.region ?_ | refine WL.nil ?_ | refine WN.then_normal ?_))
    refine WC.cond_false rfl rfl ?_
    (repeat (first | refine WC.seq ?_ | refine WC.region ?_ | refine WN.then_normal ?_ | refine WC.skip ?_))
    refine WL.lit (t := 61) Tryz.underlying61 elemZ rfl rfl rfl (by simp) rfl fun b => ?_
    (repeat (first | refine WL.step (Yl.move rfl) rfl ?_))
    have hzl : (zcells l).length = n := by rw [zcells_len, hl]
    refine WL.appendRow (t := 61) (n := 0) (m := n) (olds := []) (news := zcells l) Tryz.underlying61 elemZ rfl rfl .here rfl (by omega) (.old hr) (by omega) (zcells_one l) (by omega) (by simp only [maxLen]; omega) rfl fun p hp => ?_
    (repeat (first | refine WL.step (Yl.assign rfl) rfl ?_ | refine WL.nil ?_ | refine WN.then_normal ?_ | refine WC.ret ?_))
    exact WN.ret1 rfl rfl ⟨p.1, p.2, by omega, by rw [Nat.zero_add]; rfl, rfl⟩ (.cons .here .nil)
theorem dclone_c (n : Int) (a : Option Addr) (m c2 : Nat) (K : List Int) (w : World) (hl : K.length = m) (hm : m ≤ 100000) (hr : CellsAt w a (zcells K)) : Calls Tryz.prog 68 #[.agg #[.int .i64 n, .slice a m c2]] w (Gives (CloneV n K) w) := by
  refine enter (args := [.agg #[.int .i64 n, .slice a m c2]]) Tryz.func68 Tryz.ntmps68 rfl rfl ?_
  subst hl
  (repeat (first | refine WC.seq ?_ | refine WC.region ?_))
  refine WL.boxA rfl rfl fun b1 => ?_
  (repeat (first | refine WL.step (Yl.assign rfl) rfl ?_ | (refine WL.k_load ?_; refine WL.step (Yl.loadBlk (T := 61) Tryz.isAgg61 rfl (by repeat (first | exact .head _ | refine .tail _ ?_)) (by rfl)) rfl ?_) | (refine WL.k_fld ?_; refine WL.step (Yl.fldN0 (i := 1) (o := 1) (by kernel_rfl) rfl) rfl ?_) | refine WC.seq ?_ | refine WC.region ?_ | refine WL.nil ?_ | refine WN.then_normal ?_))
  refine WL.callR (g := 115) Tryz.call115 rfl (fun w0 st => icl_c a K.length c2 K w0 rfl hm (hr.keep st.kept)) rfl fun q hq => ?_
  simp only [id]
  (repeat (first | (refine WL.k_fld ?_; refine WL.step (Yl.fldN0 (i := 1) (o := 1) (by kernel_rfl) rfl) rfl ?_)))
  refine WL.storeAt (T := 61) Tryz.sizeOf61 rfl rfl rfl (by repeat (first | exact Pick.here | apply Pick.there)) rfl ?_
  (repeat (first | refine WL.step (Yl.assign rfl) rfl ?_ | refine WC.seq ?_ | refine WC.region ?_ | refine WL.nil ?_ | refine WN.then_normal ?_ | refine WC.ret ?_))
  exact WN.ret1 rfl rfl ⟨b1, q.1, q.2, rfl, hq, rfl⟩ (.cons .here (.cons .here .nil))
theorem dbadk_c (k : Int) (w : World) : Calls Tryz.prog 127 #[.int .i64 k] w (Gives (Val (.bool (decide (¬ (0 ≤ k ∧ k ≤ 128))))) w) := by
  refine enter (args := [_]) Tryz.func127 Tryz.ntmps127 rfl rfl ?_
  by_cases h1 : k < 0
  · rw [decide_eq_true (by omega)]
    (repeat (first | refine WL.pass rfl rfl rfl rfl ?_ | refine WL.step (Yl.move rfl) rfl ?_ | refine WL.step (Yl.assign rfl) rfl ?_ | refine WL.step (Yl.pick_t rfl rfl rfl) rfl ?_ | (refine WL.k_bin .lss ?_; refine WL.step (Yl.lssT rfl rfl (by omega)) rfl ?_) | refine WC.seq ?_ | refine WC.region ?_ | refine WL.nil ?_ | refine WN.then_normal ?_ | refine WC.ret ?_))
    exact WN.ret1 rfl rfl ⟨rfl, rfl⟩ .nil
  · by_cases h2 : 128 < k
    · rw [decide_eq_true (by omega)]
      (repeat (first | refine WL.want rfl rfl rfl ?_ | refine WL.step (Yl.move rfl) rfl ?_ | refine WL.step (Yl.assign rfl) rfl ?_ | refine WL.step (Yl.pick_f rfl rfl rfl) rfl ?_ | (refine WL.k_bin .lss ?_; refine WL.step (Yl.lssF rfl rfl (by omega)) rfl ?_) | (refine WL.k_bin .gtr ?_; refine WL.step (Yl.gtrT rfl rfl (by omega)) rfl ?_) | refine WC.seq ?_ | refine WC.region ?_ | refine WL.nil ?_ | refine WN.then_normal ?_ | refine WC.ret ?_))
      exact WN.ret1 rfl rfl ⟨rfl, rfl⟩ .nil
    · rw [decide_eq_false (by omega)]
      (repeat (first | refine WL.want rfl rfl rfl ?_ | refine WL.step (Yl.move rfl) rfl ?_ | refine WL.step (Yl.assign rfl) rfl ?_ | refine WL.step (Yl.pick_f rfl rfl rfl) rfl ?_ | (refine WL.k_bin .lss ?_; refine WL.step (Yl.lssF rfl rfl (by omega)) rfl ?_) | (refine WL.k_bin .gtr ?_; refine WL.step (Yl.gtrF rfl rfl (by omega)) rfl ?_) | refine WC.seq ?_ | refine WC.region ?_ | refine WL.nil ?_ | refine WN.then_normal ?_ | refine WC.ret ?_))
      exact WN.ret1 rfl rfl ⟨rfl, rfl⟩ .nil
def IxV (K : List Int) : Value → List HA → Prop := fun u B => B = [] ∧ ∃ r : Int, u = .int .i64 r ∧ (0 ≤ r ↔ ¬ ∀ k ∈ K, 0 ≤ k ∧ k ≤ 128)
theorem dindex_c (a : Option Addr) (m c2 : Nat) (K : List Int) (w : World) (hl : K.length = m) (hm : m ≤ 100000) (hr : CellsAt w a (zcells K)) : Calls Tryz.prog 162 #[.slice a m c2, .func (.func 127) #[] #[]] w (Gives (IxV K) w) := by
  refine enter (args := [_, _]) Tryz.func162 Tryz.ntmps162 rfl rfl ?_
  (repeat (first | refine WL.step (Yl.move rfl) rfl ?_ | refine WL.step (Yl.assign rfl) rfl ?_ | refine WL.step (Yl.len (t := 61) Tryz.underlying61 rfl) rfl ?_ | refine WC.seq ?_ | refine WC.region ?_ | refine WL.nil ?_ | refine WN.then_normal ?_ | refine WC.block ?_))
  refine WC.loop (α := Nat) (fun i => [(0, .slice a m c2), (1, .func (.func 127) #[] #[]), (7, .int .i64 (m : Int)), (8, .int .i64 (i : Int))]) (fun _ => []) (fun i => i ≤ m ∧ ∀ k ∈ K.take i, 0 ≤ k ∧ k ≤ 128) (fun i => m - i) 0 (by repeat (first | exact Sub.nil | refine Sub.cons rfl rfl ?_)) .nil ⟨Nat.zero_le _, fun k hk => by simp at hk⟩ ?_
  intro i ⟨hi, hp⟩
  (repeat (first | refine WL.step (Yl.lss rfl rfl) rfl ?_ | refine WC.seq ?_ | refine WC.region ?_ | refine WL.nil ?_ | refine WN.then_normal ?_))
  refine WC.ite rfl (fun h1 => ?_) (fun h1 => ?_)
  · have him : i < K.length := by omega
    have hz := zcells_at him
    have hg : K[i]? = some (K.getD i 0) := by simp [List.getD, him]
    have hmem := List.mem_of_getElem? hg
    (repeat (first | refine WL.step (Yl.move rfl) rfl ?_ | refine WL.step (Yl.assign rfl) rfl ?_ | refine WL.step (Yl.load (T := 3) (a := a) (i := i) Tryz.isAgg3 rfl (Rd.old hr) hz) rfl ?_ | (refine WL.k_idxa ?_; refine WL.step (Yl.indexAddr1 (t := 61) (a := a) (j := i) Tryz.underlying61 Tryz.sizeOf3 rfl rfl (Rd.old hr) (zcells_ne him) (by omega)) rfl ?_) | refine WC.seq ?_ | refine WC.region ?_ | refine WL.nil ?_ | refine WN.then_normal ?_ | refine WC.block ?_ | refine WC.skip ?_))
    refine WL.callFV (g := 127) (v := .bool (decide (¬ (0 ≤ K.getD i 0 ∧ K.getD i 0 ≤ 128)))) (cs := []) Tryz.call127 rfl rfl (fun w0 st => dbadk_c _ w0) rfl ?_
    by_cases h2 : 0 ≤ K.getD i 0 ∧ K.getD i 0 ≤ 128
    · rw [decide_eq_false (fun h => h h2)]
      (repeat (first | refine WL.nil ?_ | refine WN.then_normal ?_))
      refine WC.cond_false rfl rfl ?_
      (repeat (first | refine WL.step (Yl.move rfl) rfl ?_ | (refine WL.k_bin .add ?_; refine WL.step (Yl.add64C rfl (by omega)) rfl ?_) | refine WC.region ?_ | refine WL.nil ?_ | refine WN.then_normal ?_ | refine WC.skip ?_ | refine WN.block_normal ?_))
      refine WN.next (i + 1) ⟨by omega, fun k hk => ?_⟩ (by omega) (by repeat (first | exact Sub.nil | refine Sub.cons rfl rfl ?_)) .nil
      rw [List.take_add_one, hg] at hk
      rcases List.mem_append.1 hk with h | h
      · exact hp k h
      · simp at h; subst h; simp only [List.getD_eq_getElem?_getD] at h2; exact h2
    · rw [decide_eq_true h2]
      (repeat (first | refine WL.nil ?_ | refine WN.then_normal ?_))
      refine WC.cond_true rfl rfl ?_
      (repeat (first | refine WL.step (Yl.move rfl) rfl ?_ | refine WL.step (Yl.assign rfl) rfl ?_ | refine WC.seq ?_ | refine WC.region ?_ | refine WL.nil ?_ | refine WN.then_normal ?_ | refine WC.ret ?_ | refine WN.then_ret ?_ | refine WN.block_ret ?_))
      exact WN.ret1 rfl rfl ⟨rfl, _, rfl, ⟨fun _ h => h2 (h _ hmem), fun _ => by omega⟩⟩ .nil
  · have hKm : K.take i = K := List.take_of_length_le (by omega)
    rw [hKm] at hp
    (repeat (first | refine WL.step (Yl.assign rfl) rfl ?_ | refine WC.seq ?_ | refine WC.region ?_ | refine WL.nil ?_ | refine WN.then_normal ?_ | refine WC.exit ?_ | refine WC.ret ?_ | refine WN.then_exit ?_ | refine WN.block_here ?_))
    exact WN.ret1 rfl rfl ⟨rfl, _, rfl, ⟨fun h => absurd h (by decide), fun h => absurd hp h⟩⟩ .nil
theorem dcont_c (a : Option Addr) (m c2 : Nat) (K : List Int) (w : World) (hl : K.length = m) (hm : m ≤ 100000) (hr : CellsAt w a (zcells K)) : Calls Tryz.prog 126 #[.slice a m c2, .func (.func 127) #[] #[]] w (Gives (Val (.bool (decide (¬ ∀ k ∈ K, 0 ≤ k ∧ k ≤ 128)))) w) := by
  refine enter (args := [_, _]) Tryz.func126 Tryz.ntmps126 rfl rfl ?_
  (repeat (first | refine WL.step (Yl.move rfl) rfl ?_ | refine WL.step (Yl.assign rfl) rfl ?_ | refine WC.seq ?_ | refine WC.region ?_ | refine WL.nil ?_ | refine WN.then_normal ?_))
  refine WL.call (g := 162) Tryz.call162 rfl (fun w0 st => dindex_c a m c2 K w0 hl hm (hr.keep st.kept)) rfl fun v B hv => ?_
  obtain ⟨rfl, r, rfl, hr2⟩ := hv
  rw [List.nil_append]
  rw [show decide (¬ ∀ k ∈ K, 0 ≤ k ∧ k ≤ 128) = decide (r ≥ 0) from decide_eq_decide.2 hr2.symm]
  (repeat (first | refine WL.step (Yl.assign rfl) rfl ?_ | refine WL.step (Yl.geq rfl rfl) rfl ?_ | refine WL.nil ?_ | refine WN.then_normal ?_ | refine WC.ret ?_))
  exact WN.ret1 rfl rfl ⟨rfl, rfl⟩ .nil
theorem dchk_c (n : Int) (a : Option Addr) (m c2 : Nat) (K : List Int) (w : World) (hl : K.length = m) (hm : m ≤ 9223372036854775807) (hr : CellsAt w a (zcells K)) : Calls Tryz.prog 100 #[.agg #[.int .i64 n, .slice a m c2]] w (Gives (Val (.int .i64 (if planOk n K then 0 else 2))) w) := by
  refine enter (args := [.agg #[.int .i64 n, .slice a m c2]]) Tryz.func100 Tryz.ntmps100 rfl rfl ?_
  subst hl
  (repeat (first | refine WC.seq ?_ | refine WC.region ?_))
  refine WL.boxA rfl rfl fun b1 => ?_
  by_cases h1 : n < 0
  · rw [if_neg (fun h => by have := h.1; omega)]
    (repeat (first | refine WL.pass rfl rfl rfl rfl ?_ | refine WL.step (Yl.move rfl) rfl ?_ | refine WL.step (Yl.assign rfl) rfl ?_ | (refine WL.k_load ?_; refine WL.step (Yl.loadBlk (T := 3) Tryz.isAgg3 rfl (by repeat (first | exact .head _ | refine .tail _ ?_)) (by rfl)) rfl ?_) | (refine WL.k_fld ?_; refine WL.step (Yl.fldN0 (i := 0) (o := 0) (by kernel_rfl) rfl) rfl ?_) | refine WL.step (Yl.pick_t rfl rfl rfl) rfl ?_ | (refine WL.k_bin .lss ?_; refine WL.step (Yl.lssT rfl rfl (by omega)) rfl ?_) | refine WC.seq ?_ | refine WC.region ?_ | refine WL.nil ?_ | refine WN.then_normal ?_))
    refine WC.cond_true rfl rfl ?_
    (repeat (first | refine WL.step (Yl.assign rfl) rfl ?_ | refine WC.seq ?_ | refine WC.region ?_ | refine WL.nil ?_ | refine WN.then_normal ?_ | refine WC.ret ?_ | refine WN.then_ret ?_))
    exact WN.ret1 rfl rfl ⟨rfl, rfl⟩ .nil
  by_cases h2 : 1000000 < n
  · rw [if_neg (fun h => by have := h.2.1; omega)]
    (repeat (first | (refine WL.kG ?_; first | refine WL.want rfl rfl rfl ?_ | refine WL.pass rfl rfl rfl rfl ?_) | refine WL.step (Yl.move rfl) rfl ?_ | refine WL.step (Yl.assign rfl) rfl ?_ | (refine WL.k_load ?_; refine WL.step (Yl.loadBlk (T := 3) Tryz.isAgg3 rfl (by repeat (first | exact .head _ | refine .tail _ ?_)) (by rfl)) rfl ?_) | (refine WL.k_fld ?_; refine WL.step (Yl.fldN0 (i := 0) (o := 0) (by kernel_rfl) rfl) rfl ?_) | (refine WL.k_pick ?_; first | refine WL.step (Yl.pick_t rfl rfl rfl) rfl ?_ | refine WL.step (Yl.pick_f rfl rfl rfl) rfl ?_) | (refine WL.k_bin .lss ?_; refine WL.step (Yl.lssF rfl rfl (by omega)) rfl ?_) | (refine WL.k_bin .gtr ?_; refine WL.step (Yl.gtrT rfl rfl (by omega)) rfl ?_) | refine WC.seq ?_ | refine WC.region ?_ | refine WL.nil ?_ | refine WN.then_normal ?_))
    refine WC.cond_true rfl rfl ?_
    (repeat (first | refine WL.step (Yl.assign rfl) rfl ?_ | refine WC.seq ?_ | refine WC.region ?_ | refine WL.nil ?_ | refine WN.then_normal ?_ | refine WC.ret ?_ | refine WN.then_ret ?_))
    exact WN.ret1 rfl rfl ⟨rfl, rfl⟩ .nil
  by_cases h3 : K.length < 1
  · rw [if_neg (fun h => by have := h.2.2.1; omega)]
    (repeat (first | (refine WL.kG ?_; first | refine WL.want rfl rfl rfl ?_ | refine WL.pass rfl rfl rfl rfl ?_) | refine WL.step (Yl.move rfl) rfl ?_ | refine WL.step (Yl.assign rfl) rfl ?_ | (refine WL.k_load ?_; first | refine WL.step (Yl.loadBlk (T := 3) Tryz.isAgg3 rfl (by repeat (first | exact .head _ | refine .tail _ ?_)) (by rfl)) rfl ?_ | refine WL.step (Yl.loadBlk (T := 61) Tryz.isAgg61 rfl (by repeat (first | exact .head _ | refine .tail _ ?_)) (by rfl)) rfl ?_) | (refine WL.k_fld ?_; first | refine WL.step (Yl.fldN0 (i := 0) (o := 0) (by kernel_rfl) rfl) rfl ?_ | refine WL.step (Yl.fldN0 (i := 1) (o := 1) (by kernel_rfl) rfl) rfl ?_) | (refine WL.k_pick ?_; first | refine WL.step (Yl.pick_t rfl rfl rfl) rfl ?_ | refine WL.step (Yl.pick_f rfl rfl rfl) rfl ?_) | refine WL.step (Yl.len (t := 61) Tryz.underlying61 rfl) rfl ?_ | (refine WL.k_bin .lss ?_; first | refine WL.step (Yl.lssT rfl rfl (by omega)) rfl ?_ | refine WL.step (Yl.lssF rfl rfl (by omega)) rfl ?_) | (refine WL.k_bin .gtr ?_; refine WL.step (Yl.gtrF rfl rfl (by omega)) rfl ?_) | refine WC.seq ?_ | refine WC.region ?_ | refine WL.nil ?_ | refine WN.then_normal ?_))
    refine WC.cond_true rfl rfl ?_
    (repeat (first | refine WL.step (Yl.assign rfl) rfl ?_ | refine WC.seq ?_ | refine WC.region ?_ | refine WL.nil ?_ | refine WN.then_normal ?_ | refine WC.ret ?_ | refine WN.then_ret ?_))
    exact WN.ret1 rfl rfl ⟨rfl, rfl⟩ .nil
  by_cases h4 : 64 < K.length
  · rw [if_neg (fun h => by have := h.2.2.2.1; omega)]
    (repeat (first | refine WL.want rfl rfl rfl ?_ | refine WL.step (Yl.move rfl) rfl ?_ | refine WL.step (Yl.assign rfl) rfl ?_ | (refine WL.k_load ?_; first | refine WL.step (Yl.loadBlk (T := 3) Tryz.isAgg3 rfl (by repeat (first | exact .head _ | refine .tail _ ?_)) (by rfl)) rfl ?_ | refine WL.step (Yl.loadBlk (T := 61) Tryz.isAgg61 rfl (by repeat (first | exact .head _ | refine .tail _ ?_)) (by rfl)) rfl ?_) | (refine WL.k_fld ?_; first | refine WL.step (Yl.fldN0 (i := 0) (o := 0) (by kernel_rfl) rfl) rfl ?_ | refine WL.step (Yl.fldN0 (i := 1) (o := 1) (by kernel_rfl) rfl) rfl ?_) | refine WL.step (Yl.pick_f rfl rfl rfl) rfl ?_ | refine WL.step (Yl.len (t := 61) Tryz.underlying61 rfl) rfl ?_ | (refine WL.k_bin .lss ?_; refine WL.step (Yl.lssF rfl rfl (by omega)) rfl ?_) | (refine WL.k_bin .gtr ?_; first | refine WL.step (Yl.gtrT rfl rfl (by omega)) rfl ?_ | refine WL.step (Yl.gtrF rfl rfl (by omega)) rfl ?_) | refine WC.seq ?_ | refine WC.region ?_ | refine WL.nil ?_ | refine WN.then_normal ?_))
    refine WC.cond_true rfl rfl ?_
    (repeat (first | refine WL.step (Yl.assign rfl) rfl ?_ | refine WC.seq ?_ | refine WC.region ?_ | refine WL.nil ?_ | refine WN.then_normal ?_ | refine WC.ret ?_ | refine WN.then_ret ?_))
    exact WN.ret1 rfl rfl ⟨rfl, rfl⟩ .nil
  (repeat (first | refine WL.want rfl rfl rfl ?_ | refine WL.step (Yl.move rfl) rfl ?_ | refine WL.step (Yl.assign rfl) rfl ?_ | (refine WL.k_load ?_; first | refine WL.step (Yl.loadBlk (T := 3) Tryz.isAgg3 rfl (by repeat (first | exact .head _ | refine .tail _ ?_)) (by rfl)) rfl ?_ | refine WL.step (Yl.loadBlk (T := 61) Tryz.isAgg61 rfl (by repeat (first | exact .head _ | refine .tail _ ?_)) (by rfl)) rfl ?_) | (refine WL.k_fld ?_; first | refine WL.step (Yl.fldN0 (i := 0) (o := 0) (by kernel_rfl) rfl) rfl ?_ | refine WL.step (Yl.fldN0 (i := 1) (o := 1) (by kernel_rfl) rfl) rfl ?_) | refine WL.step (Yl.pick_f rfl rfl rfl) rfl ?_ | refine WL.step (Yl.len (t := 61) Tryz.underlying61 rfl) rfl ?_ | (refine WL.k_bin .lss ?_; refine WL.step (Yl.lssF rfl rfl (by omega)) rfl ?_) | (refine WL.k_bin .gtr ?_; refine WL.step (Yl.gtrF rfl rfl (by omega)) rfl ?_) | refine WC.seq ?_ | refine WC.region ?_ | refine WL.nil ?_ | refine WN.then_normal ?_))
  refine WC.cond_false rfl rfl ?_
  (repeat (first | (refine WL.k_load ?_; refine WL.step (Yl.loadBlk (T := 61) Tryz.isAgg61 rfl (by repeat (first | exact .head _ | refine .tail _ ?_)) (by rfl)) rfl ?_) | (refine WL.k_fld ?_; refine WL.step (Yl.fldN0 (i := 1) (o := 1) (by kernel_rfl) rfl) rfl ?_) | refine WC.seq ?_ | refine WC.region ?_ | refine WN.then_normal ?_ | refine WC.skip ?_))
  refine WL.callV (g := 126) (v := .bool (decide (¬ ∀ k ∈ K, 0 ≤ k ∧ k ≤ 128))) Tryz.call126 rfl (fun w0 st => dcont_c a K.length c2 K w0 rfl (by omega) (hr.keep st.kept)) rfl ?_
  by_cases h5 : ∀ k ∈ K, 0 ≤ k ∧ k ≤ 128
  · rw [decide_eq_false (fun h => h h5), if_pos ⟨by omega, by omega, by omega, by omega, h5⟩]
    (repeat (first | refine WL.nil ?_ | refine WN.then_normal ?_))
    refine WC.cond_false rfl rfl ?_
    (repeat (first | refine WL.step (Yl.assign rfl) rfl ?_ | refine WC.seq ?_ | refine WC.region ?_ | refine WL.nil ?_ | refine WN.then_normal ?_ | refine WC.skip ?_ | refine WC.ret ?_))
    exact WN.ret1 rfl rfl ⟨rfl, rfl⟩ .nil
  · rw [decide_eq_true h5, if_neg (fun h => h5 h.2.2.2.2)]
    (repeat (first | refine WL.nil ?_ | refine WN.then_normal ?_))
    refine WC.cond_true rfl rfl ?_
    (repeat (first | refine WL.step (Yl.assign rfl) rfl ?_ | refine WC.seq ?_ | refine WC.region ?_ | refine WL.nil ?_ | refine WN.then_normal ?_ | refine WC.ret ?_ | refine WN.then_ret ?_))
    exact WN.ret1 rfl rfl ⟨rfl, rfl⟩ .nil
section
variable {p : DP} {S : List Nat}
def DS.crash (s : DS) (K : List Int) : DS → Prop := fun t => t.d = (crashR K s.d s.F).1.1 ∧ t.F = (crashR K s.d s.F).1.2 ∧ t.down = true ∧ t.pl = none ∧ t.ops = s.ops ∧ t.rd = s.rd ∧ t.Ok p
theorem dcrash_r (s : DS) (a : Option Addr) (m c2 : Nat) (K : List Int) (w : World) (wf : BkWf s.d s.F) (hcap : s.d.length ≤ p.cap) (hM : MapIs s.d.length s.F s.M s.c) (hl : K.length = m) (hm : m ≤ 100000) (hK : keepOk K) (hr : CellsOut w S a (zcells K)) (st : St w S (.blk p.bd (drO p s) :: bankItems p.bk p.da p.cap p.mb s.d s.M s.c) w) :
    Calls Tryz.prog 101 #[bptr p.bd, .slice a m c2] w (GivesS S (DcV p (s.crash (p := p) K) 11) w) := by
  refine enterS (args := [.pointer (some ⟨p.bd, 0, none⟩), _]) Tryz.func101 Tryz.ntmps101 rfl rfl st ?_
  have hcw := crash_wf K wf
  have e2 : (crashR K s.d s.F).2 = 0 := by rw [crashR, if_pos hK]
  rw [drO]
  (repeat (first | refine WL.step (Yl.move rfl) rfl ?_ | refine WL.step (Yl.assign rfl) rfl ?_ | (refine WL.k_fld ?_; refine WL.step (Yl.fldN0 (i := 1) (o := 1) (by kernel_rfl) rfl) rfl ?_) | refine WL.step (Yl.nilCheck rfl) rfl ?_ | refine WC.seq ?_ | refine WC.region ?_ | refine WL.nil ?_ | refine WN.then_normal ?_))
  refine WL.storeAt (T := 4) Tryz.sizeOf4 rfl rfl rfl .here rfl ?_
  (repeat (first | (refine WL.k_fld ?_; refine WL.step (Yl.fldN0 (i := 2) (o := 2) (by kernel_rfl) rfl) rfl ?_) | refine WL.step (Yl.nilCheck rfl) rfl ?_))
  refine WL.storeAt (T := 73) Tryz.sizeOf73 rfl rfl rfl .here rfl ?_
  (repeat (first | refine WL.step (Yl.move rfl) rfl ?_ | (refine WL.k_load ?_; refine WL.step (Yl.loadBlk (T := 70) Tryz.isAgg70 rfl (by repeat (first | exact .head _ | refine .tail _ ?_)) (by rfl)) rfl ?_) | (refine WL.k_fld ?_; refine WL.step (Yl.fldN0 (i := 0) (o := 0) (by kernel_rfl) rfl) rfl ?_) | refine WL.step (Yl.nilCheck rfl) rfl ?_ | refine WC.seq ?_ | refine WC.region ?_ | refine WL.nil ?_ | refine WN.then_normal ?_))
  refine WL.callS (g := 121) (A0 := bankItems p.bk p.da p.cap p.mb s.d s.M s.c) (B := [_]) Tryz.call121 rfl (List.perm_append_comm (l₁ := [_])) (fun w0 st2 s1 => bcrash_r a m c2 K s.M s.c w0 wf hcap hM hl (by omega) s1 (old_out st2 (List.perm_append_comm (l₁ := [_])) hr)) rfl fun v B hv => ?_
  obtain ⟨M1, c1, hM1, rfl, rfl⟩ := hv
  rw [e2]
  (repeat (first | refine WL.step (Yl.move rfl) rfl ?_ | refine WL.step (Yl.assign rfl) rfl ?_ | refine WL.step (Yl.neqF rfl rfl rfl) rfl ?_ | refine WC.seq ?_ | refine WC.region ?_ | refine WL.nil ?_ | refine WN.then_normal ?_))
  refine WC.cond_false rfl rfl ?_
  (repeat (first | refine WL.step (Yl.assign rfl) rfl ?_ | refine WC.seq ?_ | refine WC.region ?_ | refine WL.nil ?_ | refine WN.then_normal ?_ | refine WC.skip ?_ | refine WC.ret ?_))
  refine WN.ret1S rfl rfl ⟨rfl, ⟨(crashR K s.d s.F).1.1, (crashR K s.d s.F).1.2, M1, c1, true, none, s.ops, s.rd⟩, ⟨rfl, rfl, rfl, rfl, rfl, rfl, ⟨hcw.1, by simp only [hcw.2]; exact hcap, hM1, fun q hq => by cases hq⟩⟩, rfl⟩ ?_
  exact Part.perm (List.perm_append_comm (l₂ := [_]))
end
end Go.Proofs.YtbkdjfgkebkknaaGreatDoor
