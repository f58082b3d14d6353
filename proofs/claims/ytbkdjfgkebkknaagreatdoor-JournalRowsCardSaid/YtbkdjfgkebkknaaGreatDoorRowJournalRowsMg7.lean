import Derived.Test.YtbkdjfgkebkknaaGreatDoorRowJournalRowsMg6
import Derived.RangeFuncBound
import Derived.Test.YtbkdjfgkebkknaaGreatDoorRowJournalRowsMg3
namespace Go.Proofs.YtbkdjfgkebkknaaGreatDoor
set_option linter.unusedVariables false
set_option linter.unusedSimpArgs false
open Go Go.RowKit
set_option maxRecDepth 100000
set_option maxHeartbeats 8000000
abbrev Sec (n : Nat) := { k : Nat // k < n }
def secv {n : Nat} (x : Sec n) : Value := .int .i64 (x.1 : Int)
def AllOf (n : Nat) (D : List Nat) (xs : List (Sec n)) : Prop := xs.map (·.1) = D
def PartOf (n : Nat) (D : List Nat) (xs : List (Sec n)) : Prop := xs.map (·.1) <+: D
def RowAt (B : Nat) (w : World) (a : Option Addr) (D : List Nat) : Prop := D = [] ∨ ∃ b cs, a = some ⟨b, 0, none⟩ ∧ B ≤ b ∧ w.heap[b]? = some (.cells cs 3 (0, 0)) ∧ cs.toList.take D.length = ncells D
theorem RowAt.cells {B : Nat} {w : World} {a : Option Addr} {D : List Nat} (h : RowAt B w a D) : CellsAt w a (ncells D) := by
  rcases h with rfl | ⟨b, cs, rfl, _, hc, ht⟩
  · exact .inl rfl
  · refine .inr ⟨b, 0, rfl, fun i v hv => ?_⟩
    rw [← ht, List.getElem?_take] at hv
    split at hv
    · rw [Nat.zero_add]; simp only [World.cell?, hc]; simpa using hv
    · cases hv
theorem RowAt.kp {B : Nat} {w w' : World} {a : Option Addr} {D : List Nat} (h : RowAt B w a D) (k : Kp B w w') : RowAt B w' a D := by
  rcases h with rfl | ⟨b, cs, rfl, hB, hc, ht⟩
  · exact .inl rfl
  · exact .inr ⟨b, cs, rfl, hB, k.cells b _ hB hc rfl, ht⟩
theorem RowAt.keep {B : Nat} {w w' : World} {a : Option Addr} {D : List Nat} (h : RowAt B w a D) (k : Kept w [] w') : RowAt B w' a D := by
  rcases h with rfl | ⟨b, cs, rfl, hB, hc, ht⟩
  · exact .inl rfl
  · exact .inr ⟨b, cs, rfl, hB, (k.block b (lt_of_heap hc) (by simp)).trans hc, ht⟩
theorem RowAt.of {w0 w : World} {A : List HA} {a : Option Addr} {cap B : Nat} {D : List Nat} (hm : HA.row a cap 3 1 (ncells D) ∈ A) (hB : B ≤ w0.heap.size) (s : St w0 [] A w) : RowAt B w a D := by
  rcases s.holds _ hm with ⟨_, h⟩ | ⟨b, cs, rfl, hc, hsz, _, hl, ht⟩
  · exact .inl (by simpa [ncells] using h)
  · by_cases h0 : cap = 0
    · subst h0
      rw [ncells_len] at hl
      exact .inl (List.eq_nil_of_length_eq_zero (by omega))
    · refine .inr ⟨b, cs, rfl, ?_, hc, by rw [ncells_len] at ht; exact ht⟩
      rcases s.mine _ hm b (by simp [HA.foot, h0]) with h | h
      · cases h
      · omega
theorem Kept.grown {w w' : World} (k : Kept w [] w') : w.grownBy w' none := ⟨k.os, k.tape, k.output, k.size, fun b hb _ => k.block b hb (by simp)⟩
theorem Kept.kp {w w' : World} (k : Kept w [] w') (B : Nat) : Kp B w w' := ⟨k.size, fun b o _ hb _ => (k.block b (lt_of_heap hb) (by simp)).trans hb⟩
attribute [local irreducible] WL WC WN Yl WH WQ WT WE WU WG Post
section
variable {bk cap mb bx : Nat} {da : Option Addr} {d : List (List UInt8)} {F : Nat → Option (List UInt8)}
theorem take_pre {n : Nat} {D : List Nat} {pre : List (Sec n)} (h : pre.map (·.1) = D.take pre.length) (hl : pre.length = D.length) : AllOf n D pre := by
  unfold AllOf; rw [h, hl, List.take_length]
theorem dirty_seq (w : World) (B : Nat) (hB : B ≤ w.heap.size) (h : BankAt w bk da cap mb d F) (hbx : w.heap[bx]? = some (.cells #[bptr bk] 70 (0, 0))) :
    SeqStopsK (fence none) 1 Tryz.prog 96 #[.pointer (some ⟨bx, 0, none⟩)] (fun x : Sec d.length => #[secv x]) (Kp B) (AllOf d.length (dirtyOf d.length F)) (PartOf d.length (dirtyOf d.length F)) (dirtyOf d.length F).length w := by
  intro l J Jx W hW hJ hJx hY h0
  have kW := Kept.of_below hW
  have hb := h.keep kW
  have hx := (kW.block bx (lt_of_heap hbx) (by simp)).trans hbx
  have hBW : B ≤ W.heap.size := Nat.le_trans hB kW.size
  obtain ⟨M, c, hm, hM⟩ := hb.map
  have hle := hb.wf.le
  have hD := dirty_len d.length F
  have hlt : ∀ k ∈ dirtyOf d.length F, k < d.length := fun k hk => dirty_lt hk
  generalize hDD : dirtyOf d.length F = D at *
  have hk0 : ∀ w', Kept W [] w' → J [] w' := fun w' k => hJ [] W w' none h0 k.grown (fun r e => by cases e)
  have e : (#[Value.func (.yield l) #[] #[]] ++ #[Value.pointer (some ⟨bx, 0, none⟩)] : Array Value) = [Value.func (.yield l) #[] #[], .pointer (some ⟨bx, 0, none⟩)].toArray := by simp
  rw [e]
  refine enterI (args := [_, _]) Tryz.func96 Tryz.ntmps96 rfl rfl ?_
  (repeat (first | refine WL.step (Yl.loadH Tryz.isAgg70 rfl (Has.old hx) rfl) rfl ?_ | (refine WL.k_call 97 ?_; refine WL.callV (g := 97) (v := .bool true) Tryz.call97 rfl (fun w s => valid_ok w (hb.keep s.kept)) rfl ?_) | refine WL.step (Yl.not rfl) rfl ?_ | refine WG.seq ?_ | refine WG.region (fun _ _ h => h) rfl ?_ | refine WL.nil ?_ | refine WN.g_then ?_))
  refine WG.cond_false rfl rfl ?_
  (repeat (first | (refine WL.k_load ?_; first | refine WL.step (Yl.loadH Tryz.isAgg70 rfl (Has.old hx) rfl) rfl ?_ | refine WL.step (Yl.loadH Tryz.isAgg149 rfl (Has.old hb.blk) rfl) rfl ?_) | refine WL.step (Yl.fld0 (t := 154) Tryz.underlying154 fl154 rfl rfl) rfl ?_ | refine WL.step (Yl.nilCheck rfl) rfl ?_ | refine WG.seq ?_ | refine WG.region (fun _ _ h => h) rfl ?_ | refine WN.g_then ?_ | refine WG.skip ?_))
  refine WL.call (g := 98) Tryz.call98 rfl (fun w s => keys_c mb w) rfl fun v1 B1 hv1 => ?_
  obtain ⟨b2, rfl, rfl⟩ := hv1
  simp only [List.cons_append, List.nil_append]
  refine WL.callR (g := 41) Tryz.call41 rfl (fun w s => by have := sorted_c b2 mb w hM (by omega) (s.holds _ (.head _)) ((s.kept.block mb (lt_of_heap hm) (by simp)).trans hm); rwa [hDD] at this) rfl fun q hq => ?_
  (repeat (first | refine WL.step (Yl.move rfl) rfl ?_ | refine WL.step (Yl.len (t := 61) Tryz.underlying61 rfl) rfl ?_ | refine WL.nil ?_ | refine WN.g_then ?_ | refine WG.block ?_))
  refine WG.intro fun a w2 f s => ?_
  have hr0 : RowAt B w2 q.1 D := RowAt.of (.head _) hBW s
  have hJ0 := hk0 w2 s.kept
  refine wpIn_loop_ghost (a := sd [] a) (fun m a w => ∃ pre : List (Sec d.length), m + pre.length = D.length ∧ pre.map (·.1) = D.take pre.length ∧ J pre w ∧ RowAt B w q.1 D ∧ ∃ b, a = sd [] b ∧
    Fr 24 [(0, .func (.yield l) #[] #[]), (13, .slice q.1 D.length q.2), (14, .int .i64 (D.length : Int)), (15, .int .i64 (pre.length : Int))] b) D.length ⟨[], rfl, rfl, hJ0, hr0, a, rfl, f.of_sub zS⟩ ?_
  rintro m _ w ⟨pre, hm, hp, hj, hr, b, rfl, f⟩
  refine WG.elim (X := ⟨Tryz.prog, 24, w, []⟩) (A := []) ?_ b w f (St.start w)
  have hkJ : ∀ w', Kept w [] w' → J pre w' := fun w' k => hJ pre w w' none hj k.grown (fun r e => by cases e)
  (repeat (first | refine WL.step (Yl.lss rfl rfl) rfl ?_ | refine WG.seq ?_ | refine WG.region (fun _ _ h => h) rfl ?_ | refine WL.nil ?_ | refine WN.g_then ?_))
  refine WG.ite rfl (fun h1 => ?_) (fun h1 => ?_)
  · have hil : pre.length < D.length := by omega
    have hkd : D.getD pre.length 0 < d.length := hlt _ (List.mem_of_getElem? (by simp [List.getD, hil] : D[pre.length]? = some (D.getD pre.length 0)))
    have hnext : (pre ++ [(⟨D.getD pre.length 0, hkd⟩ : Sec d.length)]).map (·.1) = D.take (pre.length + 1) := by
      rw [List.map_append, hp, List.take_add_one]
      simp [List.getD, hil]
    refine WG.skip (WN.g_then (WG.seq (WG.block (WG.seq (WG.region (fun _ _ h => h) rfl ?_)))))
    (repeat (first | refine WL.step (Yl.assign rfl) rfl ?_ | refine WL.step (Yl.load (T := 3) Tryz.isAgg3 rfl (Rd.old hr.cells) (ncells_at hil)) rfl ?_ | refine WL.step (Yl.indexAddr1 (t := 61) (j := pre.length) Tryz.underlying61 Tryz.sizeOf3 rfl rfl (Rd.old hr.cells) (ne_nil_of (ncells_at hil)) hil) rfl ?_))
    refine WL.nil (WN.g_then (WG.seq ?_))
    refine WG.yield (l := l) (m := 1 - 1) (v := .int .i64 ((D.getD pre.length 0 : Nat) : Int)) (R := fun e W' => (e = .returned (.bool true) ∧ J (pre ++ [(⟨D.getD pre.length 0, hkd⟩ : Sec d.length)]) W' ∧ Kp B w W') ∨ (e = .returned (.bool false) ∧ Jx (pre ++ [(⟨D.getD pre.length 0, hkd⟩ : Sec d.length)]) W')) ?_ ?_ ?_ ?_ ?_ ?_ ?_ ?_ ?_ ?_ ?_ ?_
    · rfl
    · rfl
    · rfl
    · exact fun _ => rfl
    · rfl
    · rfl
    · rfl
    · rfl
    · intro w' s'
      refine YieldAt.mono (hY pre (⟨_, hkd⟩ : Sec d.length) w' (hkJ w' s'.kept) hil) fun e W' hq => ?_
      rcases hq with ⟨h1, h2, h3⟩ | h2
      · exact .inl ⟨h1, h2, (s'.kept.kp B).trans h3⟩
      · exact .inr h2
    · intro e w' hq
      rcases hq with h | h
      · exact ⟨true, h.1⟩
      · exact ⟨false, h.1⟩
    rotate_left
    · intro _ _ _ _
      exact zS
    intro bb a' w' hR f'
    rcases hR with ⟨hb1, hJ', hK'⟩ | ⟨hb1, hJ'⟩
    · obtain rfl : bb = true := by simpa using hb1
      refine WG.elim (X := ⟨Tryz.prog, 24, w', []⟩) (A := []) ?_ a' w' f' (St.start w')
      refine WG.cond_false rfl rfl ?_
      (repeat (first | refine WL.step (Yl.move rfl) rfl ?_ | (refine WL.k_bin .add ?_; refine WL.step (Yl.add64C rfl (by omega)) rfl ?_) | refine WG.region (fun _ _ h => h) rfl ?_ | refine WL.nil ?_ | refine WN.g_then ?_ | refine WG.skip ?_ | refine WN.g_bnormal ?_))
      refine WN.g_done fun a3 w3 f3 s3 => ⟨m - 1, by omega, pre ++ [⟨_, hkd⟩], by simp only [List.length_append, List.length_singleton]; omega, by rw [List.length_append, List.length_singleton]; exact hnext, hJ _ w' w3 none hJ' s3.kept.grown (fun r e => by cases e), (hr.kp hK').keep s3.kept, a3, rfl, f3.of_sub (by rw [List.length_append, List.length_singleton]; exact zS)⟩
    · obtain rfl : bb = false := by simpa using hb1
      refine WG.elim (X := ⟨Tryz.prog, 24, w', []⟩) (A := []) ?_ a' w' f' (St.start w')
      refine WG.cond_true rfl rfl ?_
      (repeat (first | refine WG.ret ?_ | refine WN.g_ret ?_ | refine WN.g_bret ?_))
      exact WN.iret rfl (fun w3 s3 => ⟨⟨_, rfl⟩, .inr ⟨pre ++ [⟨_, hkd⟩], by unfold PartOf; rw [hnext]; exact List.take_prefix _ _, hJx _ w' w3 none hJ' s3.kept.grown (fun r e => by cases e)⟩⟩)
  · have hN : pre.length = D.length := by omega
    (repeat (first | refine WG.exit ?_ | refine WN.g_exit ?_ | refine WN.g_bhere ?_))
    exact WN.iend rfl (fun w s => ⟨⟨_, rfl⟩, .inl ⟨pre, take_pre hp hN, hkJ w s.kept⟩⟩)
end
end Go.Proofs.YtbkdjfgkebkknaaGreatDoor
namespace Go.Proofs.YtbkdjfgkebkknaaGreatDoor
set_option linter.unusedVariables false
set_option linter.unusedSimpArgs false
open Go Go.RowKit
set_option maxRecDepth 100000
set_option maxHeartbeats 4000000
def zcells (L : List Int) : List Value := L.map fun k => Value.int .i64 k
theorem zcells_len (L : List Int) : (zcells L).length = L.length := List.length_map _
theorem zcells_at {L : List Int} {i : Nat} (h : i < L.length) : (zcells L)[i]? = some (.int .i64 (L.getD i 0)) := by simp [zcells, List.getD, h]
theorem zcells_ne {L : List Int} {i : Nat} (h : i < L.length) : zcells L ≠ [] := ne_nil_of (zcells_at h)
attribute [local irreducible] WL WC WN Yl WH WQ WT WE WU WG Post
end Go.Proofs.YtbkdjfgkebkknaaGreatDoor
namespace Go.Proofs.YtbkdjfgkebkknaaGreatDoor
set_option linter.unusedVariables false
set_option linter.unusedSimpArgs false
open Go Go.RowKit
theorem take_splice {α : Type} {n i : Nat} {us : List α} {l : List α} (h : i + us.length ≤ n) (hn : n ≤ l.length) : (l.take i ++ us ++ l.drop (i + us.length)).take n = (l.take n).take i ++ us ++ (l.take n).drop (i + us.length) := by
  have e : (l.take i ++ us).length = i + us.length := by rw [List.length_append, List.length_take]; omega
  rw [List.take_take, Nat.min_eq_left (by omega), List.drop_take, List.take_append, e, List.take_of_length_le (by omega)]
section
variable {X : Cx} {ops : Array Oper} {Q : Exit → Act → World → Prop} {rest : List Oper} {ρ : Env} {A B : List HA} {ty : TypeId} {ps : String} {af : Array Edge} {v : Value}
end
end Go.Proofs.YtbkdjfgkebkknaaGreatDoor
namespace Go.Proofs.YtbkdjfgkebkknaaGreatDoor
set_option linter.unusedVariables false
set_option linter.unusedSimpArgs false
open Go Go.RowKit
set_option maxRecDepth 100000
set_option maxHeartbeats 4000000
section
variable {X : Cx} {ops : Array Oper} {Q : Exit → Act → World → Prop} {rest : List Oper} {ρ : Env} {A B : List HA} {d : Tmp} {ty : TypeId} {ps : String} {af : Array Edge}
theorem WL.copyRow {x y : Operand} {t e T' : TypeId} {dl dc sl sc cap k i : Nat} {a a2 : Option Addr} {vs us : List Value} (hu : X.P.underlying t = some (.slice e)) (hs : (X.P.info? e).map (fun i => i.size) = some 1)
    (hx : ev ρ x = some (.slice (el a i) dl dc)) (hy : ev ρ y = some (.slice a2 sl sc)) (hp : Pick (.row a cap T' k vs) A B) (hr : Rd X A a2 us) (hv : us.length = min sl dl) (hf : i + us.length ≤ vs.length) (hne : vs ≠ [])
    (h1 : ∀ u ∈ us, u.oneCell' = true) (hd : Nat.blt d X.n = true)
    (h : WL X ops Q rest ((d, .int .i64 ((us.length : Nat) : Int)) :: ρ) (.row a cap T' k (vs.take i ++ us ++ vs.drop (i + us.length)) :: B)) :
    WL X ops Q (⟨some d, .call { callee := .builtin .copy, args := #[x, y], argTypes := #[t, t] }, ty, ps, af, none⟩ :: rest) ρ A :=
  WL.step1 (fun o ho _ ac w f s => by
    have s1 := s.pick hp
    rcases s1.holds _ (.head _) with ⟨_, hz⟩ | ⟨b, cs, rfl, hb, hsz, hcm, hvl, htk⟩
    · exact absurd hz hne
    · have ea : (⟨b, 0, none⟩ : Addr).add i = ⟨b, i, none⟩ := by unfold Addr.add; split <;> simp_all
      have hx' := f.ev hx
      simp only [el, Option.map_some, ea] at hx'
      have hc0 : cap ≠ 0 := by
        intro h0; rw [h0, Nat.zero_mul] at hsz
        exact hne (List.eq_nil_of_length_eq_zero (by omega))
      have fin : ∀ {v : Value} {w' : World}, (Builtin.copy_ #[t, t] o.type #[.slice (some ⟨b, i, none⟩) dl dc, .slice a2 sl sc]).run X.P w = .ok v w' → (execOp ac.eval o).run X.P w = .ok (.value v) w' := fun hr => by
        simp only [execOp, ho, resolve, invoke, builtin, Sem.run_bind, Sem.run_pure, Result.andThen_ok, List.map_toArray, List.map_cons, List.map_nil, hx', f.ev hy, hr]
      by_cases h0 : us = []
      · subst h0
        have hr := run_copy_none (P := X.P) w t t o.type e (some ⟨b, i, none⟩) a2 dl dc sl sc hu hs (by simpa using hv.symm)
        refine ⟨w, fin hr, ?_⟩
        simpa using s1
      · obtain ⟨ad, rfl⟩ := hr.some_ h0 s
        have hsrc : ∀ j v, us[j]? = some v → w.cell? (ad.add j) = some v := fun j v hj => by
          obtain ⟨ad2, h2, h3⟩ := hr.at_ hj s
          rw [el, Option.map_some] at h2
          rwa [← Option.some.inj h2] at h3
        have e3 := take_splice (l := cs.toList) hf (by simpa using hvl)
        rw [htk] at e3
        have hl2 : (vs.take i ++ us ++ vs.drop (i + us.length)).length = vs.length := by simp only [List.length_append, List.length_take, List.length_drop]; omega
        have hr := run_copy_row (P := X.P) w t t o.type e b i dl dc ad sl sc cs T' us hu hs hb hv hsrc (by omega) h1
        refine ⟨_, fin hr, s1.put (x := .row _ _ _ _ _) (y := .row (some ⟨b, 0, none⟩) cap T' k (vs.take i ++ us ++ vs.drop (i + us.length))) (by simp [HA.foot, hc0]) (by simp [HA.foot, hc0]) (Kept.setRow w b _)
          (.inr ⟨b, _, rfl, setRow_heap w b cs _ T' _ hb, ?_, hcm, ?_, ?_⟩)⟩
        · rw [List.size_toArray, ← hsz]; simp only [List.length_append, List.length_take, List.length_drop, Array.length_toList]; omega
        · rw [hl2, List.size_toArray]; simp only [List.length_append, List.length_take, List.length_drop, Array.length_toList]; omega
        · rw [hl2]; exact e3) hd h
theorem Yl.max2 {x y : Operand} {ts : Array TypeId} {k : IntKind} {m n : Int} (hx : ev ρ x = some (.int k m)) (hy : ev ρ y = some (.int k n)) :
    Yl X (.call { callee := .builtin .max, args := #[x, y], argTypes := ts }) ty ρ A (.int k (if n > m then n else m)) := Yl.intro fun o ho _ a w f _ => by
  simp [execOp, ho, resolve, invoke, builtin, f.ev hx, f.ev hy, run_max_int2]
end
def smin (m n : Int) : Int := if n < m then n else m
def smax (m n : Int) : Int := if n > m then n else m
def lminTo (L : List Int) (i : Nat) : Int := (L.take i).foldl smin (L.getD 0 0)
def lmaxTo (L : List Int) (i : Nat) : Int := (L.take i).foldl smax (L.getD 0 0)
theorem lminTo_succ {L : List Int} {i : Nat} (h : i < L.length) : lminTo L (i + 1) = smin (lminTo L i) (L.getD i 0) := by
  rw [lminTo, lminTo, List.take_add_one, List.foldl_append, show L[i]? = some (L.getD i 0) by simp [List.getD, h]]; rfl
theorem lmaxTo_succ {L : List Int} {i : Nat} (h : i < L.length) : lmaxTo L (i + 1) = smax (lmaxTo L i) (L.getD i 0) := by
  rw [lmaxTo, lmaxTo, List.take_add_one, List.foldl_append, show L[i]? = some (L.getD i 0) by simp [List.getD, h]]; rfl
theorem lminTo_one {L : List Int} (h : 0 < L.length) : lminTo L 1 = L.getD 0 0 := by
  rw [lminTo_succ h]; simp [lminTo, smin]
theorem lmaxTo_one {L : List Int} (h : 0 < L.length) : lmaxTo L 1 = L.getD 0 0 := by
  rw [lmaxTo_succ h]; simp [lmaxTo, smax]
theorem foldl_smin (l : List Int) : ∀ z : Int, (l.foldl smin z < 0 ↔ z < 0 ∨ ∃ k ∈ l, k < 0) := by
  induction l with
  | nil => intro z; simp
  | cons x l ih =>
    intro z
    rw [List.foldl_cons, ih]
    simp only [smin, List.mem_cons, exists_eq_or_imp]
    generalize (∃ k, k ∈ l ∧ k < 0) = p
    by_cases hp : p <;> simp only [hp, or_true, or_false] <;> split <;> omega
theorem foldl_smax (l : List Int) : ∀ z : Int, (128 < l.foldl smax z ↔ 128 < z ∨ ∃ k ∈ l, 128 < k) := by
  induction l with
  | nil => intro z; simp
  | cons x l ih =>
    intro z
    rw [List.foldl_cons, ih]
    simp only [smax, List.mem_cons, exists_eq_or_imp]
    generalize (∃ k, k ∈ l ∧ 128 < k) = p
    by_cases hp : p <;> simp only [hp, or_true, or_false] <;> split <;> omega
theorem lmin_neg {L : List Int} (h : 0 < L.length) : lminTo L L.length < 0 ↔ ∃ k ∈ L, k < 0 := by
  rw [lminTo, List.take_length, foldl_smin]
  exact ⟨fun h2 => h2.elim (fun h3 => ⟨_, List.mem_of_getElem? (by simp [List.getD, h] : L[0]? = some (L.getD 0 0)), h3⟩) id, .inr⟩
theorem lmax_big {L : List Int} (h : 0 < L.length) : 128 < lmaxTo L L.length ↔ ∃ k ∈ L, 128 < k := by
  rw [lmaxTo, List.take_length, foldl_smax]
  exact ⟨fun h2 => h2.elim (fun h3 => ⟨_, List.mem_of_getElem? (by simp [List.getD, h] : L[0]? = some (L.getD 0 0)), h3⟩) id, .inr⟩
def keepOk (K : List Int) : Prop := K ≠ [] ∧ ∀ k ∈ K, 0 ≤ k ∧ k ≤ 128
instance (K : List Int) : Decidable (keepOk K) := inferInstanceAs (Decidable (_ ∧ _))
abbrev BSt := List (List UInt8) × (Nat → Option (List UInt8))
def keepAt (K : List Int) (i : Nat) : Nat := (K.getD (i % K.length) 0).toNat
def cstep (K : List Int) (s : BSt) (i x : Nat) : BSt :=
  (s.1.set x (((s.2 x).getD zblk).take (keepAt K i) ++ (s.1.getD x []).drop (keepAt K i)), setF s.2 x none)
def cfold (K : List Int) (s : BSt) (pre : List Nat) : BSt := (pre.zipIdx).foldl (fun s p => cstep K s p.2 p.1) s
theorem cfold_snoc (K : List Int) (s : BSt) (pre : List Nat) (x : Nat) : cfold K s (pre ++ [x]) = cstep K (cfold K s pre) pre.length x := by
  simp [cfold, List.zipIdx_append]
theorem cstep_len (K : List Int) (s : BSt) (i x : Nat) : (cstep K s i x).1.length = s.1.length := List.length_set
theorem cstep_wf {K : List Int} {s : BSt} {i x : Nat} (h : BkWf s.1 s.2) (hx : x < s.1.length) (hk : keepAt K i ≤ 128) : BkWf (cstep K s i x).1 (cstep K s i x).2 := by
  refine ⟨by rw [cstep_len]; exact h.pos, by rw [cstep_len]; exact h.le, fun y hy => ?_, fun k v hv => ?_⟩
  · rcases List.mem_or_eq_of_mem_set hy with hy | rfl
    · exact h.len y hy
    · have h1 := h.len _ (blk_mem hx)
      have h2 : ((s.2 x).getD zblk).length = 128 := by
        cases e : s.2 x with
        | none => rfl
        | some u => exact h.val x u e
      rw [List.length_append, List.length_take, List.length_drop]; omega
  · simp only [cstep, setF] at hv
    split at hv
    · cases hv
    · exact h.val k v hv
def crashR (K : List Int) (d : List (List UInt8)) (F : Nat → Option (List UInt8)) : BSt × Nat := if keepOk K then (cfold K (d, F) (dirtyOf d.length F), 0) else ((d, F), 2)
theorem keepAt_le {K : List Int} (h : keepOk K) (i : Nat) : keepAt K i ≤ 128 ∧ (keepAt K i : Int) = K.getD (i % K.length) 0 := by
  have hp : 0 < K.length := by rcases K with _ | ⟨k, K⟩; exact absurd rfl h.1; simp
  have hm : i % K.length < K.length := Nat.mod_lt _ hp
  have := h.2 _ (List.mem_of_getElem? (by simp [List.getD, hm] : K[i % K.length]? = some (K.getD (i % K.length) 0)))
  unfold keepAt; omega
attribute [local irreducible] WL WC WN Yl WH WQ WT WE WU WG Post
theorem min_c (a : Option Addr) (n cap : Nat) (L : List Int) (w : World) (hl : L.length = n) (h0 : 0 < n) (hn : n ≤ 9223372036854775807) (hr : CellsAt w a (zcells L)) :
    Calls Tryz.prog 160 #[.slice a n cap] w (Gives (Val (.int .i64 (lminTo L n))) w) := by
  have hz : 0 < L.length := by omega
  refine enter (args := [_]) Tryz.func160 Tryz.ntmps160 rfl rfl ?_
  (repeat (first | refine WL.step (Yl.move rfl) rfl ?_ | refine WL.step (Yl.assign rfl) rfl ?_ | refine WL.step (Yl.len (t := 61) Tryz.underlying61 rfl) rfl ?_ | (refine WL.k_bin .lss ?_; refine WL.step (Yl.lssF rfl rfl (by omega)) rfl ?_) | refine WC.seq ?_ | refine WC.region ?_ | refine WL.nil ?_ | refine WN.then_normal ?_))
  refine WC.cond_false rfl rfl ?_
  (repeat (first | refine WL.step (Yl.move rfl) rfl ?_ | refine WL.step (Yl.assign rfl) rfl ?_ | refine WL.step (Yl.load (T := 3) Tryz.isAgg3 rfl (.old hr) (zcells_at hz)) rfl ?_ | refine WL.step (Yl.indexAddr1 (t := 61) (j := 0) Tryz.underlying61 Tryz.sizeOf3 rfl rfl (.old hr) (zcells_ne hz) h0) rfl ?_ | refine WC.seq ?_ | refine WC.region ?_ | refine WL.nil ?_ | refine WN.then_normal ?_ | refine WC.block ?_ | refine WC.skip ?_))
  rw [← lminTo_one hz]
  refine WC.loop (α := Nat) (fun i => [(0, .slice a n cap), (3, .int .i64 (lminTo L i)), (4, .int .i64 (i : Int))]) (fun _ => []) (fun i => 1 ≤ i ∧ i ≤ n) (fun i => n - i) 1 zS .nil ⟨by omega, by omega⟩ ?_
  intro i ⟨h1, hi⟩
  (repeat (first | refine WL.step (Yl.move rfl) rfl ?_ | refine WL.step (Yl.len (t := 61) Tryz.underlying61 rfl) rfl ?_ | refine WL.step (Yl.lss rfl rfl) rfl ?_ | refine WC.seq ?_ | refine WC.region ?_ | refine WL.nil ?_ | refine WN.then_normal ?_))
  refine WC.ite rfl (fun h2 => ?_) (fun h2 => ?_)
  · have hil : i < L.length := by omega
    (repeat (first | refine WL.step (Yl.move rfl) rfl ?_ | refine WL.step (Yl.assign rfl) rfl ?_ | refine WL.step (Yl.load (T := 3) Tryz.isAgg3 rfl (.old hr) (zcells_at hil)) rfl ?_ | (refine WL.k_idxa ?_; refine WL.step (Yl.indexAddr1 (t := 61) (j := i) Tryz.underlying61 Tryz.sizeOf3 rfl rfl (.old hr) (zcells_ne hil) (by omega)) rfl ?_) | refine WL.step (Yl.min2 rfl rfl) rfl ?_ | (refine WL.k_bin .add ?_; refine WL.step (Yl.add64C rfl (by omega)) rfl ?_) | refine WC.seq ?_ | refine WC.region ?_ | refine WL.nil ?_ | refine WN.then_normal ?_ | refine WC.block ?_ | refine WC.skip ?_ | refine WN.block_normal ?_))
    exact WN.next (i + 1) ⟨by omega, by omega⟩ (by omega) (by rw [lminTo_succ hil]; exact zS) .nil
  · obtain rfl : i = n := by omega
    (repeat (first | refine WL.step (Yl.move rfl) rfl ?_ | refine WL.step (Yl.assign rfl) rfl ?_ | refine WC.seq ?_ | refine WC.region ?_ | refine WL.nil ?_ | refine WN.then_normal ?_ | refine WC.exit ?_ | refine WC.ret ?_ | refine WN.then_exit ?_ | refine WN.block_here ?_))
    exact WN.ret1 rfl rfl ⟨rfl, rfl⟩ .nil
theorem max_c (a : Option Addr) (n cap : Nat) (L : List Int) (w : World) (hl : L.length = n) (h0 : 0 < n) (hn : n ≤ 9223372036854775807) (hr : CellsAt w a (zcells L)) :
    Calls Tryz.prog 161 #[.slice a n cap] w (Gives (Val (.int .i64 (lmaxTo L n))) w) := by
  have hz : 0 < L.length := by omega
  refine enter (args := [_]) Tryz.func161 Tryz.ntmps161 rfl rfl ?_
  (repeat (first | refine WL.step (Yl.move rfl) rfl ?_ | refine WL.step (Yl.assign rfl) rfl ?_ | refine WL.step (Yl.len (t := 61) Tryz.underlying61 rfl) rfl ?_ | (refine WL.k_bin .lss ?_; refine WL.step (Yl.lssF rfl rfl (by omega)) rfl ?_) | refine WC.seq ?_ | refine WC.region ?_ | refine WL.nil ?_ | refine WN.then_normal ?_))
  refine WC.cond_false rfl rfl ?_
  (repeat (first | refine WL.step (Yl.move rfl) rfl ?_ | refine WL.step (Yl.assign rfl) rfl ?_ | refine WL.step (Yl.load (T := 3) Tryz.isAgg3 rfl (.old hr) (zcells_at hz)) rfl ?_ | refine WL.step (Yl.indexAddr1 (t := 61) (j := 0) Tryz.underlying61 Tryz.sizeOf3 rfl rfl (.old hr) (zcells_ne hz) h0) rfl ?_ | refine WC.seq ?_ | refine WC.region ?_ | refine WL.nil ?_ | refine WN.then_normal ?_ | refine WC.block ?_ | refine WC.skip ?_))
  rw [← lmaxTo_one hz]
  refine WC.loop (α := Nat) (fun i => [(0, .slice a n cap), (3, .int .i64 (lmaxTo L i)), (4, .int .i64 (i : Int))]) (fun _ => []) (fun i => 1 ≤ i ∧ i ≤ n) (fun i => n - i) 1 zS .nil ⟨by omega, by omega⟩ ?_
  intro i ⟨h1, hi⟩
  (repeat (first | refine WL.step (Yl.move rfl) rfl ?_ | refine WL.step (Yl.len (t := 61) Tryz.underlying61 rfl) rfl ?_ | refine WL.step (Yl.lss rfl rfl) rfl ?_ | refine WC.seq ?_ | refine WC.region ?_ | refine WL.nil ?_ | refine WN.then_normal ?_))
  refine WC.ite rfl (fun h2 => ?_) (fun h2 => ?_)
  · have hil : i < L.length := by omega
    (repeat (first | refine WL.step (Yl.move rfl) rfl ?_ | refine WL.step (Yl.assign rfl) rfl ?_ | refine WL.step (Yl.load (T := 3) Tryz.isAgg3 rfl (.old hr) (zcells_at hil)) rfl ?_ | (refine WL.k_idxa ?_; refine WL.step (Yl.indexAddr1 (t := 61) (j := i) Tryz.underlying61 Tryz.sizeOf3 rfl rfl (.old hr) (zcells_ne hil) (by omega)) rfl ?_) | refine WL.step (Yl.max2 rfl rfl) rfl ?_ | (refine WL.k_bin .add ?_; refine WL.step (Yl.add64C rfl (by omega)) rfl ?_) | refine WC.seq ?_ | refine WC.region ?_ | refine WL.nil ?_ | refine WN.then_normal ?_ | refine WC.block ?_ | refine WC.skip ?_ | refine WN.block_normal ?_))
    exact WN.next (i + 1) ⟨by omega, by omega⟩ (by omega) (by rw [lmaxTo_succ hil]; exact zS) .nil
  · obtain rfl : i = n := by omega
    (repeat (first | refine WL.step (Yl.move rfl) rfl ?_ | refine WL.step (Yl.assign rfl) rfl ?_ | refine WC.seq ?_ | refine WC.region ?_ | refine WL.nil ?_ | refine WN.then_normal ?_ | refine WC.exit ?_ | refine WC.ret ?_ | refine WN.then_exit ?_ | refine WN.block_here ?_))
    exact WN.ret1 rfl rfl ⟨rfl, rfl⟩ .nil
end Go.Proofs.YtbkdjfgkebkknaaGreatDoor
namespace Go.Proofs.YtbkdjfgkebkknaaGreatDoor
set_option linter.unusedVariables false
set_option linter.unusedSimpArgs false
open Go Go.RowKit
set_option maxRecDepth 100000
set_option maxHeartbeats 8000000
section
variable {X : Cx} {ρ : Env} {A : List HA} {ty : TypeId}
theorem Yl.arrTo {x h : Operand} {t e : TypeId} {n k b off hi : Nat} {ik : IntKind} (hu : X.P.underlying t = some (.array n e)) (hs : ∀ w, (sizeOf e).run X.P w = .ok k w) (hx : ev ρ x = some (.pointer (some ⟨b, off, none⟩)))
    (hh : ev ρ h = some (.int ik (hi : Int))) (hl : hi ≤ n) (h0 : 0 < n) : Yl X (.slice t x none (some h) none) ty ρ A (.slice (some ⟨b, off, none⟩) hi n) := Yl.intro fun o ho _ a w f _ => by
  simp [execOp, ho, f.ev hx, f.ev hh, Instr.sliceAt, run_underlying hu, Instr.sureAddr, Instr.sliceBounds, Instr.sliceBound, asIntOf, hl, hs, Addr.add]
theorem Rd.blkTake {b : Nat} {u : List UInt8} {T : TypeId} {fr : Nat × Nat} (hm : HA.blk b (.cells (bs u).toArray T fr) ∈ A) (k : Nat) : Rd X A (some ⟨b, 0, none⟩) (bs (u.take k)) := fun w s => .inr ⟨b, 0, rfl, fun i v hv => by
  have hc : w.heap[b]? = some (.cells (bs u).toArray T fr) := s.holds _ hm
  have h2 : (bs u)[i]? = some v := by
    have e : bs (u.take k) = (bs u).take k := by simp [bs, List.map_take]
    rw [e, List.getElem?_take] at hv
    split at hv
    · exact hv
    · cases hv
  rw [Nat.zero_add]
  simp only [World.cell?, hc]
  simpa using h2⟩
end
theorem flat_put : ∀ {D : List (List UInt8)} {x kk : Nat} {u : List UInt8}, (∀ y ∈ D, y.length = 128) → x < D.length → kk ≤ 128 → D.flatten.take (x * 128) ++ u.take kk ++ D.flatten.drop (x * 128 + kk) = (D.set x (u.take kk ++ (D.getD x []).drop kk)).flatten
  | [], _, _, _, _, h, _ => by simp at h
  | y :: D, 0, kk, u, hl, _, hk => by
    have hy := hl y (.head _)
    simp only [Nat.zero_mul, List.take_zero, List.nil_append, Nat.zero_add, List.flatten_cons, List.set_cons_zero, List.getD_cons_zero]
    rw [List.drop_append_of_le_length (by omega), List.append_assoc]
  | y :: D, x + 1, kk, u, hl, h, hk => by
    have hy := hl y (.head _)
    have ih := flat_put (D := D) (x := x) (kk := kk) (u := u) (fun z hz => hl z (.tail _ hz)) (by simpa using h) hk
    have e1 : (x + 1) * 128 = y.length + x * 128 := by rw [hy]; omega
    simp only [List.flatten_cons, List.set_cons_succ, List.getD_cons_succ]
    rw [e1, List.take_length_add_append, Nat.add_assoc, List.drop_length_add_append, ← ih]
    simp only [List.append_assoc]
attribute [local irreducible] WL WC WN Yl WH WQ WT WE WU WG
def mms {n : Nat} (M : List (Nat × List UInt8 × Nat)) (pre : List (Sec n)) : List (Nat × List UInt8 × Nat) := pre.foldl (fun M x => mdel M x.1) M
theorem mms_snoc {n : Nat} (M : List (Nat × List UInt8 × Nat)) (pre : List (Sec n)) (x : Sec n) : mms M (pre ++ [x]) = mdel (mms M pre) x.1 := by simp [mms]
def cfs {n : Nat} (K : List Int) (s : BSt) (pre : List (Sec n)) : BSt := cfold K s (pre.map (·.1))
theorem cfs_snoc {n : Nat} (K : List Int) (s : BSt) (pre : List (Sec n)) (x : Sec n) : cfs K s (pre ++ [x]) = cstep K (cfs K s pre) pre.length x.1 := by
  simp [cfs, cfold_snoc]
section
variable {bk cap mb : Nat} {da : Option Addr} {d : List (List UInt8)} {F : Nat → Option (List UInt8)}
theorem bcrash_r (a : Option Addr) (m c2 : Nat) (K : List Int) (M : List (Nat × List UInt8 × Nat)) (c : Nat) (w : World) (hwf : BkWf d F) (hcap : d.length ≤ cap) (hM : MapIs d.length F M c) (hl : K.length = m) (hm : m ≤ 9223372036854775807)
    (st : St w ((bankItems bk da cap mb d M c).filterMap HA.foot) (bankItems bk da cap mb d M c) w) (hr : CellsOut w ((bankItems bk da cap mb d M c).filterMap HA.foot) a (zcells K)) :
    Calls Tryz.prog 121 #[bptr bk, .slice a m c2] w (GivesS ((bankItems bk da cap mb d M c).filterMap HA.foot) (BankV bk da cap mb (crashR K d F).1.1 (crashR K d F).1.2 (crashR K d F).2) w) := by
  have hle := hwf.le
  refine enterG (args := [.pointer (some ⟨bk, 0, none⟩), _]) Tryz.func121 Tryz.ntmps121 rfl rfl st ?_
  generalize hS : List.filterMap HA.foot (bankItems bk da cap mb d M c) = S at *
  unfold bankItems at *
  (repeat (first | refine WG.seq ?_ | refine WG.region (fun _ _ h => h) rfl ?_))
  refine WL.box rfl rfl fun b2 => ?_
  refine WL.box rfl rfl fun b3 => ?_
  (repeat (first | refine WL.step (Yl.assign rfl) rfl ?_ | (refine WL.k_load ?_; refine WL.step (Yl.loadBlk (T := 70) Tryz.isAgg70 rfl zH (by rfl)) rfl ?_) | (refine WL.k_call 97 ?_; refine WL.callV (g := 97) (v := .bool true) Tryz.call97 rfl (fun w s => valid_ok w (BankAt.of hwf hcap hM (.tail _ (.tail _ (.head _))) (.tail _ (.tail _ (.tail _ (.head _)))) (.tail _ (.tail _ (.tail _ (.tail _ (.head _))))) s)) rfl ?_) | refine WL.step (Yl.not rfl) rfl ?_ | refine WG.seq ?_ | refine WG.region (fun _ _ h => h) rfl ?_ | refine WL.nil ?_ | refine WN.g_then ?_ | refine WG.block ?_))
  refine WG.cond_false rfl rfl ?_
  by_cases h0 : m = 0
  · subst h0
    rw [crashR, if_neg (fun h => h.1 (List.eq_nil_of_length_eq_zero hl))]
    (repeat (first | refine WL.pass rfl rfl rfl rfl ?_ | refine WL.step (Yl.move rfl) rfl ?_ | refine WL.step (Yl.assign rfl) rfl ?_ | (refine WL.k_load ?_; refine WL.step (Yl.loadBlk (T := 61) Tryz.isAgg61 rfl zH (by rfl)) rfl ?_) | refine WL.step (Yl.pick_t rfl rfl rfl) rfl ?_ | refine WL.step (Yl.len (t := 61) Tryz.underlying61 rfl) rfl ?_ | refine WL.step (Yl.eqlT rfl rfl rfl) rfl ?_ | refine WG.seq ?_ | refine WG.region (fun _ _ h => h) rfl ?_ | refine WL.nil ?_ | refine WN.g_then ?_))
    refine WG.cond_true rfl rfl ?_
    (repeat (first | refine WL.step (Yl.assign rfl) rfl ?_ | refine WG.seq ?_ | refine WG.region (fun _ _ h => h) rfl ?_ | refine WL.nil ?_ | refine WN.g_then ?_ | refine WG.ret ?_ | refine WN.g_ret ?_ | refine WN.g_bret ?_))
    exact WN.ret1N rfl rfl ⟨M, c, hM, rfl, rfl⟩ (by repeat (first | exact Part.nil | refine Part.cons zK ?_ | refine Part.free ?_))
  have hpos : 0 < K.length := by omega
  have hmin := lmin_neg hpos
  have hmax := lmax_big hpos
  rw [hl] at hmin hmax
  by_cases h1 : lminTo K m < 0
  · rw [crashR, if_neg (fun h => by obtain ⟨k, hk, h2⟩ := hmin.1 h1; have := h.2 k hk; omega)]
    (repeat (first | (refine WL.kG ?_; first | refine WL.want rfl rfl rfl ?_ | refine WL.pass rfl rfl rfl rfl ?_) | refine WL.step (Yl.move rfl) rfl ?_ | refine WL.step (Yl.assign rfl) rfl ?_ | (refine WL.k_load ?_; refine WL.step (Yl.loadBlk (T := 61) Tryz.isAgg61 rfl zH (by rfl)) rfl ?_) | (refine WL.k_pick ?_; first | refine WL.step (Yl.pick_t rfl rfl rfl) rfl ?_ | refine WL.step (Yl.pick_f rfl rfl rfl) rfl ?_) | refine WL.step (Yl.len (t := 61) Tryz.underlying61 rfl) rfl ?_ | (refine WL.k_bin .eql ?_; refine WL.step (Yl.eqlF rfl rfl (by omega)) rfl ?_) | (refine WL.k_call 160 ?_; refine WL.callV (g := 160) (v := .int .i64 (lminTo K m)) Tryz.call160 rfl (fun w s => min_c a m c2 K w hl (by omega) hm (Rd.out hr w s)) rfl ?_) | refine WL.step (Yl.lssT rfl rfl h1) rfl ?_ | refine WG.seq ?_ | refine WG.region (fun _ _ h => h) rfl ?_ | refine WL.nil ?_ | refine WN.g_then ?_))
    refine WG.cond_true rfl rfl ?_
    (repeat (first | refine WL.step (Yl.assign rfl) rfl ?_ | refine WG.seq ?_ | refine WG.region (fun _ _ h => h) rfl ?_ | refine WL.nil ?_ | refine WN.g_then ?_ | refine WG.ret ?_ | refine WN.g_ret ?_ | refine WN.g_bret ?_))
    exact WN.ret1N rfl rfl ⟨M, c, hM, rfl, rfl⟩ (by repeat (first | exact Part.nil | refine Part.cons zK ?_ | refine Part.free ?_))
  by_cases h2 : 128 < lmaxTo K m
  · rw [crashR, if_neg (fun h => by obtain ⟨k, hk, h2⟩ := hmax.1 h2; have := h.2 k hk; omega)]
    (repeat (first | refine WL.want rfl rfl rfl ?_ | refine WL.step (Yl.move rfl) rfl ?_ | refine WL.step (Yl.assign rfl) rfl ?_ | (refine WL.k_load ?_; refine WL.step (Yl.loadBlk (T := 61) Tryz.isAgg61 rfl zH (by rfl)) rfl ?_) | refine WL.step (Yl.pick_f rfl rfl rfl) rfl ?_ | refine WL.step (Yl.len (t := 61) Tryz.underlying61 rfl) rfl ?_ | (refine WL.k_bin .eql ?_; refine WL.step (Yl.eqlF rfl rfl (by omega)) rfl ?_) | (refine WL.k_call 160 ?_; refine WL.callV (g := 160) (v := .int .i64 (lminTo K m)) Tryz.call160 rfl (fun w s => min_c a m c2 K w hl (by omega) hm (Rd.out hr w s)) rfl ?_) | refine WL.step (Yl.lssF rfl rfl h1) rfl ?_ | (refine WL.k_call 161 ?_; refine WL.callV (g := 161) (v := .int .i64 (lmaxTo K m)) Tryz.call161 rfl (fun w s => max_c a m c2 K w hl (by omega) hm (Rd.out hr w s)) rfl ?_) | refine WL.step (Yl.gtrT rfl rfl h2) rfl ?_ | refine WG.seq ?_ | refine WG.region (fun _ _ h => h) rfl ?_ | refine WL.nil ?_ | refine WN.g_then ?_))
    refine WG.cond_true rfl rfl ?_
    (repeat (first | refine WL.step (Yl.assign rfl) rfl ?_ | refine WG.seq ?_ | refine WG.region (fun _ _ h => h) rfl ?_ | refine WL.nil ?_ | refine WN.g_then ?_ | refine WG.ret ?_ | refine WN.g_ret ?_ | refine WN.g_bret ?_))
    exact WN.ret1N rfl rfl ⟨M, c, hM, rfl, rfl⟩ (by repeat (first | exact Part.nil | refine Part.cons zK ?_ | refine Part.free ?_))
  have hok : keepOk K := ⟨fun e => by rw [e] at hpos; simp at hpos, fun k hk => ⟨by by_cases hn : k < 0; exact absurd (hmin.2 ⟨k, hk, hn⟩) h1; omega, by by_cases hn : 128 < k; exact absurd (hmax.2 ⟨k, hk, hn⟩) h2; omega⟩⟩
  rw [crashR, if_pos hok]
  (repeat (first | refine WL.want rfl rfl rfl ?_ | refine WL.step (Yl.move rfl) rfl ?_ | refine WL.step (Yl.assign rfl) rfl ?_ | (refine WL.k_load ?_; refine WL.step (Yl.loadBlk (T := 61) Tryz.isAgg61 rfl zH (by rfl)) rfl ?_) | refine WL.step (Yl.pick_f rfl rfl rfl) rfl ?_ | refine WL.step (Yl.len (t := 61) Tryz.underlying61 rfl) rfl ?_ | (refine WL.k_bin .eql ?_; refine WL.step (Yl.eqlF rfl rfl (by omega)) rfl ?_) | (refine WL.k_call 160 ?_; refine WL.callV (g := 160) (v := .int .i64 (lminTo K m)) Tryz.call160 rfl (fun w s => min_c a m c2 K w hl (by omega) hm (Rd.out hr w s)) rfl ?_) | refine WL.step (Yl.lssF rfl rfl h1) rfl ?_ | (refine WL.k_call 161 ?_; refine WL.callV (g := 161) (v := .int .i64 (lmaxTo K m)) Tryz.call161 rfl (fun w s => max_c a m c2 K w hl (by omega) hm (Rd.out hr w s)) rfl ?_) | refine WL.step (Yl.gtrF rfl rfl h2) rfl ?_ | refine WG.seq ?_ | refine WG.region (fun _ _ h => h) rfl ?_ | refine WL.nil ?_ | refine WN.g_then ?_))
  refine WG.cond_false rfl rfl ?_
  (repeat (first | refine WG.seq ?_ | refine WG.region (fun _ _ h => h) rfl ?_ | refine WN.g_then ?_ | refine WG.skip ?_ | refine WN.g_bnormal ?_))
  refine WL.alloc (T := 3) Tryz.zeroValue3 rfl fun b5 => ?_
  refine WL.storeAt (T := 3) Tryz.sizeOf3 rfl rfl rfl zK rfl ?_
  (repeat (first | (refine WL.k_load ?_; refine WL.step (Yl.loadBlk (T := 70) Tryz.isAgg70 rfl zH (by rfl)) rfl ?_) | refine WG.seq ?_ | refine WG.region (fun _ _ h => h) rfl ?_ | refine WL.nil ?_ | refine WN.g_then ?_))
  refine WL.call (g := 45) Tryz.call45 rfl (fun w s => bdirty_c _ w) rfl fun v1 B1 hv1 => ?_
  obtain ⟨bx, rfl, rfl⟩ := hv1
  simp only [List.cons_append, List.nil_append]
  (repeat (first | refine WL.nil ?_ | refine WN.g_then ?_ | refine WG.block ?_))
  refine WG.rangeF (enc := fun x : Sec d.length => secv x) (S := AllOf d.length (dirtyOf d.length F)) (Sp := PartOf d.length (dirtyOf d.length F)) (N := (dirtyOf d.length F).length) (lb := [.pointer (some ⟨bx, 0, none⟩)]) rfl Tryz.call96 rfl rfl
    (fun w s => dirty_seq w _ (Nat.le_refl _) (BankAt.of hwf hcap hM zH zH zH s) (s.holds _ (.head _)))
    (fun pre => [.blk bx (.cells #[.pointer (some ⟨bk, 0, none⟩)] 70 (0, 0)), .blk b5 (.cells #[.int .i64 (pre.length : Int)] 3 (0, 0)), .blk b3 (.cells #[.slice a m c2] 61 (0, 0)), .blk b2 (.cells #[.pointer (some ⟨bk, 0, none⟩)] 70 (0, 0)), .blk bk (.cells #[.slice da d.length cap, .map (some mb)] 154 (0, 0)), .row da cap 151 128 (bs (cfs K (d, F) pre).1.flatten), .blk mb (mobj encB (mms M pre) c)])
    (fun _ _ => [.blk bx (.cells #[.pointer (some ⟨bk, 0, none⟩)] 70 (0, 0)), .blk b5 (.cells #[.int .i64 ((0 : Nat) : Int)] 3 (0, 0)), .blk b3 (.cells #[.slice a m c2] 61 (0, 0)), .blk b2 (.cells #[.pointer (some ⟨bk, 0, none⟩)] 70 (0, 0)), .blk bk (.cells #[.slice da d.length cap, .map (some mb)] 154 (0, 0)), .row da cap 151 128 (bs d.flatten), .blk mb (mobj encB M c)])
    (fun pre => MapIs d.length (cfs K (d, F) pre).2 (mms M pre) c ∧ BkWf (cfs K (d, F) pre).1 (cfs K (d, F) pre).2 ∧ (cfs K (d, F) pre).1.length = d.length ∧ pre.length ≤ 100000) (fun _ _ => False) (by repeat (first | exact Part.nil | refine Part.cons zK ?_ | refine Part.free ?_)) ⟨hM, hwf, rfl, Nat.zero_le _⟩ (fun _ => rfl) (fun _ _ => rfl) ?_ ?_ ?_
  · intro l pre x w1 ⟨g1, g2, g3, g4⟩ hlen st
    have hN := dirty_len d.length F
    have hx := x.2
    have ho := hr.pass st (fun b hb => feet_mem.1 hb)
    have hsn := cfs_snoc K (d, F) pre x
    have hsm := mms_snoc M pre x
    have hka := keepAt_le hok pre.length
    have hmod : pre.length % m < K.length := by rw [hl]; exact Nat.mod_lt _ (by omega)
    have hz : (zcells K)[pre.length % m]? = some (.int .i64 ((keepAt K pre.length : Nat) : Int)) := by
      rw [hka.2, hl]; exact zcells_at hmod
    generalize hT : cfs K (d, F) pre = t at *
    generalize hMM : mms M pre = MM at *
    generalize hkk : keepAt K pre.length = kk at *
    have hxt : x.1 < t.1.length := by omega
    have hnet := flat_ne g2.len g2.pos
    obtain ⟨u, hu⟩ : ∃ u, u = (t.2 x.1).getD zblk := ⟨_, rfl⟩
    have hul : u.length = 128 := by
      rw [hu]
      cases e : t.2 x.1 with
      | none => rfl
      | some v => exact g2.val _ v e
    (repeat (first | refine WL.step (Yl.lookupG (k := x.1) (enc := encB) (u0 := zblk) Tryz.underlying149 Tryz.underlying3 zeroBlk rfl rfl g1 (Has.mem zH)) rfl ?_ | refine WL.step (Yl.move rfl) rfl ?_ | (refine WL.k_load ?_; first | refine WL.step (Yl.loadBlk (T := 70) Tryz.isAgg70 rfl zH (by rfl)) rfl ?_ | refine WL.step (Yl.loadBlk (T := 149) Tryz.isAgg149 rfl zH (by rfl)) rfl ?_) | refine WL.step (Yl.fld0 (t := 154) Tryz.underlying154 fl154 rfl rfl) rfl ?_ | refine WL.step (Yl.nilCheck rfl) rfl ?_ | refine WG.seq ?_ | refine WG.region (fun _ _ h => h) rfl ?_ | refine WG.block ?_))
    refine WL.allocA zeroBlk rfl fun b7 => ?_
    rw [← hu]
    refine WL.storeWhole (T := 151) (k := 128) (us := (bs u).toArray) Tryz.sizeOf151 rfl rfl (ball _) zK (bsize hul) rfl ?_
    (repeat (first | refine WG.seq ?_ | refine WL.nil ?_ | refine WN.g_then ?_))
    refine WG.regionE [.blk bx (.cells #[.pointer (some ⟨bk, 0, none⟩)] 70 (0, 0)), .blk b5 (.cells #[.int .i64 (pre.length : Int)] 3 (0, 0)), .blk b3 (.cells #[.slice a m c2] 61 (0, 0)), .blk b2 (.cells #[.pointer (some ⟨bk, 0, none⟩)] 70 (0, 0)), .blk bk (.cells #[.slice da d.length cap, .map (some mb)] 154 (0, 0)), .row da cap 151 128 (bs t.1.flatten)] 15 (by kernel_rfl) (fun _ _ h => h) rfl ?_
    (refine WE.order [0, 1, 2, 3, 4, 5, 6, 7, 8, 9, 10, 11, 12, 13, 14] (by repeat (first | exact Part.nil | refine Part.cons zK ?_ | refine Part.free ?_)) (by kernel_rfl) ?_; (repeat (first | (refine WU.k_move rfl ?_; (refine WU.kn rfl ?_; refine WU.take rfl rfl (fun _ _ _ h => h) (Yl.move rfl) rfl (by kernel_rfl) (by kernel_rfl) (by kernel_rfl) ?_)) | (refine WU.k_load rfl ?_; (refine WU.kn rfl ?_; first | refine WU.take rfl rfl (fun _ _ _ h => h) (Yl.loadBlk (T := 70) Tryz.isAgg70 rfl zH (by rfl)) rfl (by kernel_rfl) (by kernel_rfl) (by kernel_rfl) ?_ | refine WU.take rfl rfl (fun _ _ _ h => h) (Yl.loadBlk (T := 152) Tryz.isAgg152 rfl zH (by rfl)) rfl (by kernel_rfl) (by kernel_rfl) (by kernel_rfl) ?_ | refine WU.take rfl rfl (fun _ _ _ h => h) (Yl.loadBlk (T := 61) Tryz.isAgg61 rfl zH (by rfl)) rfl (by kernel_rfl) (by kernel_rfl) (by kernel_rfl) ?_ | refine WU.take rfl rfl (fun _ _ _ h => h) (Yl.loadBlk (T := 3) Tryz.isAgg3 rfl zH (by rfl)) rfl (by kernel_rfl) (by kernel_rfl) (by kernel_rfl) ?_ | refine WU.take rfl rfl (fun _ _ _ h => h) (Yl.load (T := 3) (i := pre.length % m) Tryz.isAgg3 rfl (Rd.out ho) hz) rfl (by kernel_rfl) (by kernel_rfl) (by kernel_rfl) ?_)) | (refine WU.k_fld rfl ?_; (refine WU.kn rfl ?_; refine WU.take rfl rfl (fun _ _ _ h => h) (Yl.fld0 (t := 154) Tryz.underlying154 fl154 rfl rfl) rfl (by kernel_rfl) (by kernel_rfl) (by kernel_rfl) ?_)) | (refine WU.k_bi .len rfl ?_; (refine WU.kn rfl ?_; refine WU.take rfl rfl (fun _ _ _ h => h) (Yl.len (t := 61) Tryz.underlying61 rfl) rfl (by kernel_rfl) (by kernel_rfl) (by kernel_rfl) ?_)) | (refine WU.k_nilc rfl ?_; (refine WU.kn rfl ?_; refine WU.take rfl rfl (fun _ _ _ h => h) (Yl.nilCheck rfl) rfl (by kernel_rfl) (by kernel_rfl) (by kernel_rfl) ?_)) | (refine WU.k_idxa rfl ?_; (refine WU.kn rfl ?_; first | refine WU.take rfl rfl (fun _ _ _ h => h) (Yl.indexAddr (t := 152) (j := x.1) Tryz.underlying152 Tryz.sizeOf151 rfl rfl (Rd.row (vs := bs t.1.flatten) (T := 151) (k := 128) (cap := cap) zH) hnet hx) rfl (by kernel_rfl) (by kernel_rfl) (by kernel_rfl) ?_ | refine WU.take rfl rfl (fun _ _ _ h => h) (Yl.indexAddr1 (t := 61) (j := pre.length % m) Tryz.underlying61 Tryz.sizeOf3 rfl rfl (Rd.out ho) (zcells_ne hmod) (by omega)) rfl (by kernel_rfl) (by kernel_rfl) (by kernel_rfl) ?_)) | (refine WU.k_slice rfl ?_; (refine WU.kn rfl ?_; first | refine WU.take rfl rfl (fun _ _ _ h => h) (Yl.arrEl (off := x.1 * 128) Tryz.underlying151 Tryz.sizeOf5 (Rd.row (vs := bs t.1.flatten) (T := 151) (k := 128) (cap := cap) zH) hnet rfl) rfl (by kernel_rfl) (by kernel_rfl) (by kernel_rfl) ?_ | refine WU.take rfl rfl (fun _ _ _ h => h) (Yl.arrTo (hi := kk) Tryz.underlying151 Tryz.sizeOf5 rfl rfl hka.1 (by decide)) rfl (by kernel_rfl) (by kernel_rfl) (by kernel_rfl) ?_)) | (refine WU.k_bin .rem rfl ?_; (refine WU.kn rfl ?_; refine WU.take rfl rfl (fun _ _ _ h => h) (Yl.remN rfl rfl (by omega)) rfl (by kernel_rfl) (by kernel_rfl) (by kernel_rfl) ?_)))); refine WU.nil ?_)
    refine WE.only (i := 15) (by kernel_rfl) rfl fun sh => ?_
    have hul2 : (u.take kk).length = kk := by rw [List.length_take]; omega
    have hfl := flat_len128 g2.len
    refine WL.copyRow (i := x.1 * 128) (vs := bs t.1.flatten) (us := bs (u.take kk)) Tryz.underlying23 (by kernel_rfl) rfl rfl zK (Rd.blkTake zH kk) (by rw [bs_length, hul2]; omega) (by rw [bs_length, hul2, hfl]; have : (x.1 + 1) * 128 ≤ t.1.length * 128 := Nat.mul_le_mul_right 128 hxt; omega) hnet (bs_one _) rfl ?_
    have hput : (bs t.1.flatten).take (x.1 * 128) ++ bs (u.take kk) ++ (bs t.1.flatten).drop (x.1 * 128 + (bs (u.take kk)).length) = bs (cstep K t pre.length x.1).1.flatten := by
      have := flat_put (u := u) g2.len hxt hka.1
      rw [cstep, ← hu, hkk]
      simp only
      rw [← this, bs_length, hul2]
      simp [bs, List.map_take, List.map_drop]
    rw [hput]
    refine WL.nil (WN.lastE (by kernel_rfl) sh (WE.done (by kernel_rfl) ?_))
    (repeat (first | refine WL.step (Yl.move rfl) rfl ?_ | (refine WL.k_load ?_; first | refine WL.step (Yl.loadBlk (T := 70) Tryz.isAgg70 rfl zH (by rfl)) rfl ?_ | refine WL.step (Yl.loadBlk (T := 149) Tryz.isAgg149 rfl zH (by rfl)) rfl ?_) | refine WL.step (Yl.fld0 (t := 154) Tryz.underlying154 fl154 rfl rfl) rfl ?_ | refine WL.step (Yl.nilCheck rfl) rfl ?_ | refine WG.seq ?_ | refine WG.region (fun _ _ h => h) rfl ?_ | refine WN.g_then ?_))
    refine WL.mapDelete (k := x.1) (enc := encB) Tryz.underlying149 Tryz.underlying3 rfl rfl rfl g1 zK fun hM' => ?_
    (repeat (first | (refine WL.k_load ?_; refine WL.step (Yl.loadBlk (T := 3) Tryz.isAgg3 rfl zH (by rfl)) rfl ?_) | (refine WL.k_bin .add ?_; refine WL.step (Yl.add64C rfl (by omega)) rfl ?_) | refine WG.region (fun _ _ h => h) rfl ?_ | refine WL.nil ?_ | refine WN.g_then ?_))
    refine WL.storeAt (T := 3) Tryz.sizeOf3 rfl rfl rfl zK rfl ?_
    (repeat (first | refine WL.nil ?_ | refine WN.g_bnormal ?_))
    exact WN.rnext ⟨by rw [hsn, hsm]; exact hM', by rw [hsn]; exact cstep_wf g2 hxt (by rw [hkk]; exact hka.1), by rw [hsn, cstep_len]; exact g3, by simp only [List.length_append, List.length_singleton]; omega⟩ (by rw [hsn, hsm]; simp only [List.length_append, List.length_singleton]; exact (by repeat (first | exact Part.nil | refine Part.cons zK ?_ | refine Part.free ?_)))
  · intro D1 xs hall ⟨g1, g2, g3, _⟩
    have e : cfold K (d, F) (dirtyOf d.length F) = cfs K (d, F) xs := by rw [cfs, hall]
    rw [e]
    generalize cfs K (d, F) xs = t at *
    obtain ⟨d', F'⟩ := t
    simp only at g1 g2 g3 ⊢
    (repeat (first | refine WL.step (Yl.assign rfl) rfl ?_ | refine WG.seq ?_ | refine WG.region (fun _ _ h => h) rfl ?_ | refine WL.nil ?_ | refine WN.g_then ?_ | refine WG.ret ?_ | refine WN.g_bnormal ?_))
    refine WN.first (x := .blk D1 (.deferred (some []))) zK ?_
    refine WN.ret1M rfl rfl ⟨mms M xs, c, by rw [g3]; exact g1, rfl, rfl⟩ ?_
    rw [bankItems, g3]
    exact (by repeat (first | exact Part.nil | refine Part.cons zK ?_ | refine Part.free ?_))
  · intro D1 c1 pre hp h
    exact h.elim
end
end Go.Proofs.YtbkdjfgkebkknaaGreatDoor
namespace Go.Proofs.YtbkdjfgkebkknaaGreatDoor
set_option linter.unusedVariables false
set_option linter.unusedSimpArgs false
open Go Go.RowKit
set_option maxRecDepth 100000
set_option maxHeartbeats 4000000
theorem elemZ : ElemT Tryz.prog 3 (.int .i64 0) 1 8 := ElemT.of (by kernel_rfl) rfl (by decide)
theorem cutOf32 {w : World} {a : Option Addr} {cap : Nat} {l : List UInt8} (lo m : Nat) (hr : CellsAt w a (bs l)) (hc : l.length ≤ cap) : CellsAt w (cutA a lo cap 1) (bs ((l.drop lo).take m)) := by
  have := Rd.cut (lo := lo) (cap := cap) (k := 1) (m := m) (Rd.old (P := Tryz.prog) (n := 0) (A := []) hr) (by rw [bs_length]; omega) w (St.start w)
  rwa [Nat.mul_one, ← bs_drop, ← bs_take] at this
attribute [local irreducible] WL WC WN Yl WH WQ WT WE WU WG
section
variable {bk cap mb : Nat} {da : Option Addr} {d : List (List UInt8)} {F : Nat → Option (List UInt8)}
theorem bsync_r (M : List (Nat × List UInt8 × Nat)) (c : Nat) (w : World) (hwf : BkWf d F) (hcap : d.length ≤ cap) (hM : MapIs d.length F M c)
    (st : St w ((bankItems bk da cap mb d M c).filterMap HA.foot) (bankItems bk da cap mb d M c) w) :
    Calls Tryz.prog 92 #[bptr bk] w (GivesS ((bankItems bk da cap mb d M c).filterMap HA.foot) (BankV bk da cap mb (crashR [128] d F).1.1 (crashR [128] d F).1.2 (crashR [128] d F).2) w) := by
  refine enterS (args := [.pointer (some ⟨bk, 0, none⟩)]) Tryz.func92 Tryz.ntmps92 rfl rfl st ?_
  generalize hS : List.filterMap HA.foot (bankItems bk da cap mb d M c) = S at *
  rw [bankItems] at *
  (repeat (first | refine WL.step (Yl.move rfl) rfl ?_ | refine WL.step (Yl.assign rfl) rfl ?_ | refine WC.seq ?_ | refine WC.region ?_ | refine WL.nil ?_ | refine WN.then_normal ?_))
  refine WL.lit (t := 61) (vs := [.int .i64 128]) Tryz.underlying61 elemZ rfl rfl rfl (fun u hu => by rw [List.mem_singleton.1 hu]; rfl) rfl fun b9 => ?_
  rw [show flat [Value.int .i64 128] = zcells [128] from rfl]
  skip
  refine WL.callS3 Tryz.call121 rfl (.there .here) (.there .here) (.there .here) (fun w s hp s1 => bcrash_r _ 1 1 [128] M c w hwf hcap hM rfl (by decide) s1 (row_out s hp (.head _))) rfl fun v C hv => ?_
  obtain ⟨M', c', hM', rfl, rfl⟩ := hv
  rw [bankItems]
  simp only [List.cons_append, List.nil_append]
  (repeat (first | refine WL.step (Yl.assign rfl) rfl ?_ | refine WL.nil ?_ | refine WN.then_normal ?_ | refine WC.ret ?_))
  refine WN.ret1S rfl rfl ⟨M', c', hM', rfl, rfl⟩ ?_
  rw [bankItems]
  exact (by repeat (first | exact Part.nil | refine Part.cons zK ?_ | refine Part.free ?_))
end
def tearR (l m : List UInt8) (k : Int) : List UInt8 × Nat := if l.length = 128 ∧ m.length = 128 ∧ 0 ≤ k ∧ k ≤ 128 then (m.take k.toNat ++ l.drop k.toNat, 0) else ([], 2)
end Go.Proofs.YtbkdjfgkebkknaaGreatDoor
namespace Go.Proofs.YtbkdjfgkebkknaaGreatDoor
set_option linter.unusedVariables false
set_option linter.unusedSimpArgs false
open Go Go.RowKit
set_option maxRecDepth 100000
theorem write_wf {d : List (List UInt8)} {F : Nat → Option (List UInt8)} (h : BkWf d F) (s : Int) (x : List UInt8) : BkWf d (writeF d.length F s x) := by
  refine ⟨h.pos, h.le, h.len, fun k v hv => ?_⟩
  unfold writeF at hv
  split at hv
  · rename_i hc
    unfold setF at hv
    split at hv
    · cases hv; exact hc.2
    · exact h.val k v hv
  · exact h.val k v hv
theorem cfold_wf {K : List Int} (hk : keepOk K) : ∀ {pre : List Nat} {s : BSt}, BkWf s.1 s.2 → (∀ x ∈ pre, x < s.1.length) → BkWf (cfold K s pre).1 (cfold K s pre).2 ∧ (cfold K s pre).1.length = s.1.length := by
  intro pre
  obtain ⟨n, hn⟩ : ∃ n, pre.length = n := ⟨_, rfl⟩
  induction n generalizing pre with
  | zero => intro s h _; rw [List.eq_nil_of_length_eq_zero hn]; exact ⟨h, rfl⟩
  | succ n ih =>
    intro s h hx
    rcases List.eq_nil_or_concat pre with rfl | ⟨l, x, rfl⟩
    · simp at hn
    · rw [List.concat_eq_append] at *
      obtain ⟨h1, h2⟩ := ih (by simpa using hn) h (fun y hy => hx y (List.mem_append_left _ hy))
      rw [cfold_snoc]
      exact ⟨cstep_wf h1 (by rw [h2]; exact hx x (by simp)) (keepAt_le hk _).1, by rw [cstep_len, h2]⟩
theorem crash_wf {d : List (List UInt8)} {F : Nat → Option (List UInt8)} (K : List Int) (h : BkWf d F) : BkWf (crashR K d F).1.1 (crashR K d F).1.2 ∧ (crashR K d F).1.1.length = d.length := by
  unfold crashR
  split
  · rename_i hk
    exact cfold_wf (s := (d, F)) hk h (fun x hx => dirty_lt hx)
  · exact ⟨h, rfl⟩
theorem new_wf {n : Nat} (h1 : 1 ≤ n) (h2 : n ≤ 4096) : BkWf (List.replicate n zblk) (fun _ => none) :=
  ⟨by rw [List.length_replicate]; omega, by rw [List.length_replicate]; exact h2, fun x hx => by rw [List.eq_of_mem_replicate hx]; rfl, fun k v h => (by cases h)⟩
end Go.Proofs.YtbkdjfgkebkknaaGreatDoor
namespace Go.Proofs.YtbkdjfgkebkknaaGreatDoor
set_option linter.unusedVariables false
set_option linter.unusedSimpArgs false
open Go Go.RowKit
set_option maxRecDepth 100000
set_option maxHeartbeats 8000000
theorem CellsOut.cut {w : World} {S : List Nat} {a : Option Addr} {l : List UInt8} {cap : Nat} (h : CellsOut w S a (bs l)) (lo m : Nat) (hl : l.length ≤ cap) : CellsOut w S (cutA a lo cap 1) (bs ((l.drop lo).take m)) := by
  rcases h with h | ⟨b, off, rfl, hb, hc⟩
  · refine .inl ?_
    have : l = [] := by simpa [bs] using h
    subst this; simp [bs]
  · by_cases he : cap = lo
    · refine .inl ?_
      rw [List.drop_eq_nil_of_le (by omega)]; simp [bs]
    · refine .inr ⟨b, off + lo, by simp only [cutA, if_neg he, Option.map_some, Addr.add, Nat.mul_one]; split <;> simp_all, hb, fun i v hv => ?_⟩
      have hv2 : (bs l)[lo + i]? = some v := by
        have e : bs ((l.drop lo).take m) = ((bs l).drop lo).take m := by simp [bs, List.map_take, List.map_drop]
        rw [e, List.getElem?_take] at hv
        split at hv
        · rwa [List.getElem?_drop] at hv
        · cases hv
      rw [Nat.add_assoc]
      exact hc _ v hv2
theorem CellsOut.cutd {w : World} {S : List Nat} {a : Option Addr} {l : List UInt8} {cap : Nat} (h : CellsOut w S a (bs l)) (lo : Nat) (hl : l.length ≤ cap) : CellsOut w S (cutA a lo cap 1) (bs (l.drop lo)) := by
  have := h.cut lo (l.drop lo).length hl
  rwa [List.take_of_length_le (Nat.le_refl _)] at this
attribute [local irreducible] WL WC WN Yl WH WQ WT WE WU WG
end Go.Proofs.YtbkdjfgkebkknaaGreatDoor
namespace Go.Proofs.YtbkdjfgkebkknaaGreatDoor
set_option linter.unusedVariables false
set_option linter.unusedSimpArgs false
open Go Go.RowKit
set_option maxRecDepth 100000
set_option maxHeartbeats 8000000
section
variable {α β : Type} {f : α → List β} {k : Nat}
end
structure Step where
  act : Int
  sec : Int
  a : Option Addr
  n : Nat
  c : Nat
  l : List UInt8
  a2 : Option Addr
  n2 : Nat
  c2 : Nat
  K : List Int
def Step.cs (s : Step) : List Value := [.int .i64 s.act, .int .i64 s.sec, .slice s.a s.n s.c, .slice s.a2 s.n2 s.c2]
structure Step.Ok (s : Step) (w : World) : Prop where
  hl : s.l.length = s.n
  hc : s.n ≤ s.c
  hm : s.c ≤ 9223372036854775807
  hr : CellsAt w s.a (bs s.l)
  hl2 : s.K.length = s.n2
  hc2 : s.n2 ≤ s.c2
  hm2 : s.c2 ≤ 9223372036854775807
  hr2 : CellsAt w s.a2 (zcells s.K)
theorem Step.Ok.keep {s : Step} {w w' : World} (h : s.Ok w) (k : Kept w [] w') : s.Ok w' := ⟨h.hl, h.hc, h.hm, h.hr.keep k, h.hl2, h.hc2, h.hm2, h.hr2.keep k⟩
theorem Step.len (s : Step) : s.cs.length = 4 := rfl
def fewOk (S : List Step) (m : Int) : Prop := (S.length : Int) ≤ m ∧ ∀ s ∈ S, s.n ≤ 200 ∧ s.n2 ≤ 20
instance (S : List Step) (m : Int) : Decidable (fewOk S m) := inferInstanceAs (Decidable (_ ∧ _))
attribute [local irreducible] WL WC WN Yl WH WQ WT WE WU WG
end Go.Proofs.YtbkdjfgkebkknaaGreatDoor
