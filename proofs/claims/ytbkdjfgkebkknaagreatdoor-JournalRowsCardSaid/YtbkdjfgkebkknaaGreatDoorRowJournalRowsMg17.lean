import Derived.Test.YtbkdjfgkebkknaaGreatDoorRowJournalRowsMg16
import Derived.Test.YtbkdjfgkebkknaaGreatDoorRowJournalRowsMg8
import Derived.Test.YtbkdjfgkebkknaaGreatDoorRowJournalRowsMg13
namespace Go.Proofs.YtbkdjfgkebkknaaGreatDoor
set_option linter.unusedVariables false
set_option linter.unusedSimpArgs false
open Go Go.RowKit
set_option maxRecDepth 100000
set_option maxHeartbeats 8000000
structure Pg where
  no : Int
  s : Sl
instance : Inhabited Pg := ⟨⟨0, Sl.nil⟩⟩
def Pg.cs (q : Pg) : List Value := [.int .i64 q.no, q.s.v]
def pgs (L : List Pg) : List Value := L.flatMap Pg.cs
theorem flatM_at {α β : Type} {f : α → List β} {k : Nat} (hf : ∀ x, (f x).length = k) : ∀ {L : List α} {i : Nat} {x : α}, L[i]? = some x → ((L.flatMap f).drop (i * k)).take k = f x
  | [], _, _, h => by simp at h
  | y :: L, 0, x, h => by
    simp only [List.getElem?_cons_zero, Option.some.injEq] at h
    subst h
    rw [List.flatMap_cons, Nat.zero_mul, List.drop_zero, ← hf y, List.take_left]
  | y :: L, i + 1, x, h => by
    rw [List.getElem?_cons_succ] at h
    rw [List.flatMap_cons, Nat.add_mul, Nat.one_mul, Nat.add_comm, ← hf y, ← List.drop_drop, List.drop_left, hf y]
    exact flatM_at hf h
theorem flatM_len {α β : Type} {f : α → List β} {k : Nat} (hf : ∀ x, (f x).length = k) : ∀ (L : List α), (L.flatMap f).length = L.length * k
  | [] => by simp
  | y :: L => by rw [List.flatMap_cons, List.length_append, hf, flatM_len hf L, List.length_cons, Nat.add_mul]; omega
theorem pg_at {L : List Pg} {i : Nat} {q : Pg} (h : L[i]? = some q) : ((pgs L).drop (i * 2)).take q.cs.length = q.cs := flatM_at (f := Pg.cs) (k := 2) (fun _ => rfl) h
theorem pgs_len (L : List Pg) : (pgs L).length = L.length * 2 := flatM_len (f := Pg.cs) (k := 2) (fun _ => rfl) L
theorem pgs_ne {L : List Pg} {i : Nat} {q : Pg} (h : L[i]? = some q) : pgs L ≠ [] := by
  cases L with
  | nil => simp at h
  | cons y L => simp [pgs, Pg.cs]
def pchkF (last : Int) : List Pg → Bool
  | [] => true
  | q :: L => decide (last < q.no) && decide (q.no < 4096) && decide (q.s.l.length = 512) && pchkF q.no L
def pchk (L : List Pg) : Nat := if L ≠ [] ∧ pchkF (-1) L = true then 0 else 2
theorem getElem?_drop_cons {α : Type} {L : List α} {i : Nat} {q : α} (h : L[i]? = some q) : L.drop i = q :: L.drop (i + 1) := by
  obtain ⟨hl, hq⟩ := List.getElem?_eq_some_iff.1 h
  rw [← hq]; exact (List.getElem_cons_drop hl).symm
structure PgOk (L : List Pg) : Prop where
  low : ∀ q ∈ L, 0 ≤ q.no
  high : ∀ q ∈ L, q.no < 4096
  len : ∀ q ∈ L, q.s.l.length = 512
  inc : L.Pairwise fun a b => a.no < b.no
theorem pchkF_spec : ∀ {L : List Pg} {last : Int}, pchkF last L = true → (∀ q ∈ L, last < q.no) ∧ (∀ q ∈ L, q.no < 4096) ∧ (∀ q ∈ L, q.s.l.length = 512) ∧ L.Pairwise fun a b => a.no < b.no
  | [], _, _ => ⟨fun _ h => (by cases h), fun _ h => (by cases h), fun _ h => (by cases h), .nil⟩
  | q :: L, last, h => by
    simp only [pchkF, Bool.and_eq_true, decide_eq_true_eq] at h
    obtain ⟨⟨⟨h1, h2⟩, h3⟩, h4⟩ := h
    obtain ⟨k1, k2, k3, k4⟩ := pchkF_spec h4
    refine ⟨fun x hx => ?_, fun x hx => ?_, fun x hx => ?_, .cons k1 k4⟩
    · rcases List.mem_cons.1 hx with rfl | hx
      · exact h1
      · have := k1 x hx; omega
    · rcases List.mem_cons.1 hx with rfl | hx
      · exact h2
      · exact k2 x hx
    · rcases List.mem_cons.1 hx with rfl | hx
      · exact h3
      · exact k3 x hx
theorem pchk_ok {L : List Pg} (h : pchk L = 0) : L ≠ [] ∧ PgOk L := by
  unfold pchk at h
  split at h
  · rename_i h1
    obtain ⟨k1, k2, k3, k4⟩ := pchkF_spec h1.2
    exact ⟨h1.1, ⟨fun q hq => by have := k1 q hq; omega, k2, k3, k4⟩⟩
  · cases h
attribute [local irreducible] WL WC WN Yl WH WQ WT WE WU WG WV
theorem jcheck_c (a : Option Addr) (n cap : Nat) (L : List Pg) (w : World) (hl : L.length = n) (hn : n ≤ 100000) (hr : CellsAt w a (pgs L)) :
    Calls Tryz.prog 62 #[.slice a n cap] w (Gives (Val (.int .i64 (pchk L : Int))) w) := by
  refine enter (args := [_]) Tryz.func62 Tryz.ntmps62 rfl rfl ?_
  (repeat (first | refine WL.step (Yl.move rfl) rfl ?_ | refine WL.step (Yl.assign rfl) rfl ?_ | refine WL.step (Yl.len (t := 37) Tryz.underlying37 rfl) rfl ?_ | refine WC.seq ?_ | refine WC.region ?_ | refine WL.nil ?_ | refine WN.then_normal ?_ | refine WC.block ?_))
  refine WC.loop (α := Nat × Int) (fun g => [(6, .slice a n cap), (7, .int .i64 (n : Int)), (8, .int .i64 (g.1 : Int)), (3, .int .i64 g.2)]) (fun _ => [])
    (fun g => g.1 ≤ n ∧ pchkF (-1) L = pchkF g.2 (L.drop g.1) ∧ (g.1 = 0 → g.2 = -1) ∧ (0 < g.1 → 0 ≤ g.2) ∧ -1 ≤ g.2 ∧ g.2 ≤ 4096) (fun g => n - g.1) (0, -1) zS .nil ⟨Nat.zero_le _, rfl, fun _ => rfl, fun h => absurd h (by decide), by decide, by decide⟩ ?_
  rintro ⟨i, last⟩ ⟨hi, hc, h0, h1, h2, h3⟩
  simp only at hi hc h0 h1 h2 h3 ⊢
  (repeat (first | refine WL.step (Yl.lss rfl rfl) rfl ?_ | refine WC.seq ?_ | refine WC.region ?_ | refine WL.nil ?_ | refine WN.then_normal ?_))
  refine WC.ite rfl (fun h4 => ?_) (fun h4 => ?_)
  · have hin : i < n := by omega
    obtain ⟨q, hq⟩ : ∃ q, L[i]? = some q := ⟨L[i]'(by omega), List.getElem?_eq_getElem (by omega)⟩
    rw [getElem?_drop_cons hq, pchkF] at hc
    (repeat (first | (refine WL.k_load ?_; refine WL.step (Yl.loadEl q.cs Tryz.isAgg106 Tryz.sizeOf106 rfl (Rd.old hr) rfl (by simp [Pg.cs]) (pg_at hq)) rfl ?_) | refine WL.step (Yl.indexAddr (t := 37) (j := i) Tryz.underlying37 Tryz.sizeOf106 rfl rfl (Rd.old hr) (pgs_ne hq) hin) rfl ?_ | refine WC.seq ?_ | refine WC.region ?_ | refine WN.then_normal ?_ | refine WC.block ?_ | refine WC.skip ?_))
    refine WL.allocA Tryz.zeroValue106 rfl fun b5 => ?_
    skip
    refine WL.storeWhole (T := 106) (k := 2) Tryz.sizeOf106 rfl rfl rfl .here rfl rfl ?_
    by_cases k1 : q.no ≤ last
    · have : pchk L = 2 := if_neg fun hh => by
        have h5 := hh.2
        rw [hc] at h5
        simp only [Bool.and_eq_true, decide_eq_true_eq] at h5
        omega
      rw [this]
      (repeat (first | refine WL.pass rfl rfl rfl rfl ?_ | refine WL.step (Yl.move rfl) rfl ?_ | (refine WL.k_load ?_; refine WL.step (Yl.loadBlk (T := 3) Tryz.isAgg3 rfl zH (by rfl)) rfl ?_) | (refine WL.k_fld ?_; refine WL.step (Yl.fldN0 (i := 0) (o := 0) (by kernel_rfl) rfl) rfl ?_) | refine WL.step (Yl.pick_t rfl rfl rfl) rfl ?_ | (refine WL.k_bin .leq ?_; refine WL.step (Yl.leqT rfl rfl (by omega)) rfl ?_) | refine WC.seq ?_ | refine WC.region ?_ | refine WL.nil ?_ | refine WN.then_normal ?_))
      refine WC.cond_true rfl rfl ?_
      (repeat (first | refine WL.step (Yl.assign rfl) rfl ?_ | refine WC.seq ?_ | refine WC.region ?_ | refine WL.nil ?_ | refine WN.then_normal ?_ | refine WC.ret ?_ | refine WN.then_ret ?_ | refine WN.block_ret ?_))
      exact WN.ret1 rfl rfl ⟨rfl, rfl⟩ .nil
    by_cases k2 : 4096 ≤ q.no
    · have : pchk L = 2 := if_neg fun hh => by
        have h5 := hh.2
        rw [hc] at h5
        simp only [Bool.and_eq_true, decide_eq_true_eq] at h5
        omega
      rw [this]
      (repeat (first | (refine WL.kG ?_; first | refine WL.want rfl rfl rfl ?_ | refine WL.pass rfl rfl rfl rfl ?_) | refine WL.step (Yl.move rfl) rfl ?_ | (refine WL.k_load ?_; refine WL.step (Yl.loadBlk (T := 3) Tryz.isAgg3 rfl zH (by rfl)) rfl ?_) | (refine WL.k_fld ?_; refine WL.step (Yl.fldN0 (i := 0) (o := 0) (by kernel_rfl) rfl) rfl ?_) | (refine WL.k_pick ?_; first | refine WL.step (Yl.pick_t rfl rfl rfl) rfl ?_ | refine WL.step (Yl.pick_f rfl rfl rfl) rfl ?_) | (refine WL.k_bin .leq ?_; refine WL.step (Yl.leqF rfl rfl (by omega)) rfl ?_) | (refine WL.k_bin .geq ?_; refine WL.step (Yl.geqT rfl rfl (by omega)) rfl ?_) | refine WC.seq ?_ | refine WC.region ?_ | refine WL.nil ?_ | refine WN.then_normal ?_))
      refine WC.cond_true rfl rfl ?_
      (repeat (first | refine WL.step (Yl.assign rfl) rfl ?_ | refine WC.seq ?_ | refine WC.region ?_ | refine WL.nil ?_ | refine WN.then_normal ?_ | refine WC.ret ?_ | refine WN.then_ret ?_ | refine WN.block_ret ?_))
      exact WN.ret1 rfl rfl ⟨rfl, rfl⟩ .nil
    by_cases k3 : q.s.l.length ≠ 512
    · have : pchk L = 2 := if_neg fun hh => by
        have h5 := hh.2
        rw [hc] at h5
        simp only [Bool.and_eq_true, decide_eq_true_eq] at h5
        omega
      rw [this]
      (repeat (first | refine WL.want rfl rfl rfl ?_ | refine WL.step (Yl.move rfl) rfl ?_ | (refine WL.k_load ?_; first | refine WL.step (Yl.loadBlk (T := 3) Tryz.isAgg3 rfl zH (by rfl)) rfl ?_ | refine WL.step (Yl.loadBlk (T := 23) Tryz.isAgg23 rfl zH (by rfl)) rfl ?_) | (refine WL.k_fld ?_; first | refine WL.step (Yl.fldN0 (i := 0) (o := 0) (by kernel_rfl) rfl) rfl ?_ | refine WL.step (Yl.fldN0 (i := 1) (o := 1) (by kernel_rfl) rfl) rfl ?_) | refine WL.step (Yl.pick_f rfl rfl rfl) rfl ?_ | (refine WL.k_bin .leq ?_; refine WL.step (Yl.leqF rfl rfl (by omega)) rfl ?_) | (refine WL.k_bin .geq ?_; refine WL.step (Yl.geqF rfl rfl (by omega)) rfl ?_) | refine WL.step (Yl.len (t := 23) (n := q.s.l.length) Tryz.underlying23 rfl) rfl ?_ | (refine WL.k_bin .neq ?_; refine WL.step (Yl.neqT rfl rfl (by omega)) rfl ?_) | refine WC.seq ?_ | refine WC.region ?_ | refine WL.nil ?_ | refine WN.then_normal ?_))
      refine WC.cond_true rfl rfl ?_
      (repeat (first | refine WL.step (Yl.assign rfl) rfl ?_ | refine WC.seq ?_ | refine WC.region ?_ | refine WL.nil ?_ | refine WN.then_normal ?_ | refine WC.ret ?_ | refine WN.then_ret ?_ | refine WN.block_ret ?_))
      exact WN.ret1 rfl rfl ⟨rfl, rfl⟩ .nil
    (repeat (first | refine WL.want rfl rfl rfl ?_ | refine WL.step (Yl.move rfl) rfl ?_ | (refine WL.k_load ?_; first | refine WL.step (Yl.loadBlk (T := 3) Tryz.isAgg3 rfl zH (by rfl)) rfl ?_ | refine WL.step (Yl.loadBlk (T := 23) Tryz.isAgg23 rfl zH (by rfl)) rfl ?_) | (refine WL.k_fld ?_; first | refine WL.step (Yl.fldN0 (i := 0) (o := 0) (by kernel_rfl) rfl) rfl ?_ | refine WL.step (Yl.fldN0 (i := 1) (o := 1) (by kernel_rfl) rfl) rfl ?_) | refine WL.step (Yl.pick_f rfl rfl rfl) rfl ?_ | (refine WL.k_bin .leq ?_; refine WL.step (Yl.leqF rfl rfl (by omega)) rfl ?_) | (refine WL.k_bin .geq ?_; refine WL.step (Yl.geqF rfl rfl (by omega)) rfl ?_) | refine WL.step (Yl.len (t := 23) (n := q.s.l.length) Tryz.underlying23 rfl) rfl ?_ | (refine WL.k_bin .neq ?_; refine WL.step (Yl.neqF rfl rfl (by omega)) rfl ?_) | refine WC.seq ?_ | refine WC.region ?_ | refine WL.nil ?_ | refine WN.then_normal ?_))
    refine WC.cond_false rfl rfl ?_
    (repeat (first | refine WL.step (Yl.move rfl) rfl ?_ | refine WL.step (Yl.assign rfl) rfl ?_ | (refine WL.k_load ?_; refine WL.step (Yl.loadBlk (T := 3) Tryz.isAgg3 rfl zH (by rfl)) rfl ?_) | (refine WL.k_fld ?_; refine WL.step (Yl.fldN0 (i := 0) (o := 0) (by kernel_rfl) rfl) rfl ?_) | (refine WL.k_bin .add ?_; refine WL.step (Yl.add64C rfl (by omega)) rfl ?_) | refine WC.region ?_ | refine WL.nil ?_ | refine WN.then_normal ?_ | refine WC.skip ?_ | refine WN.block_normal ?_))
    refine WN.next (i + 1, q.no) ⟨hin, ?_, fun h => absurd h (by omega), fun _ => by omega, by omega, by omega⟩ (by simp only; omega) zS .nil
    rw [hc]
    simp only [show decide (last < q.no) = true from decide_eq_true (by omega), show decide (q.no < 4096) = true from decide_eq_true (by omega), show decide (q.s.l.length = 512) = true from decide_eq_true (by omega), Bool.true_and]
  · have hin : i = n := by omega
    have hd : L.drop i = [] := List.drop_eq_nil_of_le (by omega)
    rw [hd, pchkF] at hc
    by_cases hz : n = 0
    · have : pchk L = 2 := if_neg fun hh => hh.1 (List.eq_nil_of_length_eq_zero (by omega))
      rw [this, h0 (by omega)]
      (repeat (first | refine WL.step (Yl.move rfl) rfl ?_ | (refine WL.k_bin .lss ?_; refine WL.step (Yl.lssT rfl rfl (by decide)) rfl ?_) | refine WC.seq ?_ | refine WC.region ?_ | refine WL.nil ?_ | refine WN.then_normal ?_ | refine WC.exit ?_ | refine WN.then_exit ?_ | refine WN.block_here ?_))
      refine WC.cond_true rfl rfl ?_
      (repeat (first | refine WL.step (Yl.assign rfl) rfl ?_ | refine WC.seq ?_ | refine WC.region ?_ | refine WL.nil ?_ | refine WN.then_normal ?_ | refine WC.ret ?_ | refine WN.then_ret ?_))
      exact WN.ret1 rfl rfl ⟨rfl, rfl⟩ .nil
    · have : pchk L = 0 := if_pos ⟨fun h => by rw [h] at hl; exact hz hl.symm, hc⟩
      have hp := h1 (by omega)
      rw [this]
      (repeat (first | refine WL.step (Yl.move rfl) rfl ?_ | (refine WL.k_bin .lss ?_; refine WL.step (Yl.lssF rfl rfl (by omega)) rfl ?_) | refine WC.seq ?_ | refine WC.region ?_ | refine WL.nil ?_ | refine WN.then_normal ?_ | refine WC.exit ?_ | refine WN.then_exit ?_ | refine WN.block_here ?_))
      refine WC.cond_false rfl rfl ?_
      (repeat (first | refine WL.step (Yl.assign rfl) rfl ?_ | refine WC.seq ?_ | refine WC.region ?_ | refine WL.nil ?_ | refine WN.then_normal ?_ | refine WC.skip ?_ | refine WC.ret ?_))
      exact WN.ret1 rfl rfl ⟨rfl, rfl⟩ .nil
end Go.Proofs.YtbkdjfgkebkknaaGreatDoor
namespace Go.Proofs.YtbkdjfgkebkknaaGreatDoor
set_option linter.unusedVariables false
set_option linter.unusedSimpArgs false
open Go Go.RowKit
set_option maxRecDepth 100000
set_option maxHeartbeats 8000000
def frameP (ep : Int) (tx : Nat) (kd ix no : Int) (dt : List UInt8) : List (List UInt8) := pieces (Frm.enc kd ep (tx : Int) ix no dt).2 (Frm.secs kd).1
def trF (ep : Int) (tx : Nat) : Nat → List Pg → List (List UInt8)
  | _, [] => []
  | i, q :: L => frameP ep tx 1 (i : Int) q.no q.s.l ++ trF ep tx (i + 1) L
def trP (ep : Int) (tx : Nat) (L : List Pg) : List (List UInt8) := trF ep tx 0 L ++ frameP ep tx 2 0 (L.length : Int) []
def plG (u t : Nat) : Nat → List Pg → (Nat → Option Pc) → (Nat → Option Pc)
  | _, [], G => G
  | i, q :: L, G => plG u t (i + 1) L (setF G q.no.toNat (some ⟨u + 5 * i, t, i⟩))
def noG : Nat → Option Pc := fun _ => none
def plT (u t : Nat) (L : List Pg) : Nat → Option Pc := plG u t 0 L noG
theorem frameP_len (ep : Int) (tx : Nat) (kd ix no : Int) (dt : List UInt8) : (frameP ep tx kd ix no dt).length = (Frm.secs kd).1 := pieces_len _ _
theorem trF_len (ep : Int) (tx : Nat) : ∀ (i : Nat) (L : List Pg), (trF ep tx i L).length = 5 * L.length
  | _, [] => rfl
  | i, q :: L => by rw [trF, List.length_append, frameP_len, trF_len, List.length_cons, show (Frm.secs 1).1 = 5 from rfl]; omega
theorem trF_snoc (ep : Int) (tx : Nat) : ∀ (i : Nat) (L : List Pg) (q : Pg), trF ep tx i (L ++ [q]) = trF ep tx i L ++ frameP ep tx 1 ((i + L.length : Nat) : Int) q.no q.s.l
  | i, [], q => by simp [trF]
  | i, x :: L, q => by rw [List.cons_append, trF, trF, trF_snoc ep tx (i + 1) L q, List.append_assoc, List.length_cons, show i + 1 + L.length = i + (L.length + 1) by omega]
theorem plG_snoc (u t : Nat) : ∀ (i : Nat) (L : List Pg) (q : Pg) (G : Nat → Option Pc), plG u t i (L ++ [q]) G = setF (plG u t i L G) q.no.toNat (some ⟨u + 5 * (i + L.length), t, i + L.length⟩)
  | i, [], q, G => by simp [plG]
  | i, x :: L, q, G => by rw [List.cons_append, plG, plG, plG_snoc u t (i + 1) L q, List.length_cons, show i + 1 + L.length = i + (L.length + 1) by omega]
theorem plG_out (u t : Nat) : ∀ (i : Nat) (L : List Pg) (G : Nat → Option Pc) (k : Nat), (∀ q ∈ L, q.no.toNat ≠ k) → plG u t i L G k = G k
  | _, [], _, _, _ => rfl
  | i, x :: L, G, k, h => by
    rw [plG, plG_out u t (i + 1) L _ k fun q hq => h q (.tail _ hq), setF, if_neg (fun e => h x (.head _) e.symm)]
theorem take_one {α : Type} {L : List α} {i : Nat} {q : α} (h : L[i]? = some q) : L.take (i + 1) = L.take i ++ [q] := by
  rw [List.take_add_one, h]; rfl
theorem plT_new {u t : Nat} {L : List Pg} (h : PgOk L) {i : Nat} {q : Pg} (hq : L[i]? = some q) : plT u t (L.take i) q.no.toNat = none := by
  rw [plT, plG_out]
  · rfl
  · intro x hx e
    have h1 : L.take (i + 1) = L.take i ++ [q] := take_one hq
    have h2 := h.inc.sublist (List.take_sublist (i + 1) L)
    rw [h1, List.pairwise_append] at h2
    have h3 := h2.2.2 x hx q (by simp)
    have h4 := h.low x (List.mem_of_mem_take hx)
    omega
def japp (v : DV) (j : JV) (L : List Pg) : DV × JV × Nat :=
  if pchk L ≠ 0 then (v, j, 2) else if ¬ fitN j (L.length : Int) then (v, j, 4)
  else
    let r := wseq v (j.first + j.used) (trP j.ep (j.tx + 1) L)
    if r.2 ≠ 0 then (r.1, j, r.2) else if r.1.sync.2 ≠ 0 then (r.1.sync.1, j, r.1.sync.2) else (r.1.sync.1, j.commit (plT j.used (j.tx + 1) L) (j.used + 5 * L.length + 1), 0)
def JAppV (dp : DP) (p : JP) (r : DV × JV × Nat) : Value → List HA → Prop := fun u B => u = .int .i64 (r.2.2 : Int) ∧ ∃ ds' js', DS.Ok ds' dp ∧ ds'.v = r.1 ∧ JS.Ok js' ∧ js'.v = r.2.1 ∧ B = jI dp.bd p js' ++ drI dp ds'
theorem japp_stop {v : DV} {j : JV} {L : List Pg} {X : List (List UInt8)} {r : DV × Nat} (h1 : pchk L = 0) (h2 : fitN j (L.length : Int)) (hM : ∃ Y, trP j.ep (j.tx + 1) L = X ++ Y) (h : wseq v (j.first + j.used) X = r) (hr : r.2 ≠ 0) : japp v j L = (r.1, j, r.2) := by
  obtain ⟨Y, hY⟩ := hM
  have e : wseq v (j.first + j.used) (trP j.ep (j.tx + 1) L) = r := by rw [hY, wseq_append, h, if_neg hr]
  rw [japp, if_neg (not_not_intro h1), if_neg (not_not_intro h2)]
  simp only [e]
  rw [if_pos hr]
theorem trF_pre (ep : Int) (tx : Nat) (L : List Pg) (i : Nat) : ∃ Y, trP ep tx L = trF ep tx 0 (L.take i) ++ Y := by
  have h : ∀ (M N : List Pg) (k : Nat), trF ep tx k (M ++ N) = trF ep tx k M ++ trF ep tx (k + M.length) N := fun M => by
    induction M with
    | nil => intro N k; simp [trF]
    | cons x M ih => intro N k; rw [List.cons_append, trF, trF, ih, List.append_assoc, List.length_cons, show k + 1 + M.length = k + (M.length + 1) by omega]
  refine ⟨trF ep tx (0 + (L.take i).length) (L.drop i) ++ frameP ep tx 2 0 (L.length : Int) [], ?_⟩
  rw [trP, ← List.append_assoc, ← h, List.take_append_drop]
theorem buildFr (k i no : Int) (a : Option Addr) (n c : Nat) (w : World) : (Instr.build 121 [(0, .int .i64 k), (3, .int .i64 i), (4, .int .i64 no), (5, .slice a n c)].toArray).run Tryz.prog w = .ok (.agg #[.int .i64 k, .int .i64 0, .int .i64 0, .int .i64 i, .int .i64 no, .slice a n c]) w := by
  simp [Instr.build, Tryz.zeroValue121, run_underlying Tryz.underlying121, Tryz.sizeOf3, Tryz.sizeOf2, Tryz.sizeOf23, Value.cells, Instr.fill]
theorem buildFc (k no : Int) (w : World) : (Instr.build 121 [(0, .int .i64 k), (4, .int .i64 no)].toArray).run Tryz.prog w = .ok (.agg #[.int .i64 k, .int .i64 0, .int .i64 0, .int .i64 0, .int .i64 no, .slice none 0 0]) w := by
  simp [Instr.build, Tryz.zeroValue121, run_underlying Tryz.underlying121, Tryz.sizeOf3, Tryz.sizeOf2, Tryz.sizeOf23, Value.cells, Instr.fill]
theorem buildPc (a t i : Int) (w : World) : (Instr.build 123 [(0, .int .i64 a), (1, .int .i64 t), (2, .int .i64 i)].toArray).run Tryz.prog w = .ok (.agg #[.int .i64 a, .int .i64 t, .int .i64 i]) w := by
  simp [Instr.build, Tryz.zeroValue123, run_underlying Tryz.underlying123, Tryz.sizeOf3, Value.cells, Instr.fill]
theorem permA1 (x : HA) (D : List HA) : (x :: D).Perm (D ++ [x]) := List.perm_append_comm (l₁ := [x])
theorem permA2 (x y : HA) (D : List HA) : (x :: y :: D).Perm (D ++ [x, y]) := List.perm_append_comm (l₁ := [x, y])
theorem permA3 (x y z : HA) (D : List HA) : (x :: y :: z :: D).Perm (D ++ [x, y, z]) := List.perm_append_comm (l₁ := [x, y, z])
theorem permC (x y z : HA) (D : List HA) : (x :: y :: z :: D).Perm (y :: z :: x :: D) := (List.Perm.swap y x _).trans (.cons y (List.Perm.swap z x D))
theorem commit_ok {s : JS} (h : s.Ok) {G : Nat → Option Pc} {e : Nat} (h1 : s.v.used < e) (h2 : e ≤ s.v.n) {s' : JS} (hv : s'.v = s.v.commit G e) (hm : MapIs 4096 s'.v.F s'.M s'.c) : s'.Ok := by
  have := h.tx
  refine ⟨hm, by rw [hv]; exact h.ep, by rw [hv]; exact h.row, by rw [hv]; exact h.n1, by rw [hv]; exact h2, by rw [hv]; show s.v.tx + 1 ≤ e; omega⟩
attribute [local irreducible] WL WC WN Yl WH WQ WT WE WU WG WV
section
variable {dp : DP} {ds : DS} {p : JP} {s : JS} {S : List Nat}
theorem jappend_r (a : Option Addr) (n cap : Nat) (L : List Pg) (w : World) (dok : ds.Ok dp) (jok : s.Ok) (hops : ds.ops < 1152921504606846976) (hl : L.length = n) (hn : n ≤ 100000)
    (hr : CellsOut w S a (pgs L)) (hq : ∀ q ∈ L, CellsOut w S q.s.a (bs q.s.l)) (hT : TabO w S) (st : St w S (jI dp.bd p s ++ drI dp ds) w) :
    Calls Tryz.prog 16 #[bptr p.bj, .slice a n cap] w (GivesS S (JAppV dp p (japp ds.v s.v L)) w) := by
  have hrow2 := jok.row
  have hused := jok.used
  have htx := jok.tx
  have hjI : ∀ {x : HA}, x ∈ jI dp.bd p s → x ∈ jI dp.bd p s ++ drI dp ds := fun h => List.mem_append_left _ h
  refine enterS (args := [.pointer (some ⟨p.bj, 0, none⟩), _]) Tryz.func16 Tryz.ntmps16 rfl rfl st ?_
  (repeat (first | refine WL.step (Yl.move rfl) rfl ?_ | refine WL.step (Yl.assign rfl) rfl ?_ | refine WL.callV (g := 60) (v := .bool true) Tryz.call60 rfl (fun w0 st2 => jvalid_c w0 (jok.at_ st2 fun _ h => hjI h)) rfl ?_ | refine WL.step (Yl.not rfl) rfl ?_ | refine WC.seq ?_ | refine WC.region ?_ | refine WL.nil ?_ | refine WN.then_normal ?_))
  refine WC.cond_false rfl rfl ?_
  (repeat (first | refine WL.step (Yl.move rfl) rfl ?_ | refine WL.step (Yl.assign rfl) rfl ?_ | refine WL.callV (g := 62) Tryz.call62 rfl (fun w0 st2 => jcheck_c a n cap L w0 hl hn (Rd.out hr w0 st2)) rfl ?_ | refine WL.step (Yl.neq rfl rfl) rfl ?_ | refine WC.seq ?_ | refine WC.region ?_ | refine WL.nil ?_ | refine WN.then_normal ?_ | refine WC.skip ?_))
  by_cases hc : pchk L ≠ 0
  · have h2 : pchk L = 2 := by unfold pchk at hc ⊢; split at hc; exact absurd rfl hc; rename_i h; rw [if_neg h]
    rw [japp, if_pos hc, h2]
    skip
    refine WC.cond_true rfl rfl ?_
    (repeat (first | refine WL.step (Yl.move rfl) rfl ?_ | refine WL.step (Yl.assign rfl) rfl ?_ | refine WC.seq ?_ | refine WC.region ?_ | refine WL.nil ?_ | refine WN.then_normal ?_ | refine WC.ret ?_ | refine WN.then_ret ?_))
    exact WN.ret1S rfl rfl ⟨rfl, ds, s, dok, rfl, jok, rfl, rfl⟩ (Part.refl _)
  have hc : pchk L = 0 := by omega
  obtain ⟨hne, hpg⟩ := pchk_ok hc
  have hlp : 0 < L.length := List.length_pos_iff.2 hne
  rw [hc]
  have hfv : fitV s.v ((n : Nat) : Int) = (decide (fitN s.v n), decide (fitS s.v n)) := if_neg (by omega)
  skip
  refine WC.cond_false rfl rfl ?_
  (repeat (first | refine WL.step (Yl.move rfl) rfl ?_ | refine WL.step (Yl.assign rfl) rfl ?_ | refine WL.step (Yl.extract rfl rfl) rfl ?_ | refine WL.step (Yl.len (t := 37) Tryz.underlying37 rfl) rfl ?_ | refine WL.callV (g := 15) Tryz.call15 rfl (fun w0 st2 => jfits_c (n : Int) w0 (jok.at_ st2 fun _ h => hjI h)) rfl ?_ | refine WL.step (Yl.not rfl) rfl ?_ | refine WC.seq ?_ | refine WC.region ?_ | refine WL.nil ?_ | refine WN.then_normal ?_ | refine WC.skip ?_))
  rw [hfv]
  by_cases hf : ¬ fitN s.v (n : Int)
  · rw [japp, if_neg (not_not_intro hc), if_pos (by rw [hl]; exact hf), decide_eq_false hf]
    skip
    refine WC.cond_true rfl rfl ?_
    (repeat (first | refine WL.step (Yl.assign rfl) rfl ?_ | refine WC.seq ?_ | refine WC.region ?_ | refine WL.nil ?_ | refine WN.then_normal ?_ | refine WC.ret ?_ | refine WN.then_ret ?_))
    exact WN.ret1S rfl rfl ⟨rfl, ds, s, dok, rfl, jok, rfl, rfl⟩ (Part.refl _)
  have hf : fitN s.v (n : Int) := Decidable.not_not.1 hf
  rw [decide_eq_true hf]
  skip
  refine WC.cond_false rfl rfl ?_
  have hf5 : s.v.used + 5 * n + 1 ≤ s.v.n := by
    obtain ⟨h1, h2⟩ := hf
    omega
  simp only [jI, List.cons_append, List.nil_append]
  (repeat (first | refine WL.step (Yl.move rfl) rfl ?_ | refine WL.step (Yl.assign rfl) rfl ?_ | (refine WL.k_load ?_; refine WL.step (Yl.loadBlk (T := 3) Tryz.isAgg3 rfl zH (by rfl)) rfl ?_) | (refine WL.k_fld ?_; refine WL.step (Yl.fldN0 (i := 4) (o := 4) (by kernel_rfl) rfl) rfl ?_) | refine WL.step (Yl.nilCheck rfl) rfl ?_ | refine WC.seq ?_ | refine WC.region ?_ | refine WL.nil ?_ | refine WN.then_normal ?_ | refine WC.skip ?_))
  refine WL.makeMap (enc := encP) rfl fun bp => ?_
  (repeat (first | refine WL.step (Yl.move rfl) rfl ?_ | refine WL.step (Yl.assign rfl) rfl ?_ | refine WL.step (Yl.len (t := 37) Tryz.underlying37 rfl) rfl ?_ | refine WC.seq ?_ | refine WC.region ?_ | refine WL.nil ?_ | refine WN.then_normal ?_ | refine WC.block ?_))
  refine WC.loop (α := Nat × DS × List (Nat × Pc × Nat) × Nat) (fun g => [(0, .pointer (some ⟨p.bj, 0, none⟩)), (1, .slice a n cap), (8, .int .i64 ((s.v.used + 5 * g.1 : Nat) : Int)), (9, .map (some bp)), (39, .slice a n cap), (40, .int .i64 (n : Int)), (41, .int .i64 (g.1 : Int))])
    (fun g => .blk bp (mobj encP g.2.2.1 g.2.2.2) :: .blk p.bj (jO dp.bd p s.v) :: .blk p.bm (mobj encP s.M s.c) :: drI dp g.2.1)
    (fun g => g.1 ≤ n ∧ g.2.1.Ok dp ∧ wseq ds.v (s.v.first + s.v.used) (trF s.v.ep (s.v.tx + 1) 0 (L.take g.1)) = (g.2.1.v, 0) ∧ MapIs 4096 (plT s.v.used (s.v.tx + 1) (L.take g.1)) g.2.2.1 g.2.2.2) (fun g => n - g.1) (0, ds, [], 0) zS (Part.refl _) ⟨Nat.zero_le _, dok, rfl, MapIs.empty _⟩ ?_
  rintro ⟨i, d1, M2, c2⟩ ⟨hi, d1ok, hw1, hM2⟩
  simp only at hi d1ok hw1 hM2 ⊢
  have hop1 : d1.ops ≤ ds.ops + 5 * i := by
    have := wseq_ops (trF s.v.ep (s.v.tx + 1) 0 (L.take i)) ds.v (s.v.first + s.v.used)
    rw [hw1, trF_len, List.length_take, Nat.min_eq_left (by omega)] at this
    exact this
  (repeat (first | refine WL.step (Yl.lss rfl rfl) rfl ?_ | refine WC.seq ?_ | refine WC.region ?_ | refine WL.nil ?_ | refine WN.then_normal ?_))
  refine WC.ite rfl (fun h1 => ?_) (fun h1 => ?_)
  · have hin : i < n := by omega
    obtain ⟨q, hqi⟩ : ∃ q, L[i]? = some q := ⟨L[i]'(by omega), List.getElem?_eq_getElem (by omega)⟩
    have hqm := List.mem_of_getElem? hqi
    have hq0 := hpg.low q hqm
    have hq1 := hpg.high q hqm
    have hq2 := hpg.len q hqm
    have hqn : q.no = ((q.no.toNat : Nat) : Int) := by omega
    (repeat (first | refine WL.step (Yl.move rfl) rfl ?_ | (refine WL.k_load ?_; refine WL.step (Yl.loadEl q.cs Tryz.isAgg106 Tryz.sizeOf106 rfl (Rd.out hr) rfl (by simp [Pg.cs]) (pg_at hqi)) rfl ?_) | refine WL.step (Yl.indexAddr (t := 37) (j := i) Tryz.underlying37 Tryz.sizeOf106 rfl rfl (Rd.out hr) (pgs_ne hqi) hin) rfl ?_ | refine WC.seq ?_ | refine WC.region ?_ | refine WN.then_normal ?_ | refine WC.block ?_ | refine WC.skip ?_))
    refine WL.allocA Tryz.zeroValue106 rfl fun b11 => ?_
    (repeat (first | refine WL.step (Yl.assign rfl) rfl ?_))
    refine WL.storeWhole (T := 106) (k := 2) Tryz.sizeOf106 rfl rfl rfl .here rfl rfl ?_
    rw [show q.cs.toArray = #[.int .i64 q.no, q.s.v] from rfl]
    (repeat (first | refine WL.step (Yl.move rfl) rfl ?_ | (refine WL.k_load ?_; first | refine WL.step (Yl.loadBlk (T := 3) Tryz.isAgg3 rfl zH (by rfl)) rfl ?_ | refine WL.step (Yl.loadBlk (T := 23) Tryz.isAgg23 rfl zH (by rfl)) rfl ?_) | (refine WL.k_fld ?_; first | refine WL.step (Yl.fldN0 (i := 0) (o := 0) (by kernel_rfl) rfl) rfl ?_ | refine WL.step (Yl.fldN0 (i := 1) (o := 1) (by kernel_rfl) rfl) rfl ?_) | refine WL.step (Yl.build (ps := [(0, .const (.int .i64 1)), (3, .tmp 49), (4, .tmp 51), (5, .tmp 53)]) (vs := [(0, .int .i64 1), (3, .int .i64 (i : Int)), (4, .int .i64 q.no), (5, q.s.v)]) rfl (buildFr _ _ _ _ _ _)) rfl ?_ | refine WC.seq ?_ | refine WC.region ?_ | refine WL.nil ?_ | refine WN.then_normal ?_))
    refine WL.callS (g := 63) (A0 := jI dp.bd p s ++ drI dp d1) (B := [_, _]) Tryz.call63 rfl (permA2 _ _ _) (fun w0 st2 s1 => jwrite_r (s.v.used + 5 * i) 1 0 0 (i : Int) q.no q.s.a q.s.l.length q.s.c q.s.l w0 d1ok jok (by omega) (by omega) ⟨jok.ep, by omega, by omega, .inl ⟨rfl, by omega, by omega, hq0, by omega, hq2⟩⟩ rfl (old_out st2 (permA2 _ _ _) (hq q hqm)) (old_out st2 (permA2 _ _ _) hT) s1) rfl fun v C hv => ?_
    obtain ⟨rfl, d2, d2ok, hd2, rfl⟩ := hv
    refine WL.part (Part.perm (permA2 _ _ _).symm) ?_
    simp only [jI, List.cons_append, List.nil_append]
    obtain ⟨r, hrr⟩ : ∃ r, r = wseq d1.v (s.v.first + (s.v.used + 5 * i)) (pieces (Frm.enc 1 s.v.ep ((s.v.tx + 1 : Nat) : Int) (i : Int) q.no q.s.l).2 (Frm.secs 1).1) := ⟨_, rfl⟩
    rw [← hrr] at hd2 ⊢
    have htk : L.take (i + 1) = L.take i ++ [q] := take_one hqi
    have hw2 : wseq ds.v (s.v.first + s.v.used) (trF s.v.ep (s.v.tx + 1) 0 (L.take (i + 1))) = r := by
      rw [htk, trF_snoc, wseq_append, hw1, if_pos rfl, trF_len, List.length_take, Nat.min_eq_left (by omega), Nat.zero_add, Nat.add_assoc]
      exact hrr.symm
    by_cases he : r.2 = 0
    · rw [he, if_pos rfl]
      (repeat (first | refine WL.step (Yl.move rfl) rfl ?_ | refine WL.step (Yl.assign rfl) rfl ?_ | refine WL.step (Yl.extract rfl rfl) rfl ?_ | refine WL.step (Yl.neqF rfl rfl rfl) rfl ?_ | refine WC.seq ?_ | refine WC.region ?_ | refine WL.nil ?_ | refine WN.then_normal ?_))
      refine WC.cond_false rfl rfl ?_
      refine WC.skip (WN.then_normal (WC.regionH [.blk b11 (.cells #[.int .i64 q.no, q.s.v] 106 (0, 0)), .blk p.bj (jO dp.bd p s.v)] (by kernel_rfl) ?_))
      (refine WH.order [0, 1, 2, 3, 4, 5, 6, 7, 8, 9, 10, 11] (by repeat (first | exact Part.nil | refine Part.cons zK ?_ | refine Part.free ?_)) (by kernel_rfl) ?_; (repeat (first | (refine WT.k_move rfl ?_; refine WT.take rfl rfl (fun _ _ _ h => h) (Yl.move rfl) rfl (by kernel_rfl) (by kernel_rfl) ?_) | (refine WT.k_load rfl ?_; refine WT.take rfl rfl (fun _ _ _ h => h) (Yl.loadBlk (T := 3) Tryz.isAgg3 rfl zH (by rfl)) rfl (by kernel_rfl) (by kernel_rfl) ?_) | (refine WT.k_fld rfl ?_; first | refine WT.take rfl rfl (fun _ _ _ h => h) (Yl.fldN0 (i := 0) (o := 0) (by kernel_rfl) rfl) rfl (by kernel_rfl) (by kernel_rfl) ?_ | refine WT.take rfl rfl (fun _ _ _ h => h) (Yl.fldN0 (i := 5) (o := 5) (by kernel_rfl) rfl) rfl (by kernel_rfl) (by kernel_rfl) ?_) | (refine WT.k_nilc rfl ?_; refine WT.take rfl rfl (fun _ _ _ h => h) (Yl.nilCheck rfl) rfl (by kernel_rfl) (by kernel_rfl) ?_) | (refine WT.k_bin .add rfl ?_; refine WT.take rfl rfl (fun _ _ _ h => h) (Yl.add64C rfl (by omega)) rfl (by kernel_rfl) (by kernel_rfl) ?_) | (refine WT.k_build rfl ?_; refine WT.take rfl rfl (fun _ _ _ h => h) (Yl.build (ps := [(0, .tmp 64), (1, .tmp 69), (2, .tmp 70)]) (vs := [(0, .int .i64 ((s.v.used + 5 * i : Nat) : Int)), (1, .int .i64 ((s.v.tx + 1 : Nat) : Int)), (2, .int .i64 (i : Int))]) rfl (buildPc _ _ _)) rfl (by kernel_rfl) (by kernel_rfl) ?_))); refine WT.nil ?_)
      refine WH.only (i := 12) (by kernel_rfl) rfl ?_
      refine WL.mapEntry (z0 := (⟨0, 0, 0⟩ : Pc)) (k := q.no.toNat) Tryz.underlying77 Tryz.underlying3 Tryz.zeroValue123 rfl (by rw [← hqn]; rfl) hM2 (plT_new hpg hqi) (.there .here) rfl ?_
      refine WL.nil (WN.nextH (.cons (.there .here) (.cons (.there .here) .nil)) ?_)
      (refine WH.order [13] (by repeat (first | exact Part.nil | refine Part.cons zK ?_ | refine Part.free ?_)) (by kernel_rfl) ?_; (repeat (first | (refine WT.k_extract rfl ?_; refine WT.take rfl rfl (fun _ _ _ h => h) (Yl.extract rfl rfl) rfl (by kernel_rfl) (by kernel_rfl) ?_))); refine WT.nil ?_)
      refine WH.only (i := 14) (by kernel_rfl) rfl ?_
      refine WL.entryStore (z0 := (⟨0, 0, 0⟩ : Pc)) (u := (⟨s.v.used + 5 * i, s.v.tx + 1, i⟩ : Pc)) (k := q.no.toNat) rfl rfl rfl hM2 .here ?_
      refine WL.nil (WN.nextH (.cons (.there .here) (.cons (.there .here) .nil)) ?_)
      (refine WH.order [15] (by repeat (first | exact Part.nil | refine Part.cons zK ?_ | refine Part.free ?_)) (by kernel_rfl) ?_; (repeat (first | (refine WT.k_assign rfl ?_; refine WT.take rfl rfl (fun _ _ _ h => h) (Yl.assign rfl) rfl (by kernel_rfl) (by kernel_rfl) ?_))); refine WT.nil ?_)
      refine WH.done (by kernel_rfl) ?_
      (repeat (first | refine WL.step (Yl.move rfl) rfl ?_ | (refine WL.k_bin .add ?_; refine WL.step (Yl.add64C rfl (by omega)) rfl ?_) | refine WC.region ?_ | refine WL.nil ?_ | refine WN.then_normal ?_ | refine WN.block_normal ?_))
      have hM3 := hM2.push (v := (⟨s.v.used + 5 * i, s.v.tx + 1, i⟩ : Pc)) (plT_new hpg hqi) (by omega : q.no.toNat < 4096)
      refine WN.next (i + 1, d2, M2 ++ [(q.no.toNat, ⟨s.v.used + 5 * i, s.v.tx + 1, i⟩, c2)], c2 + 1) ⟨hin, d2ok, ?_, ?_⟩ (by simp only; omega) ?_ (.cons .here (.cons (.there .here) (.cons (.there .here) (.more (Part.refl _)))))
      · rw [hw2, hd2, ← he]
      · rw [htk, plT, plG_snoc, List.length_take, Nat.min_eq_left (by omega), Nat.zero_add]
        exact hM3
      · rw [show s.v.used + 5 * (i + 1) = s.v.used + 5 * i + 5 by omega]
        exact zS
    · rw [if_neg he, japp_stop hc (by rw [hl]; exact hf) (trF_pre _ _ L (i + 1)) hw2 he]
      (repeat (first | refine WL.step (Yl.move rfl) rfl ?_ | refine WL.step (Yl.assign rfl) rfl ?_ | refine WL.step (Yl.extract rfl rfl) rfl ?_ | (refine WL.k_bin .neq ?_; refine WL.step (Yl.neqT rfl rfl (by omega)) rfl ?_) | refine WC.seq ?_ | refine WC.region ?_ | refine WL.nil ?_ | refine WN.then_normal ?_))
      refine WC.cond_true rfl rfl ?_
      (repeat (first | refine WL.step (Yl.move rfl) rfl ?_ | refine WL.step (Yl.assign rfl) rfl ?_ | refine WC.seq ?_ | refine WC.region ?_ | refine WL.nil ?_ | refine WN.then_normal ?_ | refine WC.ret ?_ | refine WN.then_ret ?_ | refine WN.block_ret ?_))
      exact WN.ret1S rfl rfl ⟨rfl, d2, s, d2ok, hd2, jok, rfl, rfl⟩ (.cons (.there (.there .here)) (.cons (.there (.there .here)) (.more (.more (Part.refl _)))))
  · have hin : i = n := by omega
    subst hin
    rw [List.take_of_length_le (by omega)] at hw1 hM2
    (repeat (first | refine WL.step (Yl.move rfl) rfl ?_ | refine WL.step (Yl.len (t := 37) Tryz.underlying37 rfl) rfl ?_ | refine WL.step (Yl.build (ps := [(0, .const (.int .i64 2)), (4, .tmp 80)]) (vs := [(0, .int .i64 2), (4, .int .i64 (i : Int))]) rfl (buildFc _ _)) rfl ?_ | refine WC.seq ?_ | refine WC.region ?_ | refine WN.then_normal ?_ | refine WC.exit ?_ | refine WN.then_exit ?_ | refine WN.block_here ?_))
    refine WL.callS (g := 63) (X := ⟨Tryz.prog, 100, w, S⟩) (A0 := jI dp.bd p s ++ drI dp d1) (B := [_]) Tryz.call63 rfl (permA1 _ _) (fun w0 st2 s1 => jwrite_r (s.v.used + 5 * i) 2 0 0 0 (i : Int) none 0 0 [] w0 d1ok jok (by omega) (by omega) ⟨jok.ep, by omega, by omega, .inr ⟨rfl, rfl, by omega, by omega, rfl⟩⟩ rfl (.inl rfl) (old_out st2 (permA1 _ _) hT) s1) rfl fun v C hv => ?_
    obtain ⟨rfl, d2, d2ok, hd2, rfl⟩ := hv
    refine WL.part (Part.perm (permA1 _ _).symm) ?_
    simp only [jI, List.cons_append, List.nil_append]
    obtain ⟨r, hrr⟩ : ∃ r, r = wseq d1.v (s.v.first + (s.v.used + 5 * i)) (pieces (Frm.enc 2 s.v.ep ((s.v.tx + 1 : Nat) : Int) 0 (i : Int) []).2 (Frm.secs 2).1) := ⟨_, rfl⟩
    rw [← hrr] at hd2 ⊢
    have hw2 : wseq ds.v (s.v.first + s.v.used) (trP s.v.ep (s.v.tx + 1) L) = r := by
      rw [trP, wseq_append, hw1, if_pos rfl, trF_len, hl, Nat.add_assoc]
      exact hrr.symm
    by_cases he : r.2 = 0
    · rw [he, if_pos rfl]
      (repeat (first | refine WL.step (Yl.move rfl) rfl ?_ | refine WL.step (Yl.assign rfl) rfl ?_ | refine WL.step (Yl.extract rfl rfl) rfl ?_ | refine WL.step (Yl.neqF rfl rfl rfl) rfl ?_ | refine WC.seq ?_ | refine WC.region ?_ | refine WL.nil ?_ | refine WN.then_normal ?_))
      refine WC.cond_false rfl rfl ?_
      (repeat (first | refine WL.step (Yl.move rfl) rfl ?_ | (refine WL.k_load ?_; refine WL.step (Yl.loadBlk (T := 26) Tryz.isAgg26 rfl zH (by rfl)) rfl ?_) | (refine WL.k_fld ?_; refine WL.step (Yl.fldN0 (i := 0) (o := 0) (by kernel_rfl) rfl) rfl ?_) | refine WL.step (Yl.nilCheck rfl) rfl ?_ | refine WC.seq ?_ | refine WC.region ?_ | refine WN.then_normal ?_ | refine WC.skip ?_))
      have hop2 : r.1.ops < 4611686018427387904 := by
        have := wseq_ops (trP s.v.ep (s.v.tx + 1) L) ds.v (s.v.first + s.v.used)
        rw [hw2, trP, List.length_append, trF_len, frameP_len, show (Frm.secs 2).1 = 1 from rfl] at this
        have h9 : ds.v.ops = ds.ops := rfl
        omega
      refine WL.callS (g := 39) (A0 := drI dp d2) (B := [_, _, _]) Tryz.call39 rfl (permA3 _ _ _ _) (fun w0 st2 s1 => dsync_v w0 d2ok hd2 hop2 s1) rfl fun v C hv => ?_
      obtain ⟨rfl, d3, d3ok, hd3, rfl⟩ := hv
      refine WL.part (Part.perm (permA3 _ _ _ _).symm) ?_
      by_cases he3 : r.1.sync.2 = 0
      · rw [he3]
        (repeat (first | refine WL.step (Yl.move rfl) rfl ?_ | refine WL.step (Yl.assign rfl) rfl ?_ | refine WL.step (Yl.neqF rfl rfl rfl) rfl ?_ | refine WC.seq ?_ | refine WC.region ?_ | refine WL.nil ?_ | refine WN.then_normal ?_))
        refine WC.cond_false rfl rfl ?_
        (repeat (first | refine WL.step (Yl.move rfl) rfl ?_ | refine WC.seq ?_ | refine WC.region ?_ | refine WN.then_normal ?_ | refine WC.skip ?_))
        refine WL.callS (g := 64) (A0 := jI dp.bd p s ++ [.blk bp (mobj encP M2 c2)]) (B := drI dp d3) Tryz.call64 rfl (permC _ _ _ _) (fun w0 st2 s1 => commit_r dp.bd p s bp (s.v.used + 5 * i + 1) (plT s.v.used (s.v.tx + 1) L) M2 c2 w0 jok.m (by omega) hM2 s1) rfl fun v C hv => ?_
        obtain ⟨rfl, s2, hs2, hm2, rfl⟩ := hv
        simp only [jI, List.cons_append, List.nil_append]
        (repeat (first | refine WL.step (Yl.assign rfl) rfl ?_ | refine WC.seq ?_ | refine WC.region ?_ | refine WL.nil ?_ | refine WN.then_normal ?_ | refine WC.ret ?_))
        have hj : japp ds.v s.v L = (r.1.sync.1, s.v.commit (plT s.v.used (s.v.tx + 1) L) (s.v.used + 5 * i + 1), 0) := by
          rw [japp, if_neg (not_not_intro hc), if_neg (not_not_intro (by rw [hl]; exact hf))]
          simp only [hw2]
          rw [if_neg (not_not_intro he), if_neg (not_not_intro he3), hl]
        rw [hj]
        exact WN.ret1S rfl rfl ⟨rfl, d3, s2, d3ok, hd3, commit_ok jok (by omega) hf5 hs2 hm2, hs2, rfl⟩ (.cons .here (.cons .here (.more (Part.refl _))))
      · (repeat (first | refine WL.step (Yl.move rfl) rfl ?_ | refine WL.step (Yl.assign rfl) rfl ?_ | (refine WL.k_bin .neq ?_; refine WL.step (Yl.neqT rfl rfl (by omega)) rfl ?_) | refine WC.seq ?_ | refine WC.region ?_ | refine WL.nil ?_ | refine WN.then_normal ?_))
        refine WC.cond_true rfl rfl ?_
        (repeat (first | refine WL.step (Yl.move rfl) rfl ?_ | refine WL.step (Yl.assign rfl) rfl ?_ | refine WC.seq ?_ | refine WC.region ?_ | refine WL.nil ?_ | refine WN.then_normal ?_ | refine WC.ret ?_ | refine WN.then_ret ?_))
        have hj : japp ds.v s.v L = (r.1.sync.1, s.v, r.1.sync.2) := by
          rw [japp, if_neg (not_not_intro hc), if_neg (not_not_intro (by rw [hl]; exact hf))]
          simp only [hw2]
          rw [if_neg (not_not_intro he), if_pos he3]
        rw [hj]
        exact WN.ret1S rfl rfl ⟨rfl, d3, s, d3ok, hd3, jok, rfl, rfl⟩ (.cons (.there .here) (.cons (.there .here) (.more (Part.refl _))))
    · rw [if_neg he, japp_stop hc (by rw [hl]; exact hf) ⟨[], (List.append_nil _).symm⟩ hw2 he]
      (repeat (first | refine WL.step (Yl.move rfl) rfl ?_ | refine WL.step (Yl.assign rfl) rfl ?_ | refine WL.step (Yl.extract rfl rfl) rfl ?_ | (refine WL.k_bin .neq ?_; refine WL.step (Yl.neqT rfl rfl (by omega)) rfl ?_) | refine WC.seq ?_ | refine WC.region ?_ | refine WL.nil ?_ | refine WN.then_normal ?_))
      refine WC.cond_true rfl rfl ?_
      (repeat (first | refine WL.step (Yl.move rfl) rfl ?_ | refine WL.step (Yl.assign rfl) rfl ?_ | refine WC.seq ?_ | refine WC.region ?_ | refine WL.nil ?_ | refine WN.then_normal ?_ | refine WC.ret ?_ | refine WN.then_ret ?_))
      exact WN.ret1S rfl rfl ⟨rfl, d2, s, d2ok, hd2, jok, rfl, rfl⟩ (.cons (.there .here) (.cons (.there .here) (.more (Part.refl _))))
end
end Go.Proofs.YtbkdjfgkebkknaaGreatDoor
namespace Go.Proofs.YtbkdjfgkebkknaaGreatDoor
set_option linter.unusedVariables false
set_option linter.unusedSimpArgs false
open Go Go.RowKit
section
variable {X : Cx} {Q : Exit → Act → World → Prop} {ρ : Env} {A : List HA} {J J' : Nat → Act → World → Prop}
theorem WC.jmono {c : Code} (h : WC X c (Jmp J Q) ρ A) (hJ : ∀ l a w, J l a w → J' l a w) : WC X c (Jmp J' Q) ρ A := fun a w f s => wp_mono (h a w f s) fun e a' w' hq => by
  cases e with
  | goto l => exact hJ _ _ _ hq
  | _ => exact hq
theorem WC.scope2 {γ δ : Type} (E0 : γ → Env) (B0 : γ → List HA) (H0 : γ → Prop) (E1 : δ → Env) (B1 : δ → List HA) (H1 : δ → Prop) (μ : γ → Nat) {l0 l1 : Nat} {c R0 R1 : Code}
    (h0 : findLabel c l0 = some (.seq .skip R0)) (h1 : findLabel c l1 = some (.seq .skip R1))
    (body0 : ∀ g, H0 g → WC X R0 (Jmp (GJ X (Sum.elim E0 E1) (Sum.elim B0 B1) (Sum.elim H0 H1) (Sum.elim (fun _ => l0) (fun _ => l1)) fun g' => Sum.elim (fun g => μ g + 1) (fun _ => 0) g' < μ g + 1) Q) (E0 g) (B0 g))
    (body1 : ∀ g, H1 g → WC X R1 (Jmp (GJ X (Sum.elim E0 E1) (Sum.elim B0 B1) (Sum.elim H0 H1) (Sum.elim (fun _ => l0) (fun _ => l1)) fun _ => False) Q) (E1 g) (B1 g))
    (first : (∀ g ρ A, H0 g → Sub ρ (E0 g) → Part A (B0 g) → WC X R0 (Jmp (GJ X (Sum.elim E0 E1) (Sum.elim B0 B1) (Sum.elim H0 H1) (Sum.elim (fun _ => l0) (fun _ => l1)) fun _ => True) Q) ρ A) → WC X c (Jmp (GJ X (Sum.elim E0 E1) (Sum.elim B0 B1) (Sum.elim H0 H1) (Sum.elim (fun _ => l0) (fun _ => l1)) fun _ => True) Q) ρ A) : WC X (.scope c) Q ρ A := by
  refine WC.scopeG (Sum.elim E0 E1) (Sum.elim B0 B1) (Sum.elim H0 H1) (Sum.elim (fun _ => l0) (fun _ => l1)) (Sum.elim (fun _ => .seq .skip R0) (fun _ => .seq .skip R1)) (Sum.elim (fun g => μ g + 1) (fun _ => 0)) ?_ (first ?_) ?_
  · rintro (g | g)
    · exact h0
    · exact h1
  · intro g ρ A hg hs hp
    exact WC.weak hs hp ((body0 g hg).jmono fun l a w ⟨g', h1, _, h2⟩ => ⟨g', h1, trivial, h2⟩)
  · rintro (g | g) hg
    · exact WC.seq (WC.skip (WN.then_normal (body0 g hg)))
    · exact WC.seq (WC.skip (WN.then_normal ((body1 g hg).jmono fun l a w ⟨g', _, h2, _⟩ => h2.elim)))
end
end Go.Proofs.YtbkdjfgkebkknaaGreatDoor
namespace Go.Proofs.YtbkdjfgkebkknaaGreatDoor.Frm
set_option linter.unusedVariables false
set_option linter.unusedSimpArgs false
theorem ep_lt {n : Int} (h : Ep n) : n.toNat < 256 ^ 8 := by
  have : (256 : Nat) ^ 8 = 18446744073709551616 := by decide
  omega
theorem stamp_parts (n : Int) (d more : List UInt8) (hd : d.length ≤ 112) :
    (stamp n d ++ more).take 8 = Big.be 8 n.toNat ∧ ((stamp n d ++ more).drop 8).take 112 = d ++ List.replicate (112 - d.length) 0 ∧ ((stamp n d ++ more).drop 120).take 8 = Big.be 8 n.toNat := by
  have h8 := Big.be_length 8 n.toNat
  unfold stamp
  generalize Big.be 8 n.toNat = e at *
  have hm : (d ++ List.replicate (112 - d.length) (0 : UInt8)).length = 112 := by simp; omega
  have e1 : e ++ d ++ List.replicate (112 - d.length) 0 ++ e ++ more = e ++ ((d ++ List.replicate (112 - d.length) 0) ++ (e ++ more)) := by simp only [List.append_assoc]
  rw [e1]
  generalize d ++ List.replicate (112 - d.length) 0 = m at *
  refine ⟨by rw [← h8, List.take_left], by rw [show 8 = e.length from h8.symm, List.drop_left, ← hm, List.take_left], ?_⟩
  rw [← List.append_assoc, show 120 = (e ++ m).length by rw [List.length_append, h8, hm], List.drop_left, ← h8, List.take_left]
theorem unst_stamp {n : Int} (hn : Ep n) {d : List UInt8} (hd : d.length ≤ 112) (more : List UInt8) : unst (stamp n d ++ more) n = (0, d ++ List.replicate (112 - d.length) 0) := by
  obtain ⟨h1, h2, h3⟩ := stamp_parts n d more hd
  have hl := stamp_length (n := n) hd
  unfold unst
  rw [if_neg (not_not_intro hn), if_neg, h2]
  rintro (h | h | h)
  · rw [List.length_append] at h; omega
  · exact h h1
  · exact h h3
theorem unst_other {n m : Int} (hn : Ep n) (hm : Ep m) (hne : m ≠ n) {d : List UInt8} (hd : d.length ≤ 112) (more : List UInt8) : unst (stamp n d ++ more) m = (13, []) := by
  obtain ⟨h1, h2, h3⟩ := stamp_parts n d more hd
  unfold unst
  rw [if_neg (not_not_intro hm), if_pos]
  refine .inr (.inl ?_)
  rw [h1]
  intro h
  have h4 := Big.val_be 8 n.toNat (ep_lt hn)
  rw [h, Big.val_be 8 m.toNat (ep_lt hm)] at h4
  omega
theorem stamp_of {b : List UInt8} {x : Int} (h : (unst b x).1 = 0) : b.take 128 = stamp x (unst b x).2 := by
  obtain ⟨he, hl, hu, hul⟩ := unst_zero h
  have ht : ¬ Torn b x := by
    intro ht
    unfold unst at h
    rw [if_neg (not_not_intro he), if_pos ht] at h
    cases h
  have h1 : b.take 8 = Big.be 8 x.toNat := Decidable.not_not.1 fun h1 => ht (.inr (.inl h1))
  have h2 : (b.drop 120).take 8 = Big.be 8 x.toNat := Decidable.not_not.1 fun h1 => ht (.inr (.inr h1))
  have e1 : b.take (120 + 8) = b.take 120 ++ (b.drop 120).take 8 := by rw [List.take_add]
  have e2 : b.take (8 + 112) = b.take 8 ++ (b.drop 8).take 112 := by rw [List.take_add]
  unfold stamp
  rw [hul, Nat.sub_self, List.replicate_zero, List.append_nil, hu]
  show b.take (120 + 8) = Big.be 8 x.toNat ++ (b.drop 8).take 112 ++ Big.be 8 x.toNat
  rw [e1, show b.take 120 = b.take 8 ++ (b.drop 8).take 112 from e2, h1, h2]
theorem chunks_app (ep : Int) (p q : List UInt8) (k : Nat) (h : 112 * k ≤ p.length) : chunks ep (p ++ q) k = chunks ep p k := by
  induction k with
  | zero => rfl
  | succ k ih =>
    rw [chunks_succ, chunks_succ, ih (by omega)]
    congr 2
    rw [List.drop_append_of_le_length (by omega), List.take_append_of_le_length (by rw [List.length_drop]; omega)]
theorem chunks_pad (ep : Int) (p : List UInt8) (m k : Nat) : chunks ep (p ++ List.replicate m 0) k = chunks ep p k := by
  induction k with
  | zero => rfl
  | succ k ih => rw [chunks_succ, chunks_succ, ih, stamp_pad]
theorem gather_chunks {b : List UInt8} {x : Int} (k : Nat) (h : (gather b x k).1 = 0) : b.take (128 * k) = chunks x (gather b x k).2 k ∧ (gather b x k).2.length = 112 * k ∧ 128 * k ≤ b.length := by
  induction k with
  | zero => exact ⟨by simp [chunks], rfl, Nat.zero_le _⟩
  | succ k ih =>
    by_cases h1 : (gather b x k).1 = 0
    · by_cases h2 : (unst (b.drop (128 * k)) x).1 = 0
      · obtain ⟨i1, i2, i3⟩ := ih h1
        obtain ⟨_, u2, _, u4⟩ := unst_zero h2
        rw [gather_step h1 h2]
        rw [List.length_drop] at u2
        refine ⟨?_, by simp only [List.length_append, i2, u4]; omega, by omega⟩
        rw [chunks_succ, chunks_app _ _ _ _ (by omega), ← i1, show 128 * (k + 1) = 128 * k + 128 by omega, List.take_add, stamp_of h2]
        congr 2
        rw [← i2, List.drop_left, List.take_of_length_le (by omega)]
      · rw [gather_stop h1 h2] at h; exact absurd h h2
    · rw [gather_bad h1] at h; exact absurd h h1
theorem gather_first {b : List UInt8} {x : Int} (k : Nat) (h : (gather b x (k + 1)).1 = 0) : ∃ r, (gather b x (k + 1)).2 = (unst b x).2 ++ r := by
  induction k with
  | zero =>
    by_cases h2 : (unst (b.drop (128 * 0)) x).1 = 0
    · rw [gather_step (k := 0) rfl h2]
      exact ⟨[], by rw [gather_zero, List.append_nil, List.nil_append, Nat.mul_zero, List.drop_zero]⟩
    · rw [gather_stop (k := 0) rfl h2] at h; exact absurd h h2
  | succ k ih =>
    by_cases h1 : (gather b x (k + 1)).1 = 0
    · by_cases h2 : (unst (b.drop (128 * (k + 1))) x).1 = 0
      · obtain ⟨r, hr⟩ := ih h1
        rw [gather_step h1 h2]
        exact ⟨r ++ (unst (b.drop (128 * (k + 1))) x).2, by simp only [hr, List.append_assoc]⟩
      · rw [gather_stop h1 h2] at h; exact absurd h h2
    · rw [gather_bad h1] at h; exact absurd h h1
theorem zeros_eq : ∀ (l : List UInt8), (∀ c ∈ l, c = 0) → l = List.replicate l.length 0
  | [], _ => rfl
  | c :: l, h => by
    have h1 := h c (.head _)
    subst h1
    have := zeros_eq l fun c hc => h c (.tail _ hc)
    rw [List.length_cons, List.replicate_succ, ← this]
theorem head_eq {D : List UInt8} (h : 11 ≤ D.length) : head (vk D) (vt D) (vi D) (vn D) = D.take 11 := by
  have e : ∀ (l : List UInt8) (k : Nat), l.length = k → Big.be k (Big.val 0 l) = l := fun l k hk => by subst hk; exact Big.be_val l
  unfold head vk vt vi vn
  rw [e _ 1 (by rw [List.length_take]; omega), e _ 4 (by rw [List.length_take, List.length_drop]; omega), e _ 2 (by rw [List.length_take, List.length_drop]; omega), e _ 4 (by rw [List.length_take, List.length_drop]; omega)]
  rw [← List.take_add, ← List.take_add, ← List.take_add]
theorem opened_ok {l : List UInt8} (h : (Crc.opened l).1 = 0) : (Crc.opened l).2 = l.take (l.length - 4) ∧ Crc.sealed (l.take (l.length - 4)) = l := by
  unfold Crc.opened at h ⊢
  split
  · rename_i h1; rw [if_pos h1] at h; cases h
  · rename_i h1
    rw [if_neg h1] at h
    split
    · rename_i h2; exact ⟨rfl, h2⟩
    · rename_i h2; rw [if_neg h2] at h; cases h
theorem dec_enc {b : List UInt8} {x : Int} (h : (dec b x).err = 0) : enc (dec b x).kd (dec b x).ep (dec b x).tx (dec b x).ix (dec b x).no (dec b x).data = (0, b.take (128 * (dec b x).sec)) ∧ 128 * (dec b x).sec ≤ b.length ∧ (dec b x).ep = x ∧ (dec b x).sec ≤ 5 := by
  unfold dec at h ⊢
  by_cases h0 : (unst b x).1 ≠ 0
  · rw [if_pos h0] at h; exact absurd h h0
  · rw [if_neg h0] at h ⊢
    have h0 := Decidable.not_not.1 h0
    by_cases hk : ¬ (kindOf (unst b x).2 = 1 ∨ kindOf (unst b x).2 = 2)
    · rw [if_pos hk] at h; cases h
    · rw [if_neg hk] at h ⊢
      have hk := Decidable.not_not.1 hk
      obtain ⟨s1, s2, s3⟩ := secs_of hk
      by_cases hg : (gather b x (secs (kindOf (unst b x).2)).1).1 ≠ 0
      · rw [if_pos hg] at h; exact absurd h hg
      · rw [if_neg hg] at h ⊢
        have hg := Decidable.not_not.1 hg
        obtain ⟨g1, g2, g3⟩ := gather_chunks _ hg
        have hvk : vk (gather b x (secs (kindOf (unst b x).2)).1).2 = kindOf (unst b x).2 := by
          obtain ⟨S, hS⟩ : ∃ S, (secs (kindOf (unst b x).2)).1 = S + 1 := ⟨_, (Nat.succ_pred_eq_of_pos s1).symm⟩
          rw [hS] at hg ⊢
          obtain ⟨r, hr⟩ := gather_first S hg
          obtain ⟨_, _, _, u4⟩ := unst_zero h0
          rw [hr]
          unfold vk kindOf
          generalize (unst b x).2 = u at u4
          cases u with
          | nil => cases u4
          | cons c u => simp [Big.val]
        generalize (gather b x (secs (kindOf (unst b x).2)).1).2 = D at *
        generalize kindOf (unst b x).2 = K at *
        unfold fin at h ⊢
        by_cases ho : (Crc.opened (D.take (15 + dl K))).1 ≠ 0
        · rw [if_pos ho] at h; cases h
        · rw [if_neg ho] at h ⊢
          have ho := Decidable.not_not.1 ho
          obtain ⟨o1, o2⟩ := opened_ok ho
          have hDl : 15 + dl K ≤ D.length := by omega
          have hlt : (D.take (15 + dl K)).length = 15 + dl K := by rw [List.length_take]; omega
          by_cases hc : (∀ c ∈ D.drop (15 + dl K), c = 0) ∧ check (vk D) x (vt D) (vi D) (vn D) ((Crc.opened (D.take (15 + dl K))).2.drop 11).length = 0
          · rw [if_pos hc]
            obtain ⟨hz, hck⟩ := hc
            refine ⟨?_, g3, rfl, s2⟩
            have hok : Ok (vk D) x (vt D) (vi D) (vn D) ((Crc.opened (D.take (15 + dl K))).2.drop 11).length := by
              unfold check at hck
              by_cases hok : Ok (vk D) x (vt D) (vi D) (vn D) ((Crc.opened (D.take (15 + dl K))).2.drop 11).length
              · exact hok
              · rw [if_neg hok] at hck; cases hck
            unfold enc
            rw [if_pos hok]
            simp only [Int.toNat_natCast]
            have hp : payload (vk D) (vt D) (vi D) (vn D) ((Crc.opened (D.take (15 + dl K))).2.drop 11) = D.take (15 + dl K) := by
              unfold payload
              rw [head_eq (by omega), o1, hlt]
              have e : D.take 11 ++ ((D.take (15 + dl K)).take (15 + dl K - 4)).drop 11 = (D.take (15 + dl K)).take ((D.take (15 + dl K)).length - 4) := by
                have e3 : (D.take (15 + dl K - 4)).take 11 = D.take 11 := by rw [List.take_take, Nat.min_eq_left (by omega)]
                rw [hlt, List.take_take, Nat.min_eq_left (by omega), ← e3, List.take_append_drop]
              rw [e, o2]
            rw [hp, hvk]
            have hD : D = D.take (15 + dl K) ++ List.replicate (D.drop (15 + dl K)).length 0 := by
              rw [← zeros_eq _ hz, List.take_append_drop]
            have h5 := chunks_pad x (D.take (15 + dl K)) (D.drop (15 + dl K)).length (secs (K : Int)).1
            rw [← hD] at h5
            rw [← h5, ← g1]
          · rw [if_neg hc] at h; cases h
theorem unst_err (b : List UInt8) (x : Int) : (unst b x).1 = if ¬ Ep x then 2 else if Torn b x then 13 else 0 := by
  unfold unst
  split
  · rfl
  · split <;> rfl
end Go.Proofs.YtbkdjfgkebkknaaGreatDoor.Frm
