import Derived.Test.YtbkdjfgkebkknaaGreatDoorRowJournalCrashesMg11
import Derived.Test.YtbkdjfgkebkknaaGreatDoorRowJournalCrashesMg14
import Derived.Test.YtbkdjfgkebkknaaGreatDoorRowJournalCrashesMg5
namespace Go.Proofs.YtbkdjfgkebkknaaGreatDoor
set_option linter.unusedVariables false
set_option linter.unusedSimpArgs false
open Go Go.RowKit
set_option maxRecDepth 100000
set_option maxHeartbeats 8000000
def fitN (v : JV) (x : Int) : Prop := v.used < v.n ∧ x ≤ (((v.n - v.used - 1) / 5 : Nat) : Int)
instance (v : JV) (x : Int) : Decidable (fitN v x) := inferInstanceAs (Decidable (_ ∧ _))
def fitS (v : JV) (x : Int) : Prop := 1 ≤ v.n ∧ x ≤ (((v.n - 1) / 5 : Nat) : Int)
instance (v : JV) (x : Int) : Decidable (fitS v x) := inferInstanceAs (Decidable (_ ∧ _))
def fitV (v : JV) (x : Int) : Bool × Bool := if x < 1 then (false, false) else (decide (fitN v x), decide (fitS v x))
def rowB (v : DV) (a k : Nat) : List UInt8 := ((List.range k).map fun i => (readR v.d v.F ((a + i : Nat) : Int)).1).flatten
def rdn (j : JV) (at_ : Nat) : Nat := min (at_ + 5) j.n - at_
def jrd (v : DV) (j : JV) (at_ : Nat) : DV × Frm.Out := if v.down = true ∧ 0 < rdn j at_ then (v, Frm.bad 11) else ({ v with rd := v.rd + rdn j at_ }, Frm.dec (rowB v (j.first + at_) (rdn j at_)) j.ep)
def JReadV (dp : DP) (p : JP) (s : JS) (r : DV × Frm.Out) : Value → List HA → Prop := fun u B => ∃ C ds', Decoded r.2 u C ∧ DS.Ok ds' dp ∧ ds'.v = r.1 ∧ B = C ++ (jI dp.bd p s ++ drI dp ds')
def TabO (w : World) (S : List Nat) : Prop := CellsOut w S (some ⟨0, 0, none⟩) tabCells
theorem rowB_succ (v : DV) (a k : Nat) : rowB v a (k + 1) = rowB v a k ++ (readR v.d v.F ((a + k : Nat) : Int)).1 := by
  simp [rowB, List.range_succ]
theorem readR_at {d : List (List UInt8)} {F : Nat → Option (List UInt8)} (hw : BkWf d F) {k : Nat} (h : k < d.length) : (readR d F (k : Int)).1 = (F k).getD (d.getD k []) ∧ (readR d F (k : Int)).2 = 0 ∧ (readR d F (k : Int)).1.length = 128 := by
  have e : readR d F (k : Int) = ((F k).getD (d.getD k []), 0) := by
    rw [readR, if_pos (bchk_lt h), Int.toNat_natCast]
  rw [e]
  refine ⟨rfl, rfl, ?_⟩
  cases hf : F k with
  | none => simp only [Option.getD_none]; exact hw.len _ (by simp [List.getD, h])
  | some x => exact hw.val k x hf
theorem rowB_len {v : DV} (hw : BkWf v.d v.F) {a : Nat} : ∀ {k : Nat}, a + k ≤ v.d.length → (rowB v a k).length = 128 * k
  | 0, _ => rfl
  | k + 1, h => by rw [rowB_succ, List.length_append, rowB_len hw (by omega), (readR_at hw (by omega)).2.2]; omega
section
variable {P : Program} {fn : Func} {R : Value → List HA → Prop} {ρ : Env} {A B : List HA} {n : Nat} {w0 : World} {S : List Nat}
theorem WN.ret3CS {t t2 t3 : Tmp} {T T' : TypeId} {b k : Nat} {us : Array Value} {fr : Nat × Nat} {v2 v3 : Value} (hr : fn.results = #[.cell t T, .tmp t2, .tmp t3]) (hg : ∀ w, (isAgg T).run P w = .ok true w) (hk : ∀ w, (sizeOf T).run P w = .ok k w)
    (hv : lk ρ t = some (.pointer (some ⟨b, 0, none⟩))) (hv2 : lk ρ t2 = some v2) (hv3 : lk ρ t3 = some v3) (hm : HA.blk b (.cells us T' fr) ∈ A) (hl : Nat.beq us.size k = true) (hR : R (.tuple #[.agg us, v2, v3]) B) (hp : Part A B) :
    WN ⟨P, n, w0, S⟩ (bodyPost P fn (GivesS S R w0)) .ret ρ A :=
  fun a w f s => by
    have hc := cell_run hg hk hm hl s
    have h1 := f.get t _ hv
    have h2 := f.get t2 _ hv2
    have h3 := f.get t3 _ hv3
    refine bodyPost_ret (v := .tuple #[.agg us, v2, v3]) ?_ f.defers ⟨_, B, rfl, hR, s.part hp⟩
    rw [Array.getD_eq_getD_getElem?] at h1 h2 h3
    simp [results, hr, h1, h2, h3, asAddr, hc]
end
attribute [local irreducible] WL WC WN Yl WH WQ WT WE WU WG WV
theorem jfits1_c (b : Nat) (x : Int) (k : Nat) (w : World) (hk : 1 ≤ k) (hk2 : k ≤ 100000) (hb : w.heap[b]? = some (.cells #[.int .i64 x] 3 (0, 0))) : Calls Tryz.prog 61 #[.int .i64 (k : Int), .pointer (some ⟨b, 0, none⟩)] w (Gives (Val (.bool (decide (x ≤ (((k - 1) / 5 : Nat) : Int))))) w) := by
  refine enter (args := [_, .pointer (some ⟨b, 0, none⟩)]) Tryz.func61 Tryz.ntmps61 rfl rfl ?_
  (repeat (first | refine WL.step (Yl.move rfl) rfl ?_ | refine WL.step (Yl.assign rfl) rfl ?_ | (refine WL.k_load ?_; refine WL.step (Yl.loadH Tryz.isAgg3 rfl (Has.old hb) (by rfl)) rfl ?_) | (refine WL.k_bin .sub ?_; refine WL.step (Yl.sub64C rfl (by omega) (by omega)) rfl ?_) | (refine WL.k_bin .quo ?_; refine WL.step (Yl.quo64C rfl (by omega) (by decide)) rfl ?_) | refine WL.step (Yl.leq rfl rfl) rfl ?_ | refine WC.seq ?_ | refine WC.region ?_ | refine WL.nil ?_ | refine WN.then_normal ?_ | refine WC.ret ?_))
  exact WN.ret1 rfl rfl ⟨rfl, rfl⟩ .nil
section
variable {bd : Nat} {p : JP} {s : JS}
theorem jfits_c (x : Int) (w : World) (h : JAt w bd p s) : Calls Tryz.prog 15 #[bptr p.bj, .int .i64 x] w (Gives (Val (.tuple #[.bool (fitV s.v x).1, .bool (fitV s.v x).2])) w) := by
  have hu := h.ok.used
  have hrow := h.ok.row
  refine enter (args := [.pointer (some ⟨p.bj, 0, none⟩), _]) Tryz.func15 Tryz.ntmps15 rfl rfl ?_
  (repeat (first | refine WC.seq ?_ | refine WC.region ?_))
  refine WL.box rfl rfl fun b3 => ?_
  by_cases hx : x < 1
  · rw [fitV, if_pos hx]
    (repeat (first | refine WL.want rfl rfl rfl ?_ | refine WL.step (Yl.move rfl) rfl ?_ | refine WL.step (Yl.assign rfl) rfl ?_ | (refine WL.k_load ?_; refine WL.step (Yl.loadBlk (T := 3) Tryz.isAgg3 rfl (by repeat (first | exact .head _ | refine .tail _ ?_)) (by rfl)) rfl ?_) | refine WL.step (Yl.pick_f rfl rfl rfl) rfl ?_ | refine WL.callV (g := 60) (v := .bool true) Tryz.call60 rfl (fun w0 st => jvalid_c w0 (h.keep st.kept)) rfl ?_ | (refine WL.k_bin .lss ?_; refine WL.step (Yl.lssT rfl rfl (by omega)) rfl ?_) | refine WL.step (Yl.not rfl) rfl ?_ | refine WC.seq ?_ | refine WC.region ?_ | refine WL.nil ?_ | refine WN.then_normal ?_))
    refine WC.cond_true rfl rfl ?_
    (repeat (first | refine WL.step (Yl.assign rfl) rfl ?_ | refine WC.seq ?_ | refine WC.region ?_ | refine WL.nil ?_ | refine WN.then_normal ?_ | refine WC.ret ?_ | refine WN.then_ret ?_))
    exact WN.ret2 rfl rfl rfl ⟨rfl, rfl⟩ .nil
  rw [fitV, if_neg hx]
  (repeat (first | refine WL.want rfl rfl rfl ?_ | refine WL.step (Yl.move rfl) rfl ?_ | refine WL.step (Yl.assign rfl) rfl ?_ | (refine WL.k_load ?_; refine WL.step (Yl.loadBlk (T := 3) Tryz.isAgg3 rfl (by repeat (first | exact .head _ | refine .tail _ ?_)) (by rfl)) rfl ?_) | refine WL.step (Yl.pick_f rfl rfl rfl) rfl ?_ | refine WL.callV (g := 60) (v := .bool true) Tryz.call60 rfl (fun w0 st => jvalid_c w0 (h.keep st.kept)) rfl ?_ | (refine WL.k_bin .lss ?_; refine WL.step (Yl.lssF rfl rfl (by omega)) rfl ?_) | refine WL.step (Yl.not rfl) rfl ?_ | refine WC.seq ?_ | refine WC.region ?_ | refine WL.nil ?_ | refine WN.then_normal ?_))
  refine WC.cond_false rfl rfl ?_
  (repeat (first | refine WL.step (Yl.assign rfl) rfl ?_ | refine WL.step (Yl.capFunc (vs := [.pointer (some ⟨b3, 0, none⟩)]) rfl) rfl ?_ | refine WC.seq ?_ | refine WC.region ?_ | refine WL.nil ?_ | refine WN.then_normal ?_ | refine WC.skip ?_))
  have hb3 : ∀ {w0 : World}, St w [] [HA.blk b3 (.cells #[.int .i64 x] 3 (0, 0))] w0 → w0.heap[b3]? = some (.cells #[.int .i64 x] 3 (0, 0)) := fun st => st.holds _ (.head _)
  by_cases hn : 1 ≤ s.v.n
  · by_cases hf : s.v.used < s.v.n
    · refine WC.regionH [.blk b3 (.cells #[.int .i64 x] 3 (0, 0))] (by kernel_rfl) ?_
      (refine WH.order [0, 1, 2, 3, 4, 5, 6, 7, 8, 9, 10, 11, 12, 13, 14, 15, 16, 17, 18, 19, 22, 23, 24, 25, 26] (by repeat (first | exact Part.nil | refine Part.cons (by repeat (first | exact Pick.here | apply Pick.there)) ?_ | refine Part.free ?_)) (by kernel_rfl) ?_; (repeat (first | (refine WT.k_move rfl ?_; first | (refine WT.kn rfl ?_; refine WT.take rfl rfl (fun _ _ _ h => h) (Yl.move rfl) rfl (by kernel_rfl) (by kernel_rfl) ?_) | (refine WT.kg rfl ?_; refine WT.takeG rfl rfl rfl rfl (fun _ _ _ h => h) (Yl.move rfl) rfl (by kernel_rfl) (by kernel_rfl) ?_)) | (refine WT.k_load rfl ?_; first | (refine WT.kn rfl ?_; refine WT.take rfl rfl (fun _ _ _ h => h) (Yl.loadH Tryz.isAgg26 rfl (Has.old h.blk) rfl) rfl (by kernel_rfl) (by kernel_rfl) ?_) | (refine WT.kg rfl ?_; refine WT.takeG rfl rfl rfl rfl (fun _ _ _ h => h) (Yl.loadH Tryz.isAgg26 rfl (Has.old h.blk) rfl) rfl (by kernel_rfl) (by kernel_rfl) ?_)) | (refine WT.k_fld rfl ?_; first | (refine WT.kn rfl ?_; first | refine WT.take rfl rfl (fun _ _ _ h => h) (Yl.fldN0 (i := 2) (o := 2) (by kernel_rfl) rfl) rfl (by kernel_rfl) (by kernel_rfl) ?_ | refine WT.take rfl rfl (fun _ _ _ h => h) (Yl.fldN0 (i := 4) (o := 4) (by kernel_rfl) rfl) rfl (by kernel_rfl) (by kernel_rfl) ?_) | (refine WT.kg rfl ?_; first | refine WT.takeG rfl rfl rfl rfl (fun _ _ _ h => h) (Yl.fldN0 (i := 2) (o := 2) (by kernel_rfl) rfl) rfl (by kernel_rfl) (by kernel_rfl) ?_ | refine WT.takeG rfl rfl rfl rfl (fun _ _ _ h => h) (Yl.fldN0 (i := 4) (o := 4) (by kernel_rfl) rfl) rfl (by kernel_rfl) (by kernel_rfl) ?_)) | (refine WT.k_nilc rfl ?_; first | (refine WT.kn rfl ?_; refine WT.take rfl rfl (fun _ _ _ h => h) (Yl.nilCheck rfl) rfl (by kernel_rfl) (by kernel_rfl) ?_) | (refine WT.kg rfl ?_; refine WT.takeG rfl rfl rfl rfl (fun _ _ _ h => h) (Yl.nilCheck rfl) rfl (by kernel_rfl) (by kernel_rfl) ?_)) | (refine WT.k_bin .lss rfl ?_; (refine WT.kn rfl ?_; refine WT.take rfl rfl (fun _ _ _ h => h) (Yl.lssT rfl rfl (by omega)) rfl (by kernel_rfl) (by kernel_rfl) ?_)) | (refine WT.k_bin .sub rfl ?_; (refine WT.kg rfl ?_; refine WT.takeG rfl rfl rfl rfl (fun _ _ _ h => h) (Yl.sub64N rfl rfl (by omega) (by omega)) rfl (by kernel_rfl) (by kernel_rfl) ?_)))); refine WT.nil ?_)
      refine WH.only (i := 20) (by kernel_rfl) rfl ?_
      refine WL.want rfl rfl rfl ?_
      refine WL.callFV (g := 61) (v := .bool (decide (x ≤ (((s.v.n - s.v.used - 1) / 5 : Nat) : Int)))) (cs := [.pointer (some ⟨b3, 0, none⟩)]) Tryz.call61 rfl rfl (fun w0 st => jfits1_c b3 x (s.v.n - s.v.used) w0 (by omega) (by omega) (hb3 st)) rfl ?_
      refine WL.nil (WN.nextH (Part.refl _) ?_)
      (refine WH.order [21] (by repeat (first | exact Part.nil | refine Part.cons (by repeat (first | exact Pick.here | apply Pick.there)) ?_ | refine Part.free ?_)) (by kernel_rfl) ?_; (repeat (first | (refine WT.k_pick rfl ?_; (refine WT.kn rfl ?_; refine WT.take rfl rfl (fun _ _ _ h => h) (Yl.pick_t rfl rfl rfl) rfl (by kernel_rfl) (by kernel_rfl) ?_)))); refine WT.nil ?_)
      refine WH.only (i := 27) (by kernel_rfl) rfl ?_
      refine WL.callFV (g := 61) (v := .bool (decide (x ≤ (((s.v.n - 1) / 5 : Nat) : Int)))) (cs := [.pointer (some ⟨b3, 0, none⟩)]) Tryz.call61 rfl rfl (fun w0 st => jfits1_c b3 x s.v.n w0 hn (by omega) (hb3 st)) rfl ?_
      refine WL.nil (WN.nextH (Part.refl _) ?_)
      (refine WH.order [28, 29] (by repeat (first | exact Part.nil | refine Part.cons (by repeat (first | exact Pick.here | apply Pick.there)) ?_ | refine Part.free ?_)) (by kernel_rfl) ?_; (repeat (first | (refine WT.k_assign rfl ?_; (refine WT.kn rfl ?_; refine WT.take rfl rfl (fun _ _ _ h => h) (Yl.assign rfl) rfl (by kernel_rfl) (by kernel_rfl) ?_)))); refine WT.nil ?_)
      refine WH.done (by kernel_rfl) ?_
      (repeat (first | refine WN.then_normal ?_ | refine WC.ret ?_))
      exact WN.ret2 rfl rfl rfl ⟨by simp only [fitN, fitS, hf, hn, true_and], rfl⟩ .nil
    · refine WC.regionH [.blk b3 (.cells #[.int .i64 x] 3 (0, 0))] (by kernel_rfl) ?_
      (refine WH.order [0, 1, 2, 3, 4, 5, 6, 7, 8, 9, 10, 11, 12, 13, 14, 15, 16, 17, 18, 19, 20, 21, 22, 23, 24, 25, 26] (by repeat (first | exact Part.nil | refine Part.cons (by repeat (first | exact Pick.here | apply Pick.there)) ?_ | refine Part.free ?_)) (by kernel_rfl) ?_; (repeat (first | refine WT.passG rfl rfl rfl rfl (fun _ _ _ h => h) rfl (by kernel_rfl) (by kernel_rfl) ?_ | (refine WT.k_move rfl ?_; (refine WT.kn rfl ?_; refine WT.take rfl rfl (fun _ _ _ h => h) (Yl.move rfl) rfl (by kernel_rfl) (by kernel_rfl) ?_)) | (refine WT.k_load rfl ?_; (refine WT.kn rfl ?_; refine WT.take rfl rfl (fun _ _ _ h => h) (Yl.loadH Tryz.isAgg26 rfl (Has.old h.blk) rfl) rfl (by kernel_rfl) (by kernel_rfl) ?_)) | (refine WT.k_fld rfl ?_; (refine WT.kn rfl ?_; first | refine WT.take rfl rfl (fun _ _ _ h => h) (Yl.fldN0 (i := 2) (o := 2) (by kernel_rfl) rfl) rfl (by kernel_rfl) (by kernel_rfl) ?_ | refine WT.take rfl rfl (fun _ _ _ h => h) (Yl.fldN0 (i := 4) (o := 4) (by kernel_rfl) rfl) rfl (by kernel_rfl) (by kernel_rfl) ?_)) | (refine WT.k_pick rfl ?_; (refine WT.kn rfl ?_; refine WT.take rfl rfl (fun _ _ _ h => h) (Yl.pick_f rfl rfl rfl) rfl (by kernel_rfl) (by kernel_rfl) ?_)) | (refine WT.k_nilc rfl ?_; (refine WT.kn rfl ?_; refine WT.take rfl rfl (fun _ _ _ h => h) (Yl.nilCheck rfl) rfl (by kernel_rfl) (by kernel_rfl) ?_)) | (refine WT.k_bin .lss rfl ?_; (refine WT.kn rfl ?_; refine WT.take rfl rfl (fun _ _ _ h => h) (Yl.lssF rfl rfl (by omega)) rfl (by kernel_rfl) (by kernel_rfl) ?_)))); refine WT.nil ?_)
      refine WH.only (i := 27) (by kernel_rfl) rfl ?_
      refine WL.callFV (g := 61) (v := .bool (decide (x ≤ (((s.v.n - 1) / 5 : Nat) : Int)))) (cs := [.pointer (some ⟨b3, 0, none⟩)]) Tryz.call61 rfl rfl (fun w0 st => jfits1_c b3 x s.v.n w0 hn (by omega) (hb3 st)) rfl ?_
      refine WL.nil (WN.nextH (Part.refl _) ?_)
      (refine WH.order [28, 29] (by repeat (first | exact Part.nil | refine Part.cons (by repeat (first | exact Pick.here | apply Pick.there)) ?_ | refine Part.free ?_)) (by kernel_rfl) ?_; (repeat (first | (refine WT.k_assign rfl ?_; (refine WT.kn rfl ?_; refine WT.take rfl rfl (fun _ _ _ h => h) (Yl.assign rfl) rfl (by kernel_rfl) (by kernel_rfl) ?_)))); refine WT.nil ?_)
      refine WH.done (by kernel_rfl) ?_
      (repeat (first | refine WN.then_normal ?_ | refine WC.ret ?_))
      exact WN.ret2 rfl rfl rfl ⟨by simp only [fitN, fitS, hf, hn, true_and, false_and, decide_false], rfl⟩ .nil
  · exact absurd h.ok.n1 hn
end
end Go.Proofs.YtbkdjfgkebkknaaGreatDoor
namespace Go.Proofs.YtbkdjfgkebkknaaGreatDoor
set_option linter.unusedVariables false
set_option linter.unusedSimpArgs false
open Go Go.RowKit
set_option maxRecDepth 100000
set_option maxHeartbeats 8000000
theorem jrd_up {v : DV} {j : JV} {at_ : Nat} (h : v.down = false) : jrd v j at_ = ({ v with rd := v.rd + rdn j at_ }, Frm.dec (rowB v (j.first + at_) (rdn j at_)) j.ep) := by
  rw [jrd, if_neg (by rw [h]; simp)]
theorem rd_view (v : DV) (i : Nat) (h : v.down = false) (hw : BkWf v.d v.F) {k : Nat} (hk : k < v.d.length) : (({ v with rd := v.rd + i } : DV).read (k : Int)) = ({ v with rd := v.rd + (i + 1) }, readR v.d v.F (k : Int)) := by
  rw [DV.read, if_neg (by simp [h])]
  simp only
  rw [if_pos (readR_at hw hk).2.1]
  rfl
theorem permJ4 (x y z t : HA) (D : List HA) : (x :: y :: z :: t :: D).Perm (D ++ [x, y, z, t]) := List.perm_append_comm (l₁ := [x, y, z, t])
theorem permJ5 (g x y z t : HA) (D : List HA) : ((g :: D) ++ [x, y, z, t]).Perm (x :: y :: z :: t :: g :: D) := by
  classical
  rw [List.perm_iff_count]; intro u; simp only [List.count_append, List.count_cons, List.count_nil]; omega
attribute [local irreducible] WL WC WN Yl WH WQ WT WE WU WG WV
section
variable {dp : DP} {ds : DS} {p : JP} {s : JS} {S : List Nat}
theorem jread_r (at_ : Nat) (w : World) (dok : ds.Ok dp) (jok : s.Ok) (hrow : s.v.first + s.v.n ≤ ds.d.length) (hat : at_ ≤ 100000) (hrd : ds.rd < 2305843009213693952) (hT : TabO w S) (st : St w S (jI dp.bd p s ++ drI dp ds) w) :
    Calls Tryz.prog 66 #[bptr p.bj, .int .i64 (at_ : Int)] w (GivesS S (JReadV dp p s (jrd ds.v s.v at_)) w) := by
  have hwf : BkWf ds.v.d ds.v.F := dok.wf
  have hle := dok.wf.le
  have hrow2 := jok.row
  have hrd5 : ds.v.rd + 5 < 4611686018427387904 := by show ds.rd + 5 < _; omega
  refine enterS (args := [.pointer (some ⟨p.bj, 0, none⟩), _]) Tryz.func66 Tryz.ntmps66 rfl rfl st ?_
  simp only [jI, List.cons_append, List.nil_append]
  (repeat (first | refine WC.seq ?_ | refine WC.region ?_))
  refine WL.allocA Tryz.zeroValue121 rfl fun b4 => ?_
  (repeat (first | refine WL.step (Yl.move rfl) rfl ?_ | refine WL.step (Yl.assign rfl) rfl ?_ | refine WC.seq ?_ | refine WC.region ?_ | refine WL.nil ?_ | refine WN.then_normal ?_ | refine WC.block ?_))
  refine WC.loop (α := Nat × DS × (Option Addr × Nat)) (fun g => [(0, .pointer (some ⟨p.bj, 0, none⟩)), (1, .int .i64 (at_ : Int)), (4, .pointer (some ⟨b4, 0, none⟩)), (5, .int .i64 0), (6, .int .i64 0), (7, .slice g.2.2.1 (128 * g.1) g.2.2.2), (8, .int .i64 ((at_ + g.1 : Nat) : Int))])
    (fun g => .blk p.bj (jO dp.bd p s.v) :: .blk p.bm (mobj encP s.M s.c) :: .blk b4 (.cells #[.int .i64 0, .int .i64 0, .int .i64 0, .int .i64 0, .int .i64 0, .slice none 0 0] 121 (0, 0)) :: .row g.2.2.1 g.2.2.2 5 1 (bs (rowB ds.v (s.v.first + at_) g.1)) :: drI dp g.2.1)
    (fun g => g.1 ≤ rdn s.v at_ ∧ g.2.1.Ok dp ∧ g.2.1.v = { ds.v with rd := ds.v.rd + g.1 } ∧ 128 * g.1 ≤ g.2.2.2 ∧ (ds.v.down = true → g.1 = 0)) (fun g => rdn s.v at_ - g.1) (0, ds, (none, 0)) (by repeat (first | exact Sub.nil | refine Sub.cons rfl rfl ?_)) (.cons (.there .here) (.cons (.there .here) (.cons .here (.free (Part.refl _))))) ⟨Nat.zero_le _, dok, rfl, Nat.le_refl _, fun _ => rfl⟩ ?_
  rintro ⟨i, d1, r⟩ ⟨hi, d1ok, hd1, hr, hdn⟩
  simp only at hi d1ok hd1 hr hdn ⊢
  have hi2 := hi
  unfold rdn at hi
  (repeat (first | refine WL.step (Yl.move rfl) rfl ?_ | (refine WL.k_load ?_; refine WL.step (Yl.loadBlk (T := 3) Tryz.isAgg3 rfl (by repeat (first | exact .head _ | refine .tail _ ?_)) (by rfl)) rfl ?_) | (refine WL.k_fld ?_; refine WL.step (Yl.fldN0 (i := 2) (o := 2) (by kernel_rfl) rfl) rfl ?_) | refine WL.step (Yl.nilCheck rfl) rfl ?_ | refine WL.step (Yl.min2N rfl rfl) rfl ?_ | refine WL.step (Yl.lss rfl rfl) rfl ?_ | (refine WL.k_bin .add ?_; refine WL.step (Yl.add64C rfl (by omega)) rfl ?_) | refine WC.seq ?_ | refine WC.region ?_ | refine WL.nil ?_ | refine WN.then_normal ?_))
  refine WC.ite rfl (fun h1 => ?_) (fun h1 => ?_)
  · have him : at_ + i < min (at_ + 5) s.v.n := by omega
    have hk : s.v.first + at_ + i < ds.v.d.length := by show _ < ds.d.length; omega
    have hrd2 : (({ ds.v with rd := ds.v.rd + i } : DV)).rd < 4611686018427387904 := by show ds.v.rd + i < _; omega
    (repeat (first | refine WC.seq ?_ | refine WN.then_normal ?_ | refine WC.block ?_ | refine WC.skip ?_))
    refine WC.regionH [.blk p.bj (jO dp.bd p s.v)] (by kernel_rfl) ?_
    (refine WH.order [0, 1, 2, 3, 4, 5, 6, 7, 8, 9] (by repeat (first | exact Part.nil | refine Part.cons (by repeat (first | exact Pick.here | apply Pick.there)) ?_ | refine Part.free ?_)) (by kernel_rfl) ?_; (repeat (first | (refine WT.k_move rfl ?_; refine WT.take rfl rfl (fun _ _ _ h => h) (Yl.move rfl) rfl (by kernel_rfl) (by kernel_rfl) ?_) | (refine WT.k_load rfl ?_; first | refine WT.take rfl rfl (fun _ _ _ h => h) (Yl.loadBlk (T := 26) Tryz.isAgg26 rfl (by repeat (first | exact .head _ | refine .tail _ ?_)) (by rfl)) rfl (by kernel_rfl) (by kernel_rfl) ?_ | refine WT.take rfl rfl (fun _ _ _ h => h) (Yl.loadBlk (T := 3) Tryz.isAgg3 rfl (by repeat (first | exact .head _ | refine .tail _ ?_)) (by rfl)) rfl (by kernel_rfl) (by kernel_rfl) ?_) | (refine WT.k_fld rfl ?_; first | refine WT.take rfl rfl (fun _ _ _ h => h) (Yl.fldN0 (i := 0) (o := 0) (by kernel_rfl) rfl) rfl (by kernel_rfl) (by kernel_rfl) ?_ | refine WT.take rfl rfl (fun _ _ _ h => h) (Yl.fldN0 (i := 1) (o := 1) (by kernel_rfl) rfl) rfl (by kernel_rfl) (by kernel_rfl) ?_) | (refine WT.k_nilc rfl ?_; refine WT.take rfl rfl (fun _ _ _ h => h) (Yl.nilCheck rfl) rfl (by kernel_rfl) (by kernel_rfl) ?_) | (refine WT.k_bin .add rfl ?_; refine WT.take rfl rfl (fun _ _ _ h => h) (Yl.add64N rfl rfl (by omega)) rfl (by kernel_rfl) (by kernel_rfl) ?_))); refine WT.nil ?_)
    refine WH.only (i := 10) (by kernel_rfl) rfl ?_
    rw [show ((s.v.first + (at_ + i) : Nat) : Int) = ((s.v.first + at_ + i : Nat) : Int) by omega]
    refine WL.callS (g := 37) (A0 := drI dp d1) (B := [_, _, _, _]) Tryz.call37 rfl (permJ4 _ _ _ _ _) (fun w0 st2 st1 => dread_v ((s.v.first + at_ + i : Nat) : Int) w0 d1ok hd1 hrd2 st1) rfl fun v C hv => ?_
    obtain ⟨ra, rc, hrc, rfl, d2, d2ok, hd2, rfl⟩ := hv
    refine WL.part (Part.perm (permJ5 _ _ _ _ _ _)) ?_
    refine WL.nil (WN.nextH (.cons .here .nil) ?_)
    (refine WH.order [11, 12, 13, 14, 15] (by repeat (first | exact Part.nil | refine Part.cons (by repeat (first | exact Pick.here | apply Pick.there)) ?_ | refine Part.free ?_)) (by kernel_rfl) ?_; (repeat (first | (refine WT.k_move rfl ?_; refine WT.take rfl rfl (fun _ _ _ h => h) (Yl.move rfl) rfl (by kernel_rfl) (by kernel_rfl) ?_) | (refine WT.k_assign rfl ?_; refine WT.take rfl rfl (fun _ _ _ h => h) (Yl.assign rfl) rfl (by kernel_rfl) (by kernel_rfl) ?_) | (refine WT.k_extract rfl ?_; refine WT.take rfl rfl (fun _ _ _ h => h) (Yl.extract rfl rfl) rfl (by kernel_rfl) (by kernel_rfl) ?_))); refine WT.nil ?_)
    refine WH.done (by kernel_rfl) ?_
    by_cases e : ds.v.down = true
    · have hi0 := hdn e
      subst hi0
      have hv : (({ ds.v with rd := ds.v.rd + 0 } : DV)).read ((s.v.first + at_ + 0 : Nat) : Int) = (ds.v, ([], 11)) := by rw [DV.read, if_pos (by exact e)]; rfl
      rw [hv] at hd2 hrc ⊢
      (repeat (first | refine WL.step (Yl.move rfl) rfl ?_ | refine WL.step (Yl.neq rfl rfl) rfl ?_ | refine WC.seq ?_ | refine WC.region ?_ | refine WL.nil ?_ | refine WN.then_normal ?_))
      refine WC.cond_true rfl rfl ?_
      (repeat (first | refine WL.step (Yl.move rfl) rfl ?_ | refine WL.step (Yl.build (ps := []) (vs := []) rfl buildF0) rfl ?_ | refine WC.seq ?_ | refine WC.region ?_))
      refine WL.storeWhole (T := 121) (k := 6) Tryz.sizeOf121 rfl rfl rfl (.there (.there .here)) rfl rfl ?_
      (repeat (first | refine WL.step (Yl.assign rfl) rfl ?_ | refine WL.nil ?_ | refine WN.then_normal ?_ | refine WC.ret ?_ | refine WN.then_ret ?_ | refine WN.block_ret ?_))
      refine WN.ret3CS rfl Tryz.isAgg121 Tryz.sizeOf121 rfl rfl rfl (by repeat (first | exact .head _ | refine .tail _ ?_)) rfl ⟨[.row none 0 5 1 []], d2, ?_, d2ok, ?_, rfl⟩ ?_
      · rw [jrd, if_pos ⟨e, by unfold rdn; omega⟩]
        exact Decoded.bad 11
      · rw [hd2, jrd, if_pos ⟨e, by unfold rdn; omega⟩]
      · exact .free (.cons (.there .here) (.cons (.there .here) (.more (.more (.more (Part.refl _))))))
    · have e : ds.v.down = false := by simpa using e
      have hv := rd_view ds.v i e hwf hk
      have hrl := (readR_at hwf hk).2.2
      have hro := (readR_at hwf hk).2.1
      rw [hv] at hd2 hrc ⊢
      rw [hro]
      (repeat (first | refine WL.step (Yl.move rfl) rfl ?_ | refine WL.step (Yl.neqF rfl rfl rfl) rfl ?_ | refine WC.seq ?_ | refine WC.region ?_ | refine WL.nil ?_ | refine WN.then_normal ?_))
      refine WC.cond_false rfl rfl ?_
      (repeat (first | refine WL.step (Yl.move rfl) rfl ?_ | refine WC.region ?_ | refine WN.then_normal ?_ | refine WC.skip ?_))
      have hrb := rowB_len hwf (a := s.v.first + at_) (k := i) (by omega)
      refine WL.appendRow (n := 128 * i) (m := 128) (olds := bs (rowB ds.v (s.v.first + at_) i)) (news := bs (readR ds.v.d ds.v.F ((s.v.first + at_ + i : Nat) : Int)).1) Tryz.underlying23 elemU8 rfl (by rw [← hrl]; rfl) (.there (.there (.there .here))) (by rw [bs_length, hrb, Nat.mul_one]) hr (Rd.row (a := ra) (cap := rc) (T := 151) (k := 1) (.tail _ (.tail _ (.tail _ (.tail _ (.head _)))))) (by rw [bs_length, hrl]) (bs_one _) (by omega) (by simp only [maxLen]; omega) rfl fun q hq => ?_
      rw [show bs (rowB ds.v (s.v.first + at_) i) ++ bs (readR ds.v.d ds.v.F ((s.v.first + at_ + i : Nat) : Int)).1 = bs (rowB ds.v (s.v.first + at_) (i + 1)) by rw [rowB_succ, bs_append]]
      rw [show 128 * i + 128 = 128 * (i + 1) by omega] at hq ⊢
      (repeat (first | refine WL.step (Yl.move rfl) rfl ?_ | refine WL.step (Yl.assign rfl) rfl ?_ | (refine WL.k_bin .add ?_; refine WL.step (Yl.add64C rfl (by omega)) rfl ?_) | refine WC.region ?_ | refine WL.nil ?_ | refine WN.then_normal ?_ | refine WN.block_normal ?_))
      refine WN.next (i + 1, d2, q) ⟨by simp only [rdn]; omega, d2ok, hd2, hq, fun h => by rw [e] at h; cases h⟩ (by simp only [rdn]; omega) (by repeat (first | exact Sub.nil | refine Sub.cons rfl rfl ?_)) (.cons (.there .here) (.cons (.there .here) (.cons (.there .here) (.cons .here (.more (Part.refl _))))))
  · have hin : i = rdn s.v at_ := by unfold rdn; omega
    have hrb : (rowB ds.v (s.v.first + at_) i).length = 128 * i := by
      rcases Nat.eq_zero_or_pos i with h | h
      · subst h; rfl
      · exact rowB_len hwf (by show _ ≤ ds.d.length; omega)
    have hjr : jrd ds.v s.v at_ = ({ ds.v with rd := ds.v.rd + i }, Frm.dec (rowB ds.v (s.v.first + at_) i) s.v.ep) := by
      rw [jrd, if_neg (fun ⟨h, h2⟩ => by have := hdn h; omega), ← hin]
    rw [hjr]
    (repeat (first | refine WL.step (Yl.move rfl) rfl ?_ | (refine WL.k_load ?_; refine WL.step (Yl.loadBlk (T := 2) Tryz.isAgg2 rfl (by repeat (first | exact .head _ | refine .tail _ ?_)) (by rfl)) rfl ?_) | (refine WL.k_fld ?_; refine WL.step (Yl.fldN0 (i := 3) (o := 3) (by kernel_rfl) rfl) rfl ?_) | refine WL.step (Yl.nilCheck rfl) rfl ?_ | refine WC.seq ?_ | refine WC.region ?_ | refine WN.then_normal ?_ | refine WC.exit ?_ | refine WN.then_exit ?_ | refine WN.block_here ?_))
    refine WL.call (g := 114) Tryz.call114 rfl (fun w0 st2 => decode_c s.v.ep r.1 (128 * i) r.2 (rowB ds.v (s.v.first + at_) i) w0 (Rd.out hT w0 st2) hrb hr (by omega) (Rd.row (.tail _ (.tail _ (.tail _ (.head _)))) w0 st2)) rfl fun v B hv => ?_
    obtain ⟨q, uu, h1u, h2u, h3u, rfl, rfl⟩ := hv
    rw [List.singleton_append]
    (repeat (first | refine WL.step (Yl.extract rfl rfl) rfl ?_))
    refine WL.storeWhole (T := 121) (k := 6) Tryz.sizeOf121 rfl rfl rfl (.there (.there (.there .here))) rfl rfl ?_
    (repeat (first | refine WL.step (Yl.assign rfl) rfl ?_ | refine WL.nil ?_ | refine WN.then_normal ?_ | refine WC.ret ?_))
    refine WN.ret3CS rfl Tryz.isAgg121 Tryz.sizeOf121 rfl rfl rfl (by repeat (first | exact .head _ | refine .tail _ ?_)) rfl ⟨_, d1, ⟨q, uu, h1u, h2u, h3u, rfl, rfl⟩, d1ok, hd1, rfl⟩ (.cons (.there .here) (.cons (.there .here) (.cons (.there .here) (.more (.more (Part.refl _))))))
end
end Go.Proofs.YtbkdjfgkebkknaaGreatDoor
namespace Go.Proofs.YtbkdjfgkebkknaaGreatDoor
set_option linter.unusedVariables false
set_option linter.unusedSimpArgs false
open Go Go.RowKit
set_option maxRecDepth 100000
set_option maxHeartbeats 8000000
def ovr {β : Type} (F G : Nat → Option β) : Nat → Option β := fun k => match G k with | some v => some v | none => F k
theorem inj_of {α β : Type} {f : α → β} : ∀ {L : List α}, (L.map f).Nodup → ∀ {x y : α}, x ∈ L → y ∈ L → f x = f y → x = y
  | [], _, _, _, h, _, _ => by cases h
  | a :: L, hn, x, y, hx, hy, e => by
    rw [List.map_cons, List.nodup_cons] at hn
    rcases List.mem_cons.1 hx with rfl | hx
    · rcases List.mem_cons.1 hy with rfl | hy
      · rfl
      · exact absurd (List.mem_map.2 ⟨y, hy, e.symm⟩) hn.1
    · rcases List.mem_cons.1 hy with h2 | hy
      · exact absurd (List.mem_map.2 ⟨x, hx, by rw [e, h2]⟩) hn.1
      · exact inj_of hn.2 hx hy e
theorem filter_lt {α : Type} {p q : α → Bool} (hpq : ∀ x, q x = true → p x = true) : ∀ {L : List α} {a : α}, a ∈ L → p a = true → q a = false → (L.filter q).length < (L.filter p).length
  | [], _, h, _, _ => by cases h
  | b :: L, a, h, h1, h2 => by
    have hle : (L.filter q).length ≤ (L.filter p).length := by
      clear h
      induction L with
      | nil => exact Nat.le_refl _
      | cons c L ih =>
        rw [List.filter_cons, List.filter_cons]
        cases hq : q c with
        | true => rw [if_pos rfl, if_pos (hpq c hq)]; simp only [List.length_cons]; omega
        | false =>
          rw [if_neg (by simp)]
          split
          · simp only [List.length_cons]; omega
          · exact ih
    rcases List.mem_cons.1 h with rfl | h
    · rw [List.filter_cons, List.filter_cons, if_neg (by simp [h2]), if_pos h1, List.length_cons]; omega
    · have ih := filter_lt hpq h h1 h2
      rw [List.filter_cons, List.filter_cons]
      cases hq : q b with
      | true => rw [if_pos rfl, if_pos (hpq b hq)]; simp only [List.length_cons]; omega
      | false =>
        rw [if_neg (by simp)]
        split
        · simp only [List.length_cons]; omega
        · exact ih
structure Laid {β : Type} (F : Nat → Option β) (M2 : List (Nat × β × Nat)) (seen : Array Nat) (F' : Nat → Option β) : Prop where
  new : ∀ e ∈ M2, seen.contains e.2.2 = true → F' e.1 = some e.2.1
  old : ∀ k, (∀ e ∈ M2, e.1 = k → seen.contains e.2.2 = false) → F' k = F k
theorem Laid.step {β : Type} {n c : Nat} {F G F' : Nat → Option β} {M2 : List (Nat × β × Nat)} {seen : Array Nat} (hM : MapIs n G M2 c) (h : Laid F M2 seen F') {e : Nat × β × Nat} (he : e ∈ M2) (hs : seen.contains e.2.2 = false) : Laid F M2 (seen.push e.2.2) (setF F' e.1 (some e.2.1)) := by
  refine ⟨fun e2 he2 h2 => ?_, fun k hk => ?_⟩
  · by_cases e3 : e2 = e
    · subst e3; simp [setF]
    · have h4 : e2.1 ≠ e.1 := fun h5 => e3 (inj_of hM.keys he2 he h5)
      have h6 : e2.2.2 ≠ e.2.2 := fun h5 => e3 (inj_of hM.borns he2 he h5)
      rw [setF, if_neg h4]
      refine h.new e2 he2 ?_
      simp only [Array.contains_eq_mem, Array.mem_push, decide_eq_true_eq] at h2 ⊢
      rcases h2 with h2 | h2
      · exact h2
      · exact absurd h2 h6
  · have h4 : k ≠ e.1 := fun h5 => by
      have := hk e he h5.symm
      simp at this
    rw [setF, if_neg h4]
    refine h.old k fun e2 he2 h5 => ?_
    have := hk e2 he2 h5
    simp only [Array.contains_eq_mem, Array.mem_push, decide_eq_false_iff_not, not_or] at this ⊢
    exact this.1
theorem Laid.all {β : Type} {n c : Nat} {F G F' : Nat → Option β} {M2 : List (Nat × β × Nat)} {seen : Array Nat} (hM : MapIs n G M2 c) (h : Laid F M2 seen F') (ha : ∀ e ∈ M2, seen.contains e.2.2 = true) : F' = ovr F G := by
  funext k
  unfold ovr
  cases hg : G k with
  | some v =>
    obtain ⟨b, hb⟩ := (hM.get k v).1 hg
    exact h.new _ hb (ha _ hb)
  | none =>
    refine h.old k fun e he h2 => ?_
    have := (hM.get e.1 e.2.1).2 ⟨e.2.2, he⟩
    rw [h2, hg] at this; cases this
def CopyMV (bm bp : Nat) (F G : Nat → Option Pc) (M2 : List (Nat × Pc × Nat)) (c2 : Nat) : Value → List HA → Prop := fun u B => u = .tuple #[] ∧ ∃ M' c', MapIs 4096 (ovr F G) M' c' ∧ B = [.blk bm (mobj encP M' c'), .blk bp (mobj encP M2 c2)]
def JV.commit (v : JV) (G : Nat → Option Pc) (e : Nat) : JV := { v with F := ovr v.F G, tx := v.tx + 1, used := e }
def CommV (bd : Nat) (p : JP) (bp : Nat) (v : JV) (M2 : List (Nat × Pc × Nat)) (c2 : Nat) : Value → List HA → Prop := fun u B => u = .tuple #[] ∧ ∃ s' : JS, s'.v = v ∧ MapIs 4096 s'.v.F s'.M s'.c ∧ B = jI bd p s' ++ [.blk bp (mobj encP M2 c2)]
attribute [local irreducible] WL WC WN Yl WH WQ WT WE WU WG WV
section
variable {S : List Nat}
theorem mcopy_r (bm bp : Nat) (F G : Nat → Option Pc) (M M2 : List (Nat × Pc × Nat)) (c c2 : Nat) (w : World) (hM : MapIs 4096 F M c) (hM2 : MapIs 4096 G M2 c2) (st : St w S [.blk bm (mobj encP M c), .blk bp (mobj encP M2 c2)] w) :
    Calls Tryz.prog 112 #[.map (some bm), .map (some bp)] w (GivesS S (CopyMV bm bp F G M2 c2) w) := by
  refine enterS (args := [_, _]) Tryz.func112 Tryz.ntmps112 rfl rfl st ?_
  (repeat (first | refine WL.step (Yl.move rfl) rfl ?_ | refine WC.seq ?_ | refine WC.region ?_))
  refine WL.rangeMap (enc := encP) (M := M2) (c := c2) (b := bp) Tryz.underlying77 rfl (Has.mem (.tail _ (.head _))) rfl fun r => ?_
  (repeat (first | refine WL.nil ?_ | refine WN.then_normal ?_ | refine WC.block ?_))
  refine WC.loop (α := Array Nat × List (Nat × Pc × Nat) × Nat × (Nat → Option Pc)) (fun _ => [(0, .map (some bm)), (7, .pointer (some ⟨r, 0, none⟩))]) (fun g => [.blk r (iter bp c2 g.1), .blk bm (mobj encP g.2.1 g.2.2.1), .blk bp (mobj encP M2 c2)])
    (fun g => MapIs 4096 g.2.2.2 g.2.1 g.2.2.1 ∧ Laid F M2 g.1 g.2.2.2) (fun g => (M2.filter fun e => !g.1.contains e.2.2).length) (#[], M, c, F) (by repeat (first | exact Sub.nil | refine Sub.cons rfl rfl ?_)) (Part.refl _) ⟨hM, ⟨fun e _ h => by simp at h, fun _ _ => rfl⟩⟩ ?_
  rintro ⟨seen, M1, c1, F1⟩ ⟨hM1, hL⟩
  simp only at hM1 hL ⊢
  (repeat (first | refine WC.seq ?_ | refine WC.region ?_))
  refine WL.nextMap (M := M2) (c := c2) (b := bp) (seen := seen) rfl hM2 .here (.tail _ (.head _)) rfl (fun h0 => ?_) (fun e he hs => ?_)
  · (repeat (first | refine WL.step (Yl.extract rfl rfl) rfl ?_ | refine WC.seq ?_ | refine WL.nil ?_ | refine WN.then_normal ?_))
    refine WC.cond_false rfl rfl ?_
    (repeat (first | refine WC.exit ?_ | refine WN.then_exit ?_ | refine WN.block_here ?_))
    refine WN.end0S rfl ⟨rfl, M1, c1, ?_, rfl⟩ (.more (Part.refl _))
    rw [← hL.all hM2 h0]; exact hM1
  · (repeat (first | refine WL.step (Yl.extract rfl rfl) rfl ?_ | refine WC.seq ?_ | refine WL.nil ?_ | refine WN.then_normal ?_))
    refine WC.cond_true rfl rfl ?_
    (repeat (first | refine WL.step (Yl.entryMap (M := M2) (c := c2) (b := bp) (seen := seen) (e := e) rfl hM2 he (Has.mem (.head _)) (Has.mem (.tail _ (.tail _ (.head _))))) rfl ?_ | refine WL.step (Yl.extract rfl rfl) rfl ?_ | refine WC.seq ?_ | refine WC.region ?_ | refine WN.then_normal ?_ | refine WC.block ?_ | refine WC.skip ?_))
    refine WL.allocA Tryz.zeroValue123 rfl fun b5 => ?_
    (repeat (first | refine WL.step (Yl.assign rfl) rfl ?_))
    refine WL.storeWhole (T := 123) (k := 3) Tryz.sizeOf123 rfl rfl rfl .here rfl rfl ?_
    (repeat (first | refine WL.step (Yl.move rfl) rfl ?_ | (refine WL.k_load ?_; refine WL.step (Yl.loadAll (T := 123) (T' := 123) Tryz.isAgg123 Tryz.sizeOf123 rfl (by repeat (first | exact .head _ | refine .tail _ ?_)) rfl) rfl ?_) | refine WC.region ?_ | refine WL.nil ?_ | refine WN.then_normal ?_))
    refine WL.mapUpdate (u := e.2.1) (k := e.1) Tryz.underlying77 Tryz.underlying3 rfl rfl rfl hM1 (hM2.low e he) (.there (.there .here)) fun M3 c3 hM3 => ?_
    (repeat (first | refine WL.nil ?_ | refine WN.block_normal ?_))
    refine WN.next (seen.push e.2.2, M3, c3, setF F1 e.1 (some e.2.1)) ⟨hM3, hL.step hM2 he hs⟩ ?_ (by repeat (first | exact Sub.nil | refine Sub.cons rfl rfl ?_)) (.cons (.there (.there .here)) (.cons .here (.more (Part.refl _))))
    simp only
    refine filter_lt (fun x hx => ?_) he (by rw [hs]; rfl) (by simp)
    simp only [Bool.not_eq_true', Array.contains_eq_mem, Array.mem_push, decide_eq_false_iff_not, not_or] at hx ⊢
    exact hx.1
theorem commit_r (bd : Nat) (p : JP) (s : JS) (bp e : Nat) (G : Nat → Option Pc) (M2 : List (Nat × Pc × Nat)) (c2 : Nat) (w : World) (hM : MapIs 4096 s.v.F s.M s.c) (htx : s.v.tx ≤ 100000) (hM2 : MapIs 4096 G M2 c2) (st : St w S (jI bd p s ++ [.blk bp (mobj encP M2 c2)]) w) :
    Calls Tryz.prog 64 #[bptr p.bj, .map (some bp), .int .i64 (e : Int)] w (GivesS S (CommV bd p bp (s.v.commit G e) M2 c2) w) := by
  refine enterS (args := [.pointer (some ⟨p.bj, 0, none⟩), _, _]) Tryz.func64 Tryz.ntmps64 rfl rfl st ?_
  simp only [jI, jO, List.cons_append, List.nil_append]
  (repeat (first | refine WL.step (Yl.move rfl) rfl ?_ | (refine WL.k_load ?_; refine WL.step (Yl.loadBlk (T := 77) Tryz.isAgg77 rfl (by repeat (first | exact .head _ | refine .tail _ ?_)) (by rfl)) rfl ?_) | (refine WL.k_fld ?_; refine WL.step (Yl.fldN0 (i := 6) (o := 6) (by kernel_rfl) rfl) rfl ?_) | refine WL.step (Yl.nilCheck rfl) rfl ?_ | refine WC.seq ?_ | refine WC.region ?_))
  refine WL.callS (g := 112) (A0 := [.blk p.bm (mobj encP s.M s.c), .blk bp (mobj encP M2 c2)]) (B := [_]) Tryz.call112 rfl (List.perm_append_comm (l₁ := [_])) (fun w0 st2 st1 => mcopy_r p.bm bp s.v.F G s.M M2 s.c c2 w0 hM hM2 st1) rfl fun v C hv => ?_
  obtain ⟨rfl, M', c', hM', rfl⟩ := hv
  refine WL.part (Part.perm (List.perm_append_comm (l₂ := [_]))) ?_
  simp only [List.cons_append, List.nil_append]
  (repeat (first | refine WL.step (Yl.move rfl) rfl ?_ | (refine WL.k_load ?_; refine WL.step (Yl.loadBlk (T := 3) Tryz.isAgg3 rfl (by repeat (first | exact .head _ | refine .tail _ ?_)) (by rfl)) rfl ?_) | (refine WL.k_fld ?_; refine WL.step (Yl.fldN0 (i := 5) (o := 5) (by kernel_rfl) rfl) rfl ?_) | refine WL.step (Yl.nilCheck rfl) rfl ?_ | (refine WL.k_bin .add ?_; refine WL.step (Yl.add64C rfl (by omega)) rfl ?_) | refine WC.seq ?_ | refine WC.region ?_ | refine WL.nil ?_ | refine WN.then_normal ?_))
  refine WL.storeAt (T := 3) Tryz.sizeOf3 rfl rfl rfl .here rfl ?_
  (repeat (first | refine WL.step (Yl.move rfl) rfl ?_ | (refine WL.k_fld ?_; refine WL.step (Yl.fldN0 (i := 4) (o := 4) (by kernel_rfl) rfl) rfl ?_) | refine WL.step (Yl.nilCheck rfl) rfl ?_ | refine WC.region ?_ | refine WL.nil ?_ | refine WN.then_normal ?_))
  refine WL.storeAt (T := 3) Tryz.sizeOf3 rfl rfl rfl .here rfl ?_
  (repeat (first | refine WL.nil ?_))
  exact WN.end0S rfl ⟨rfl, ⟨s.v.commit G e, M', c'⟩, rfl, hM', rfl⟩ (Part.refl _)
end
end Go.Proofs.YtbkdjfgkebkknaaGreatDoor
namespace Go.Proofs.YtbkdjfgkebkknaaGreatDoor
set_option linter.unusedVariables false
set_option linter.unusedSimpArgs false
open Go Go.RowKit
set_option maxRecDepth 100000
set_option maxHeartbeats 8000000
def RPostG {α γ : Type} (w : World) (S : List Nat) (H : γ → List α → Prop) (B : γ → List HA) (Hx : γ → Code → List α → Prop) (Bx : γ → List HA) (xs : List α) : Exit → Act → World → Prop
  | .normal, _, W => ∃ g, H g xs ∧ St w S (B g) W
  | .ret, _, W => ∃ g, Hx g .ret xs ∧ St w S (Bx g) W
  | .exit id, _, W => ∃ g, Hx g (.exit id) xs ∧ St w S (Bx g) W
  | _, _, _ => False
section
variable {α γ : Type} {P : Program} {n : Nat} {w : World} {S : List Nat} {ρ : Env} {A : List HA} {ds : List Deferred} {H : γ → List α → Prop} {B : γ → List HA} {Hx : γ → Code → List α → Prop} {Bx : γ → List HA} {xs : List α}
theorem WN.gnext (g : γ) (h : H g xs) (hp : Part A (B g)) : WN ⟨P, n, w, S⟩ (Post ds (RPostG w S H B Hx Bx xs)) .normal ρ A := fun _ _ _ s => ⟨g, h, s.part hp⟩
theorem WN.gret (g : γ) (h : Hx g .ret xs) (hp : Part A (Bx g)) : WN ⟨P, n, w, S⟩ (Post ds (RPostG w S H B Hx Bx xs)) .ret ρ A := fun _ _ _ s => ⟨g, h, s.part hp⟩
end
structure Kq (M : List Nat) (W W' : World) : Prop where
  size : W.heap.size ≤ W'.heap.size
  cells : ∀ k ∈ M, ∀ o, W.heap[k]? = some o → o.isCells = true → W'.heap[k]? = some o
theorem Kq.trans {M : List Nat} {U V W : World} (h : Kq M U V) (k : Kq M V W) : Kq M U W := ⟨Nat.le_trans h.size k.size, fun i hi o h1 ho => k.cells i hi o (h.cells i hi o h1 ho) ho⟩
theorem Kq.put {M : List Nat} (W : World) (l : Nat) (o o' : Obj) (hl : W.heap[l]? = some o) (ho : o.isCells = false) : Kq M W (W.putObj l o') :=
  ⟨by simp [World.putObj], fun k _ x hk hx => by
    have hne : k ≠ l := fun e => by subst e; rw [hl] at hk; cases hk; rw [ho] at hx; cases hx
    rw [World.putObj_heap_other hne]; exact hk⟩
theorem Kept.kq {w w' : World} (k : Kept w [] w') (M : List Nat) : Kq M w w' := ⟨k.size, fun b _ o hb _ => (k.block b (lt_of_heap hb) (by simp)).trans hb⟩
theorem Part.behind : ∀ (Y : List HA) {A : List HA}, Part (Y ++ A) A
  | Y, A => by
    have h : ∀ A : List HA, Part A A := fun A => by induction A with | nil => exact .nil | cons x A ih => exact .cons .here ih
    induction Y with
    | nil => exact h A
    | cons y Y ih =>
      have m : ∀ {A B : List HA}, Part A B → Part (y :: A) B := fun h => by
        induction h with
        | nil => exact .nil
        | cons p _ ih => exact .cons (.there p) ih
        | free _ ih => exact .free ih
      exact m ih
section
variable {X : Cx} {Q : Exit → Act → World → Prop} {ρ : Env} {A : List HA}
theorem WG.rangeG {α γ : Type} {g : Operand} {p t : Tmp} {id : Nat} {ty : TypeId} {ps : String} {af : Array Edge} {body : Code} {gf : Nat} {lb : List Value} {enc : α → Value} {S Sp : List α → Prop} {N : Nat}
    (hg : ev ρ g = some (.func (.func gf) #[] lb.toArray)) (eg : ∀ args w, (callFunc gf args).run X.P w = .ok (.enter gf args) w)
    (hpn : Nat.blt p X.n = true) (htn : Nat.blt t X.n = true)
    (B : γ → List HA) (Bx : γ → List HA) (H : γ → List α → Prop) (Hx : γ → Code → List α → Prop) (g0 : γ) (Mi : List HA) (hB0 : Part A (Mi ++ B g0)) (hH0 : H g0 [])
    (hseq : ∀ w, St X.w0 X.S (Mi ++ B g0) w → SeqStopsK (fence none) 1 X.P gf lb.toArray (fun x => #[enc x]) (Kq (Mi.filterMap HA.foot)) S Sp N w)
    (hft : ∀ g pre, H g pre → ∀ b ∈ (B g).filterMap HA.foot, b ∈ (B g0).filterMap HA.foot) (hfx : ∀ g c pre, Hx g c pre → ∀ b ∈ (Bx g).filterMap HA.foot, b ∈ (B g0).filterMap HA.foot)
    (hbody : ∀ (l : Nat) (pre : List α) (x : α) (w : World) (g : γ), H g pre → pre.length < N → St X.w0 X.S (B g) w →
      WG ⟨X.P, X.n, w, (B g0).filterMap HA.foot⟩ (some l) [] body (RPostG w ((B g0).filterMap HA.foot) H B Hx Bx (pre ++ [x])) ((t, enc x) :: (p, enc x) :: ρ) (B g))
    (hdone : ∀ D xs g, S xs → H g xs → WN X (Post [mark D] Q) .normal ρ (.blk D (.deferred (some [])) :: B g))
    (hstop : ∀ D c pre g, Sp pre → Hx g c pre → WG X none [mark D] c Q ρ (.blk D (.deferred (some [])) :: Bx g)) :
    WG X none [] (.rangeFunc g #[p] (.region id [⟨some t, .assign (.tmp p), ty, ps, af, none⟩].toArray false) body) Q ρ A := fun a w f s => by
  have ea : sd [] a = a := sd_nil f.defers
  rw [ea]
  have hfd := f.defers
  have s0m := s.part hB0
  have hdis : ∀ k ∈ Mi.filterMap HA.foot, k ∉ (B g0).filterMap HA.foot := fun k hk hm => by
    have := s0m.apart
    rw [List.filterMap_append, List.nodup_append] at this
    exact this.2.2 k hk k hm rfl
  have s0 := s0m.part (Part.behind Mi)
  have hlow : ∀ b ∈ (B g0).filterMap HA.foot, b < w.heap.size := fun b hb => by
    obtain ⟨x, hx, hf⟩ := feet_mem.1 hb
    exact HA.lt (s0.holds x hx) hf
  have hmine : ∀ b ∈ (B g0).filterMap HA.foot, b ∈ X.S ∨ X.w0.heap.size ≤ b := fun b hb => by
    obtain ⟨x, hx, hf⟩ := feet_mem.1 hb
    exact s0.mine x hx b hf
  have hw0 := s.kept.size
  have hown : ∀ {C : List HA}, (∀ b ∈ C.filterMap HA.foot, b ∈ (B g0).filterMap HA.foot) → ∀ x ∈ C, ∀ b, x.foot = some b → b < w.heap.size := fun hC x hx b hb => hlow b (hC b (feet_mem.2 ⟨x, hx, hb⟩))
  have f1 : ∀ x, Fr X.n ((t, enc x) :: (p, enc x) :: ρ) ((a.put (some p) (enc x)).put (some t) (enc x)) := fun x => (f.put (blt_lt hpn) (enc x)).put (blt_lt htn) (enc x)
  refine wpIn_any (n := 2) (wpIn_rangeFunc_ownG (F := fence none) (n := 2) rfl (by omega) (gf := gf) (lb := lb.toArray) (f.ev hg) trivial eg (hseq w s0m) (fun h k => h.trans k) (fun W l o o' _ hl ho _ => Kq.put W l o o' hl ho) (Below.refl _ _) (fun _ => rfl)
    (fun pre W => ∃ g, H g pre ∧ St X.w0 X.S (B g) W) (fun c pre W => ∃ g, Hx g c pre ∧ St X.w0 X.S (Bx g) W)
    (fun pre W W' row hs hg hr => by obtain ⟨g, h1, h2⟩ := hs; exact ⟨g, h1, h2.grownBy hg (fun r e => (hr r e).1) hw0 (hown (hft g pre h1))⟩) (fun c pre W W' row hs hg hr => by obtain ⟨g, h1, h2⟩ := hs; exact ⟨g, h1, h2.grownBy hg (fun r e => (hr r e).1) hw0 (hown (hfx g c pre h1))⟩)
    ⟨g0, hH0, s0⟩ (fun x => (a.put (some p) (enc x)).put (some t) (enc x)) ?_ ?_ ?_ ?_)
  · intro l x W K hK
    refine wpIn_region_lit ?_
    have fp : Fr X.n ((p, enc x) :: ρ) (a.put (some p) (enc x)) := f.put (blt_lt hpn) (enc x)
    have e1 : ({ tmps := (#[p].zip #[enc x]).foldl (fun t (p, v) => t.setIfInBounds p v) a.tmps, defers := [] } : Act) = a.put (some p) (enc x) := by
      obtain ⟨tm, df⟩ := a
      simp only at hfd
      subst hfd
      simp [Act.put]
    rw [e1]
    have hv := fp.get p (enc x) (by simp [lk, Nat.beq_refl])
    refine wpListIn_plain rfl fun K' hK' => ⟨fun _ _ => trivial, ?_⟩
    rw [Oper.semAt_eq _ _ _ (fun c e => by cases e)]
    have hx : (a.put (some p) (enc x)).eval (.tmp p) = enc x := hv
    simp only [execOp, hx, Sem.run_pure]
    rw [Oper.uponIn_value]
    exact hK' _ _ hK
  · intro l pre x W ⟨g, hi, hs⟩ hlen
    have sW : St W ((B g0).filterMap HA.foot) (B g) W := ⟨⟨rfl, rfl, rfl, Nat.le_refl _, fun _ _ _ => rfl⟩, hs.holds, hs.apart, fun x hx b hb => .inl (hft g pre hi b (feet_mem.2 ⟨x, hx, hb⟩))⟩
    have hb := hbody l pre x W g hi hlen hs _ W (f1 x) sW
    have e2 : sd [] ((a.put (some p) (enc x)).put (some t) (enc x)) = (a.put (some p) (enc x)).put (some t) (enc x) := sd_nil (f1 x).defers
    rw [e2] at hb
    have kf : ∀ {C : List HA} {W' : World}, St W ((B g0).filterMap HA.foot) C W' → KeepsFrom w.heap.size W W' ∧ Kq (Mi.filterMap HA.foot) W W' := fun s' =>
      have hk : ∀ k o, w.heap.size ≤ k → W.heap[k]? = some o → _ := fun k o hB hk => (s'.kept.block k (lt_of_heap hk) (fun hm => by have := hlow k hm; omega)).trans hk
      ⟨⟨s'.kept.size, fun k o hB h _ => hk k o hB h⟩, ⟨s'.kept.size, fun k hm o h _ => (s'.kept.block k (lt_of_heap h) (hdis k hm)).trans h⟩⟩
    have bk : ∀ {C : List HA} {W' : World}, St W ((B g0).filterMap HA.foot) C W' → (∀ b ∈ C.filterMap HA.foot, b ∈ (B g0).filterMap HA.foot) → St X.w0 X.S C W' := fun s' hC =>
      ⟨hs.kept.trans s'.kept hmine, s'.holds, s'.apart, fun x hx b hb => hmine b (hC b (feet_mem.2 ⟨x, hx, hb⟩))⟩
    refine wpIn_mono (wpIn_any hb) fun e a' W' hq => ?_
    cases e with
    | normal => obtain ⟨g', h1, h2⟩ := hq; exact ⟨(kf h2).1, (kf h2).2, g', h1, bk h2 (hft g' _ h1)⟩
    | ret => obtain ⟨g', h1, h2⟩ := hq; exact ⟨(kf h2).1, g', h1, bk h2 (hfx g' _ _ h1)⟩
    | exit id => obtain ⟨g', h1, h2⟩ := hq; exact ⟨(kf h2).1, g', h1, bk h2 (hfx g' _ _ h1)⟩
    | goto l => exact hq.elim
    | panic ch => exact hq.elim
    | outgrown => exact hq.elim
  all_goals
    have mk : ∀ {C : List HA} {W : World} {D : Nat}, (∀ b ∈ C.filterMap HA.foot, b ∈ (B g0).filterMap HA.foot) → w.heap.size ≤ D → W.heap[D]? = some (.deferred (some [])) → St X.w0 X.S C W → St X.w0 X.S (.blk D (.deferred (some [])) :: C) W := fun hC hD hK sC =>
      ⟨sC.kept, fun x hx => by rcases List.mem_cons.1 hx with rfl | hx; exact hK; exact sC.holds x hx, by
        simp only [List.filterMap_cons, HA.foot]
        exact List.nodup_cons.2 ⟨fun hm => by have := hlow _ (hC _ hm); omega, sC.apart⟩, fun x hx b hb => by
        rcases List.mem_cons.1 hx with rfl | hx
        · simp only [HA.foot, Option.some.injEq] at hb; subst hb; exact .inr (by omega)
        · exact sC.mine x hx b hb⟩
    have e3 : ∀ D, ({ a with defers := { target := .collected D, args := #[] } :: a.defers } : Act) = sd [mark D] a := fun D => by simp [sd, hfd, mark]
  · intro D xs W hD hS ⟨g, hi, hs⟩ hK
    rw [e3]
    exact hdone D xs g hS hi a W f (mk (hft g xs hi) hD hK hs)
  · intro D c pre W hD hS ⟨g, hi, hs⟩ hK
    rw [e3]
    exact wpIn_any (hstop D c pre g hS hi a W f (mk (hfx g c pre hi) hD hK hs))
end
end Go.Proofs.YtbkdjfgkebkknaaGreatDoor
