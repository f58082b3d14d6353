import Derived.Test.YtmmpngigaodcgaaGreatRowDrivePlaysMg19
/- The document's drive: written and synced. -/
namespace Go.Proofs.YtmmpngigaodcgaaGreat
set_option linter.unusedVariables false
set_option linter.unusedSimpArgs false
open Go Go.RowKit
set_option maxRecDepth 100000
set_option maxHeartbeats 8000000
theorem permR (x r : HA) (L : List HA) : (x :: (L ++ [r])).Perm (L ++ [x, r]) := by
  classical
  rw [List.perm_iff_count]; intro u; simp only [List.count_append, List.count_cons, List.count_nil]; omega
theorem permR2 (x r : HA) (L Z : List HA) : ((L ++ Z) ++ [x, r]).Perm ((x :: (L ++ [r])) ++ Z) := by
  classical
  rw [List.perm_iff_count]; intro u; simp only [List.count_append, List.count_cons, List.count_nil]; omega
theorem permR3 (x r : HA) (L Z : List HA) : ((L ++ Z) ++ [x, r]).Perm (x :: (L ++ (r :: Z))) := by
  classical
  rw [List.perm_iff_count]; intro u; simp only [List.count_append, List.count_cons, List.count_nil]; omega
theorem permR4 (f x r : HA) (L Z2 : List HA) {Z : List HA} : (f :: ((x :: (L ++ Z2)) ++ (r :: Z))).Perm ((x :: (L ++ [f])) ++ (Z2 ++ (r :: Z))) := by
  classical
  rw [List.perm_iff_count]; intro u; simp only [List.count_append, List.count_cons, List.count_nil]; omega
theorem permR5 (x r : HA) (L Z : List HA) : (x :: (L ++ (r :: Z))).Perm ((x :: (L ++ [r])) ++ Z) := by
  classical
  rw [List.perm_iff_count]; intro u; simp only [List.count_append, List.count_cons, List.count_nil]; omega
theorem permR6 (x : HA) (L R : List HA) : (x :: (L ++ R)).Perm (L ++ (x :: R)) := by
  classical
  rw [List.perm_iff_count]; intro u; simp only [List.count_append, List.count_cons, List.count_nil]; omega
theorem permR7 (x r : HA) (L Z2 Z : List HA) : ((L ++ Z2) ++ (x :: (r :: Z))).Perm ((x :: (L ++ [r])) ++ (Z2 ++ Z)) := by
  classical
  rw [List.perm_iff_count]; intro u; simp only [List.count_append, List.count_cons, List.count_nil]; omega
attribute [local irreducible] WL WC WN Yl WH WQ WT WE WU WG WV
section
variable {p : RDP} {S : List Nat}
theorem ewrite_r (sec : Int) (a : Option Addr) (n c2 : Nat) (x : List UInt8) (s : RDS) (w : World) (ok : s.Ok) (hO : ∀ y ∈ s.os ++ s.fs, OutF w S y) (hops : s.ops < 4611686018427387904) (hl : x.length = n) (hr : CellsOut w S a (bs x)) (st : St w S (rdI p s) w) :
    Calls Tryz.prog 10 #[bptr p.bd, .int .i64 sec, .slice a n c2] w (GivesS S (EdV p s (s.v.write sec x).1 (s.v.write sec x).2) w) := by
  refine enterS (args := [.pointer (some ⟨p.bd, 0, none⟩), _, _]) Tryz.func10 Tryz.ntmps10 rfl rfl st ?_
  (repeat (first | (refine WL.k_move ?_; first | refine WL.step (Yl.move rfl) rfl ?_) | (refine WL.k_assign ?_; first | refine WL.step (Yl.assign rfl) rfl ?_) | (refine WL.k_call 35 ?_; first | refine WL.callV (g := 35) (v := .bool true) Tryz.call35 rfl (fun w0 st2 => evalid_c w0 (ok.out st2 (fun x hx => hx) hO)) rfl ?_) | (refine WL.k_bin .neq ?_; first | refine WL.step (Yl.strNeq rfl rfl) rfl ?_ | refine WL.step (Yl.neq rfl rfl) rfl ?_) | (refine WL.k_unop ?_; first | refine WL.step (Yl.not rfl) rfl ?_) | refine WC.seq ?_ | refine WC.region ?_ | refine WL.nil ?_ | refine WN.then_normal ?_ | refine WC.skip ?_ | refine WC.ret ?_ | refine WN.then_ret ?_))
  refine WC.cond_false rfl rfl ?_
  have hbk : HA.blk p.bd (rdO p s) ∈ rdI p s := .head _
  (repeat (first | (refine WL.k_move ?_; first | refine WL.step (Yl.move rfl) rfl ?_) | (refine WL.k_assign ?_; first | refine WL.step (Yl.assign rfl) rfl ?_) | (refine WL.k_load ?_; first | refine WL.step (Yl.loadBlk (T := 4) Tryz.isAgg4 rfl hbk (by rfl)) rfl ?_ | refine WL.step (Yl.loadBlk (T := 60) Tryz.isAgg60 rfl hbk (by rfl)) rfl ?_ | refine WL.step (Yl.loadBlk (T := 31) Tryz.isAgg31 rfl hbk (by rfl)) rfl ?_) | (refine WL.k_fld ?_; first | refine WL.step (Yl.fldN0 (i := 0) (o := 0) (by kernel_rfl) rfl) rfl ?_ | refine WL.step (Yl.fldN0 (i := 1) (o := 1) (by kernel_rfl) rfl) rfl ?_ | refine WL.step (Yl.fldN0 (i := 2) (o := 2) (by kernel_rfl) rfl) rfl ?_ | refine WL.step (Yl.fldN0 (i := 3) (o := 4) (by kernel_rfl) rfl) rfl ?_ | refine WL.step (Yl.fldN0 (i := 4) (o := 5) (by kernel_rfl) rfl) rfl ?_ | refine WL.step (Yl.fldN (i := 0) (o := 0) (off := 2) (by kernel_rfl) rfl) rfl ?_ | refine WL.step (Yl.fldN (i := 1) (o := 1) (off := 2) (by kernel_rfl) rfl) rfl ?_) | (refine WL.k_nilc ?_; first | refine WL.step (Yl.nilCheck rfl) rfl ?_) | (refine WL.k_bin .neq ?_; first | refine WL.step (Yl.strNeq rfl rfl) rfl ?_ | refine WL.step (Yl.neq rfl rfl) rfl ?_) | (refine WL.k_unop ?_; first | refine WL.step (Yl.not rfl) rfl ?_) | refine WC.seq ?_ | refine WC.region ?_ | refine WL.nil ?_ | refine WN.then_normal ?_ | refine WC.skip ?_ | refine WC.ret ?_ | refine WN.then_ret ?_))
  cases e : s.down with
  | true =>
    refine WC.cond_true rfl rfl ?_
    (repeat (first | (refine WL.k_move ?_; first | refine WL.step (Yl.move rfl) rfl ?_) | (refine WL.k_assign ?_; first | refine WL.step (Yl.assign rfl) rfl ?_) | (refine WL.k_bin .neq ?_; first | refine WL.step (Yl.strNeq rfl rfl) rfl ?_ | refine WL.step (Yl.neq rfl rfl) rfl ?_) | (refine WL.k_unop ?_; first | refine WL.step (Yl.not rfl) rfl ?_) | refine WC.seq ?_ | refine WC.region ?_ | refine WL.nil ?_ | refine WN.then_normal ?_ | refine WC.skip ?_ | refine WC.ret ?_ | refine WN.then_ret ?_))
    have hv : (s.v.write sec x) = (s.v, 11) := by rw [DV.write, if_pos (show s.v.down = true from e)]
    rw [hv]
    exact WN.ret1S rfl rfl ⟨rfl, s, [], ok, rfl, (List.append_nil _).symm, fun y hy => .inl hy⟩ (Part.refl _)
  | false =>
    refine WC.cond_false rfl rfl ?_
    have hn6 : s.n ≤ 1000000 := (Nat.eq_zero_or_pos s.n).elim (fun h => by omega) (fun h => by have := (ok.pl (by omega)).2.1; omega)
    (repeat (first | (refine WL.k_move ?_; first | refine WL.step (Yl.move rfl) rfl ?_) | (refine WL.k_assign ?_; first | refine WL.step (Yl.assign rfl) rfl ?_) | (refine WL.k_load ?_; first | refine WL.step (Yl.loadBlk (T := 4) Tryz.isAgg4 rfl hbk (by rfl)) rfl ?_ | refine WL.step (Yl.loadBlk (T := 60) Tryz.isAgg60 rfl hbk (by rfl)) rfl ?_ | refine WL.step (Yl.loadBlk (T := 31) Tryz.isAgg31 rfl hbk (by rfl)) rfl ?_) | (refine WL.k_fld ?_; first | refine WL.step (Yl.fldN0 (i := 0) (o := 0) (by kernel_rfl) rfl) rfl ?_ | refine WL.step (Yl.fldN0 (i := 1) (o := 1) (by kernel_rfl) rfl) rfl ?_ | refine WL.step (Yl.fldN0 (i := 2) (o := 2) (by kernel_rfl) rfl) rfl ?_ | refine WL.step (Yl.fldN0 (i := 3) (o := 4) (by kernel_rfl) rfl) rfl ?_ | refine WL.step (Yl.fldN0 (i := 4) (o := 5) (by kernel_rfl) rfl) rfl ?_ | refine WL.step (Yl.fldN (i := 0) (o := 0) (off := 2) (by kernel_rfl) rfl) rfl ?_ | refine WL.step (Yl.fldN (i := 1) (o := 1) (off := 2) (by kernel_rfl) rfl) rfl ?_) | (refine WL.k_nilc ?_; first | refine WL.step (Yl.nilCheck rfl) rfl ?_) | (refine WL.k_bin .neq ?_; first | refine WL.step (Yl.strNeq rfl rfl) rfl ?_ | refine WL.step (Yl.neq rfl rfl) rfl ?_) | (refine WL.k_unop ?_; first | refine WL.step (Yl.not rfl) rfl ?_) | refine WC.seq ?_ | refine WC.region ?_ | refine WL.nil ?_ | refine WN.then_normal ?_ | refine WC.skip ?_ | refine WC.ret ?_ | refine WN.then_ret ?_))
    refine WL.callS (g := 36) (A0 := rbI p.r s.os s.fs s.Is) (B := [.blk p.bd (rdO p s), kRow s]) Tryz.call36 rfl (permR _ _ _) (fun w0 st2 st1 => rwrite_r a n c2 x sec w0 ok.wf ok.ok (fun y hy => ⟨(hO y hy).1, old_out st2 (permR _ _ _) (hO y hy).2⟩) hl (old_out st2 (permR _ _ _) hr) st1) rfl fun v C hv => ?_
    obtain ⟨rfl, os', fs', Is', Z, rfl, hok, hin⟩ := hv
    by_cases he : writeE s.d.length sec x ≠ 0
    · (repeat (first | (refine WL.k_move ?_; first | refine WL.step (Yl.move rfl) rfl ?_) | (refine WL.k_assign ?_; first | refine WL.step (Yl.assign rfl) rfl ?_) | (refine WL.k_bin .neq ?_; first | refine WL.step (Yl.neqT rfl rfl (by omega)) rfl ?_ | refine WL.step (Yl.strNeq rfl rfl) rfl ?_ | refine WL.step (Yl.neq rfl rfl) rfl ?_) | (refine WL.k_unop ?_; first | refine WL.step (Yl.not rfl) rfl ?_) | refine WC.seq ?_ | refine WC.region ?_ | refine WL.nil ?_ | refine WN.then_normal ?_ | refine WC.skip ?_ | refine WC.ret ?_ | refine WN.then_ret ?_))
      refine WC.cond_true rfl rfl ?_
      (repeat (first | (refine WL.k_move ?_; first | refine WL.step (Yl.move rfl) rfl ?_) | (refine WL.k_assign ?_; first | refine WL.step (Yl.assign rfl) rfl ?_) | (refine WL.k_bin .neq ?_; first | refine WL.step (Yl.strNeq rfl rfl) rfl ?_ | refine WL.step (Yl.neq rfl rfl) rfl ?_) | (refine WL.k_unop ?_; first | refine WL.step (Yl.not rfl) rfl ?_) | refine WC.seq ?_ | refine WC.region ?_ | refine WL.nil ?_ | refine WN.then_normal ?_ | refine WC.skip ?_ | refine WC.ret ?_ | refine WN.then_ret ?_))
      rw [write_same he] at hok
      have hv : s.v.write sec x = (s.v, writeE s.d.length sec x) := by rw [DV.write, if_neg (by rw [show s.v.down = false from e]; decide), if_pos (show writeE s.v.d.length sec x ≠ 0 from he)]; rfl
      rw [hv]
      exact WN.ret1S rfl rfl ⟨rfl, ⟨os', fs', Is', s.d, s.F, s.down, s.n, s.qa, s.qc, s.K, s.ops, s.rd⟩, Z, ⟨ok.wf, hok, ok.kc, ok.k64, ok.pl⟩, rfl, rfl, hin⟩ (Part.perm (permR2 _ _ _ _))
    have he0 : writeE s.d.length sec x = 0 := by omega
    rw [he0]
    have hwv : s.v.write sec x = ({ s.v with F := writeF s.d.length s.F sec x } : DV).op id := by rw [DV.write, if_neg (by rw [show s.v.down = false from e]; decide), if_neg (show ¬ writeE s.v.d.length sec x ≠ 0 from he)]; rfl
    rw [hwv]
    obtain ⟨t, ht⟩ : ∃ t : RDS, t = ⟨os', fs', Is', s.d, writeF s.d.length s.F sec x, false, s.n, s.qa, s.qc, s.K, s.ops, s.rd⟩ := ⟨_, rfl⟩
    have htv : ({ s.v with F := writeF s.d.length s.F sec x } : DV) = t.v := by rw [ht]; simp only [RDS.v, e]
    rw [htv]
    have htok : t.Ok := by rw [ht]; exact ⟨write_wf ok.wf sec x, hok, ok.kc, ok.k64, ok.pl⟩
    have htin : ∀ y ∈ t.os ++ t.fs, y ∈ s.os ++ s.fs ∨ InF Z y := by rw [ht]; exact hin
    refine WL.part (B := .blk p.bd (rdO p t) :: (rbI p.r t.os t.fs t.Is ++ (kRow t :: Z))) (by rw [ht]; simp only [rdO, kRow, e]; exact Part.perm (permR3 _ _ _ _)) ?_
    have hops2 : t.ops < 4611686018427387904 := by rw [ht]; exact hops
    have hn2 : t.n ≤ 1000000 := by rw [ht]; exact hn6
    clear ht htv hok hin hwv he he0
    (repeat (first | (refine WL.k_move ?_; first | refine WL.step (Yl.move rfl) rfl ?_) | (refine WL.k_assign ?_; first | refine WL.step (Yl.assign rfl) rfl ?_) | (refine WL.k_bin .neq ?_; first | refine WL.step (Yl.neqF rfl rfl rfl) rfl ?_ | refine WL.step (Yl.strNeq rfl rfl) rfl ?_ | refine WL.step (Yl.neq rfl rfl) rfl ?_) | (refine WL.k_unop ?_; first | refine WL.step (Yl.not rfl) rfl ?_) | refine WC.seq ?_ | refine WC.region ?_ | refine WL.nil ?_ | refine WN.then_normal ?_ | refine WC.skip ?_ | refine WC.ret ?_ | refine WN.then_ret ?_))
    refine WC.cond_false rfl rfl ?_
    have hbt : HA.blk p.bd (rdO p t) ∈ HA.blk p.bd (rdO p t) :: (rbI p.r t.os t.fs t.Is ++ (kRow t :: Z)) := .head _
    (repeat (first | (refine WL.k_move ?_; first | refine WL.step (Yl.move rfl) rfl ?_) | (refine WL.k_assign ?_; first | refine WL.step (Yl.assign rfl) rfl ?_) | (refine WL.k_load ?_; first | refine WL.step (Yl.loadBlk (T := 31) Tryz.isAgg31 rfl hbt (by rfl)) rfl ?_) | (refine WL.k_fld ?_; first | refine WL.step (Yl.fldN0 (i := 0) (o := 0) (by kernel_rfl) rfl) rfl ?_ | refine WL.step (Yl.fldN0 (i := 1) (o := 1) (by kernel_rfl) rfl) rfl ?_ | refine WL.step (Yl.fldN0 (i := 2) (o := 2) (by kernel_rfl) rfl) rfl ?_ | refine WL.step (Yl.fldN0 (i := 3) (o := 4) (by kernel_rfl) rfl) rfl ?_ | refine WL.step (Yl.fldN0 (i := 4) (o := 5) (by kernel_rfl) rfl) rfl ?_ | refine WL.step (Yl.fldN (i := 0) (o := 0) (off := 2) (by kernel_rfl) rfl) rfl ?_ | refine WL.step (Yl.fldN (i := 1) (o := 1) (off := 2) (by kernel_rfl) rfl) rfl ?_) | (refine WL.k_nilc ?_; first | refine WL.step (Yl.nilCheck rfl) rfl ?_) | (refine WL.k_bin .neq ?_; first | refine WL.step (Yl.strNeq rfl rfl) rfl ?_ | refine WL.step (Yl.neq rfl rfl) rfl ?_) | (refine WL.k_unop ?_; first | refine WL.step (Yl.not rfl) rfl ?_) | refine WC.seq ?_ | refine WC.region ?_ | refine WL.nil ?_ | refine WN.then_normal ?_ | refine WC.skip ?_ | refine WC.ret ?_ | refine WN.then_ret ?_))
    refine WL.callS (g := 37) (A0 := [.blk p.bd (rdO p t)]) (B := rbI p.r t.os t.fs t.Is ++ (kRow t :: Z)) Tryz.call37 rfl (List.Perm.refl _) (fun w0 st2 st1 => ecounted_r t w0 hops2 hn2 st1) rfl fun v C hv => ?_
    obtain ⟨rfl, rfl⟩ := hv
    rw [List.singleton_append]
    have hO2 : ∀ y ∈ t.os ++ t.fs, ∀ {w2 : World} {A A0 B : List HA}, St w S A w2 → A.Perm (A0 ++ B) → (∀ z ∈ Z, z ∈ B) → OutF w2 (A0.filterMap HA.foot) y := by
      intro y hy w2 A A0 B st2 hp hz
      rcases htin y hy with h | h
      · exact ⟨(hO y h).1, old_out st2 hp (hO y h).2⟩
      · exact ⟨h.le, (h.mono hz).out st2 hp⟩
    by_cases h1 : t.n = 1
    · rw [show decide (t.n = 1) = true from decide_eq_true h1]
      have hpl := htok.pl (by omega)
      (repeat (first | (refine WL.k_move ?_; first | refine WL.step (Yl.move rfl) rfl ?_) | (refine WL.k_assign ?_; first | refine WL.step (Yl.assign rfl) rfl ?_) | (refine WL.k_bin .neq ?_; first | refine WL.step (Yl.strNeq rfl rfl) rfl ?_ | refine WL.step (Yl.neq rfl rfl) rfl ?_) | (refine WL.k_unop ?_; first | refine WL.step (Yl.not rfl) rfl ?_) | refine WC.seq ?_ | refine WC.region ?_ | refine WL.nil ?_ | refine WN.then_normal ?_ | refine WC.skip ?_ | refine WC.ret ?_ | refine WN.then_ret ?_))
      refine WC.cond_true rfl rfl ?_
      obtain ⟨t2, ht2⟩ : ∃ t2 : RDS, t2 = { t with ops := t.ops + 1, n := t.n - 1 } := ⟨_, rfl⟩
      rw [← ht2]
      (repeat (first | (refine WL.k_move ?_; first | refine WL.step (Yl.move rfl) rfl ?_) | (refine WL.k_assign ?_; first | refine WL.step (Yl.assign rfl) rfl ?_) | (refine WL.k_bin .neq ?_; first | refine WL.step (Yl.strNeq rfl rfl) rfl ?_ | refine WL.step (Yl.neq rfl rfl) rfl ?_) | (refine WL.k_unop ?_; first | refine WL.step (Yl.not rfl) rfl ?_) | refine WC.seq ?_ | refine WC.region ?_ | refine WL.nil ?_ | refine WN.then_normal ?_ | refine WC.skip ?_ | refine WC.ret ?_ | refine WN.then_ret ?_))
      have hmem : rbI p.r t.os t.fs t.Is = rbI p.r t2.os t2.fs t2.Is := by rw [ht2]
      have hwf2 : BkWf t2.d t2.F := by rw [ht2]; exact htok.wf
      have hok3 : RbOk t2.os t2.fs t2.Is t2.d t2.F := by rw [ht2]; exact htok.ok
      have hoo : t2.os ++ t2.fs = t.os ++ t.fs := by rw [ht2]
      rw [hmem]
      refine WL.callS (g := 38) (A0 := .blk p.bd (rdO p t2) :: rbI p.r t2.os t2.fs t2.Is) (B := kRow t :: Z) Tryz.call38 rfl (List.Perm.refl _) (fun w0 st2 st1 => ecrash_r t2 t.qa t.K.length t.qc t.K w0 hwf2 hok3 (fun y hy => hO2 y (by rw [← hoo]; exact hy) st2 (List.Perm.refl _) (fun z hz => .tail _ hz)) rfl (by have := htok.k64; omega) (row_out st2 (List.Perm.refl _) (.head _)) st1) rfl fun v C hv => ?_
      obtain ⟨rfl, os2, fs2, Is2, Z2, rfl, hok2, hin2⟩ := hv
      refine WL.free ?_
      (repeat (first | (refine WL.k_move ?_; first | refine WL.step (Yl.move rfl) rfl ?_) | (refine WL.k_assign ?_; first | refine WL.step (Yl.assign rfl) rfl ?_) | (refine WL.k_bin .neq ?_; first | refine WL.step (Yl.strNeq rfl rfl) rfl ?_ | refine WL.step (Yl.neq rfl rfl) rfl ?_) | (refine WL.k_unop ?_; first | refine WL.step (Yl.not rfl) rfl ?_) | refine WC.seq ?_ | refine WC.region ?_ | refine WL.nil ?_ | refine WN.then_normal ?_ | refine WC.skip ?_ | refine WC.ret ?_ | refine WN.then_ret ?_))
      have hcw := crash_wf t.K htok.wf
      have hto : t.v.op id = (({ t.v with ops := t.v.ops + 1 } : DV).crash t.K, 11) := by rw [DV.op, show t.v.pl = some (1, t.K) by show (if t.n = 0 then none else some (t.n, t.K)) = _; rw [if_neg (by omega), h1]]; simp; rfl
      rw [hto]
      have e9 : t2.d = t.d ∧ t2.F = t.F ∧ t2.ops = t.ops + 1 ∧ t2.rd = t.rd ∧ t2.os = t.os ∧ t2.fs = t.fs := by rw [ht2]; exact ⟨rfl, rfl, rfl, rfl, rfl, rfl⟩
      simp only [e9.1, e9.2.1, e9.2.2.1, e9.2.2.2.1, e9.2.2.2.2.1, e9.2.2.2.2.2] at hok2 hin2 ⊢
      refine WN.ret1S rfl rfl ⟨rfl, ⟨os2, fs2, Is2, (crashR t.K t.d t.F).1.1, (crashR t.K t.d t.F).1.2, true, 0, none, 0, [], t.ops + 1, t.rd⟩, Z2 ++ (kRow t :: Z), ⟨hcw.1, hok2, Nat.le_refl _, Nat.zero_le _, fun h => absurd rfl h⟩, rfl, rfl, fun y hy => ?_⟩ (Part.perm (permR4 _ _ _ _ _))
      rcases hin2 y hy with h | h
      · rcases htin y h with h | h
        · exact .inl h
        · exact .inr (h.mono fun z hz => List.mem_append_right _ (.tail _ hz))
      · exact .inr (h.mono fun z hz => List.mem_append_left _ hz)
    · rw [show decide (t.n = 1) = false from decide_eq_false h1]
      (repeat (first | (refine WL.k_move ?_; first | refine WL.step (Yl.move rfl) rfl ?_) | (refine WL.k_assign ?_; first | refine WL.step (Yl.assign rfl) rfl ?_) | (refine WL.k_bin .neq ?_; first | refine WL.step (Yl.strNeq rfl rfl) rfl ?_ | refine WL.step (Yl.neq rfl rfl) rfl ?_) | (refine WL.k_unop ?_; first | refine WL.step (Yl.not rfl) rfl ?_) | refine WC.seq ?_ | refine WC.region ?_ | refine WL.nil ?_ | refine WN.then_normal ?_ | refine WC.skip ?_ | refine WC.ret ?_ | refine WN.then_ret ?_))
      refine WC.cond_false rfl rfl ?_
      obtain ⟨t2, ht2⟩ : ∃ t2 : RDS, t2 = { t with ops := t.ops + 1, n := t.n - 1 } := ⟨_, rfl⟩
      have htp : ∀ f : DV → DV, t.v.op f = (f t2.v, 0) := by
        intro f
        rw [DV.op, ht2]
        by_cases h0 : t.n = 0
        · simp [RDS.v, h0]
        · have h2 : ¬ t.n - 1 = 0 := by omega
          simp [RDS.v, h0, h1, h2]
      have ht2ok : t2.Ok := by rw [ht2]; exact ⟨htok.wf, htok.ok, htok.kc, htok.k64, fun h => by have h3 := htok.pl (by simp only at h; omega); exact ⟨by simp only; omega, by have := h3.2.1; simp only; omega, h3.2.2⟩⟩
      have e9 : t2.d = t.d ∧ t2.F = t.F ∧ t2.os = t.os ∧ t2.fs = t.fs ∧ t2.Is = t.Is ∧ kRow t2 = kRow t := by rw [ht2]; exact ⟨rfl, rfl, rfl, rfl, rfl, rfl⟩
      rw [← ht2, htp]
      (repeat (first | (refine WL.k_move ?_; first | refine WL.step (Yl.move rfl) rfl ?_) | (refine WL.k_assign ?_; first | refine WL.step (Yl.assign rfl) rfl ?_) | (refine WL.k_bin .neq ?_; first | refine WL.step (Yl.strNeq rfl rfl) rfl ?_ | refine WL.step (Yl.neq rfl rfl) rfl ?_) | (refine WL.k_unop ?_; first | refine WL.step (Yl.not rfl) rfl ?_) | refine WC.seq ?_ | refine WC.region ?_ | refine WL.nil ?_ | refine WN.then_normal ?_ | refine WC.skip ?_ | refine WC.ret ?_ | refine WN.then_ret ?_))
      exact WN.ret1S rfl rfl ⟨rfl, t2, Z, ht2ok, rfl, rfl, by rw [e9.2.2.1, e9.2.2.2.1]; exact htin⟩ (by simp only [rdI, e9.2.2.1, e9.2.2.2.1, e9.2.2.2.2.1, e9.2.2.2.2.2]; exact Part.perm (permR5 _ _ _ _))
theorem esync_r (s : RDS) (w : World) (ok : s.Ok) (hO : ∀ y ∈ s.os ++ s.fs, OutF w S y) (hops : s.ops < 4611686018427387904) (st : St w S (rdI p s) w) :
    Calls Tryz.prog 12 #[bptr p.bd] w (GivesS S (EdV p s s.v.sync.1 s.v.sync.2) w) := by
  refine enterS (args := [.pointer (some ⟨p.bd, 0, none⟩)]) Tryz.func12 Tryz.ntmps12 rfl rfl st ?_
  (repeat (first | (refine WL.k_move ?_; first | refine WL.step (Yl.move rfl) rfl ?_) | (refine WL.k_assign ?_; first | refine WL.step (Yl.assign rfl) rfl ?_) | (refine WL.k_call 35 ?_; first | refine WL.callV (g := 35) (v := .bool true) Tryz.call35 rfl (fun w0 st2 => evalid_c w0 (ok.out st2 (fun x hx => hx) hO)) rfl ?_) | (refine WL.k_unop ?_; first | refine WL.step (Yl.not rfl) rfl ?_) | refine WC.seq ?_ | refine WC.region ?_ | refine WL.nil ?_ | refine WN.then_normal ?_ | refine WC.skip ?_ | refine WC.ret ?_ | refine WN.then_ret ?_))
  refine WC.cond_false rfl rfl ?_
  have hbk : HA.blk p.bd (rdO p s) ∈ rdI p s := .head _
  (repeat (first | (refine WL.k_move ?_; first | refine WL.step (Yl.move rfl) rfl ?_) | (refine WL.k_assign ?_; first | refine WL.step (Yl.assign rfl) rfl ?_) | (refine WL.k_load ?_; first | refine WL.step (Yl.loadBlk (T := 4) Tryz.isAgg4 rfl hbk (by rfl)) rfl ?_ | refine WL.step (Yl.loadBlk (T := 60) Tryz.isAgg60 rfl hbk (by rfl)) rfl ?_ | refine WL.step (Yl.loadBlk (T := 31) Tryz.isAgg31 rfl hbk (by rfl)) rfl ?_) | (refine WL.k_fld ?_; first | refine WL.step (Yl.fldN0 (i := 0) (o := 0) (by kernel_rfl) rfl) rfl ?_ | refine WL.step (Yl.fldN0 (i := 1) (o := 1) (by kernel_rfl) rfl) rfl ?_ | refine WL.step (Yl.fldN0 (i := 2) (o := 2) (by kernel_rfl) rfl) rfl ?_ | refine WL.step (Yl.fldN0 (i := 3) (o := 4) (by kernel_rfl) rfl) rfl ?_ | refine WL.step (Yl.fldN0 (i := 4) (o := 5) (by kernel_rfl) rfl) rfl ?_ | refine WL.step (Yl.fldN (i := 0) (o := 0) (off := 2) (by kernel_rfl) rfl) rfl ?_ | refine WL.step (Yl.fldN (i := 1) (o := 1) (off := 2) (by kernel_rfl) rfl) rfl ?_) | (refine WL.k_nilc ?_; first | refine WL.step (Yl.nilCheck rfl) rfl ?_) | (refine WL.k_unop ?_; first | refine WL.step (Yl.not rfl) rfl ?_) | refine WC.seq ?_ | refine WC.region ?_ | refine WL.nil ?_ | refine WN.then_normal ?_ | refine WC.skip ?_ | refine WC.ret ?_ | refine WN.then_ret ?_))
  cases e : s.down with
  | true =>
    refine WC.cond_true rfl rfl ?_
    (repeat (first | (refine WL.k_move ?_; first | refine WL.step (Yl.move rfl) rfl ?_) | (refine WL.k_assign ?_; first | refine WL.step (Yl.assign rfl) rfl ?_) | (refine WL.k_unop ?_; first | refine WL.step (Yl.not rfl) rfl ?_) | refine WC.seq ?_ | refine WC.region ?_ | refine WL.nil ?_ | refine WN.then_normal ?_ | refine WC.skip ?_ | refine WC.ret ?_ | refine WN.then_ret ?_))
    have hv : s.v.sync = (s.v, 11) := by rw [DV.sync, if_pos (show s.v.down = true from e)]
    rw [hv]
    exact WN.ret1S rfl rfl ⟨rfl, s, [], ok, rfl, (List.append_nil _).symm, fun y hy => .inl hy⟩ (Part.refl _)
  | false =>
    refine WC.cond_false rfl rfl ?_
    have hn6 : s.n ≤ 1000000 := (Nat.eq_zero_or_pos s.n).elim (fun h => by omega) (fun h => by have := (ok.pl (by omega)).2.1; omega)
    have hsv : s.v.sync = s.v.op DV.done := by rw [DV.sync, if_neg (by rw [show s.v.down = false from e]; decide)]
    rw [hsv]
    obtain ⟨t, ht⟩ : ∃ t : RDS, t = s := ⟨_, rfl⟩
    obtain ⟨Z, hZ⟩ : ∃ Z : List HA, Z = [] := ⟨_, rfl⟩
    have htok : t.Ok := by rw [ht]; exact ok
    have htin : ∀ y ∈ t.os ++ t.fs, y ∈ s.os ++ s.fs ∨ InF Z y := by rw [ht]; exact fun y hy => .inl hy
    rw [show s.v.op DV.done = t.v.op DV.done by rw [ht]]
    refine WC.part (B := .blk p.bd (rdO p t) :: (rbI p.r t.os t.fs t.Is ++ (kRow t :: Z))) (by rw [ht, hZ]; exact Part.refl _) ?_
    have hops2 : t.ops < 4611686018427387904 := by rw [ht]; exact hops
    have hn2 : t.n ≤ 1000000 := by rw [ht]; exact hn6
    have hbt : HA.blk p.bd (rdO p t) ∈ HA.blk p.bd (rdO p t) :: (rbI p.r t.os t.fs t.Is ++ (kRow t :: Z)) := .head _
    (repeat (first | (refine WL.k_move ?_; first | refine WL.step (Yl.move rfl) rfl ?_) | (refine WL.k_assign ?_; first | refine WL.step (Yl.assign rfl) rfl ?_) | (refine WL.k_load ?_; first | refine WL.step (Yl.loadBlk (T := 31) Tryz.isAgg31 rfl hbt (by rfl)) rfl ?_) | (refine WL.k_fld ?_; first | refine WL.step (Yl.fldN0 (i := 0) (o := 0) (by kernel_rfl) rfl) rfl ?_ | refine WL.step (Yl.fldN0 (i := 1) (o := 1) (by kernel_rfl) rfl) rfl ?_ | refine WL.step (Yl.fldN0 (i := 2) (o := 2) (by kernel_rfl) rfl) rfl ?_ | refine WL.step (Yl.fldN0 (i := 3) (o := 4) (by kernel_rfl) rfl) rfl ?_ | refine WL.step (Yl.fldN0 (i := 4) (o := 5) (by kernel_rfl) rfl) rfl ?_ | refine WL.step (Yl.fldN (i := 0) (o := 0) (off := 2) (by kernel_rfl) rfl) rfl ?_ | refine WL.step (Yl.fldN (i := 1) (o := 1) (off := 2) (by kernel_rfl) rfl) rfl ?_) | (refine WL.k_nilc ?_; first | refine WL.step (Yl.nilCheck rfl) rfl ?_) | (refine WL.k_unop ?_; first | refine WL.step (Yl.not rfl) rfl ?_) | refine WC.seq ?_ | refine WC.region ?_ | refine WL.nil ?_ | refine WN.then_normal ?_ | refine WC.skip ?_ | refine WC.ret ?_ | refine WN.then_ret ?_))
    refine WL.callS (g := 37) (A0 := [.blk p.bd (rdO p t)]) (B := rbI p.r t.os t.fs t.Is ++ (kRow t :: Z)) Tryz.call37 rfl (List.Perm.refl _) (fun w0 st2 st1 => ecounted_r t w0 hops2 hn2 st1) rfl fun v C hv => ?_
    obtain ⟨rfl, rfl⟩ := hv
    rw [List.singleton_append]
    have hO2 : ∀ y ∈ t.os ++ t.fs, ∀ {w2 : World} {A A0 B : List HA}, St w S A w2 → A.Perm (A0 ++ B) → (∀ z ∈ Z, z ∈ B) → OutF w2 (A0.filterMap HA.foot) y := by
      intro y hy w2 A A0 B st2 hp hz
      rcases htin y hy with h | h
      · exact ⟨(hO y h).1, old_out st2 hp (hO y h).2⟩
      · exact ⟨h.le, (h.mono hz).out st2 hp⟩
    by_cases h1 : t.n = 1
    · rw [show decide (t.n = 1) = true from decide_eq_true h1]
      have hpl := htok.pl (by omega)
      (repeat (first | (refine WL.k_move ?_; first | refine WL.step (Yl.move rfl) rfl ?_) | (refine WL.k_assign ?_; first | refine WL.step (Yl.assign rfl) rfl ?_) | (refine WL.k_unop ?_; first | refine WL.step (Yl.not rfl) rfl ?_) | refine WC.seq ?_ | refine WC.region ?_ | refine WL.nil ?_ | refine WN.then_normal ?_ | refine WC.skip ?_ | refine WC.ret ?_ | refine WN.then_ret ?_))
      refine WC.cond_true rfl rfl ?_
      obtain ⟨t2, ht2⟩ : ∃ t2 : RDS, t2 = { t with ops := t.ops + 1, n := t.n - 1 } := ⟨_, rfl⟩
      rw [← ht2]
      (repeat (first | (refine WL.k_move ?_; first | refine WL.step (Yl.move rfl) rfl ?_) | (refine WL.k_assign ?_; first | refine WL.step (Yl.assign rfl) rfl ?_) | (refine WL.k_unop ?_; first | refine WL.step (Yl.not rfl) rfl ?_) | refine WC.seq ?_ | refine WC.region ?_ | refine WL.nil ?_ | refine WN.then_normal ?_ | refine WC.skip ?_ | refine WC.ret ?_ | refine WN.then_ret ?_))
      have hmem : rbI p.r t.os t.fs t.Is = rbI p.r t2.os t2.fs t2.Is := by rw [ht2]
      have hwf2 : BkWf t2.d t2.F := by rw [ht2]; exact htok.wf
      have hok3 : RbOk t2.os t2.fs t2.Is t2.d t2.F := by rw [ht2]; exact htok.ok
      have hoo : t2.os ++ t2.fs = t.os ++ t.fs := by rw [ht2]
      rw [hmem]
      refine WL.callS (g := 38) (A0 := .blk p.bd (rdO p t2) :: rbI p.r t2.os t2.fs t2.Is) (B := kRow t :: Z) Tryz.call38 rfl (List.Perm.refl _) (fun w0 st2 st1 => ecrash_r t2 t.qa t.K.length t.qc t.K w0 hwf2 hok3 (fun y hy => hO2 y (by rw [← hoo]; exact hy) st2 (List.Perm.refl _) (fun z hz => .tail _ hz)) rfl (by have := htok.k64; omega) (row_out st2 (List.Perm.refl _) (.head _)) st1) rfl fun v C hv => ?_
      obtain ⟨rfl, os2, fs2, Is2, Z2, rfl, hok2, hin2⟩ := hv
      refine WL.free ?_
      (repeat (first | (refine WL.k_move ?_; first | refine WL.step (Yl.move rfl) rfl ?_) | (refine WL.k_assign ?_; first | refine WL.step (Yl.assign rfl) rfl ?_) | (refine WL.k_unop ?_; first | refine WL.step (Yl.not rfl) rfl ?_) | refine WC.seq ?_ | refine WC.region ?_ | refine WL.nil ?_ | refine WN.then_normal ?_ | refine WC.skip ?_ | refine WC.ret ?_ | refine WN.then_ret ?_))
      have hcw := crash_wf t.K htok.wf
      have hto : t.v.op DV.done = (({ t.v with ops := t.v.ops + 1 } : DV).crash t.K, 11) := by rw [DV.op, show t.v.pl = some (1, t.K) by show (if t.n = 0 then none else some (t.n, t.K)) = _; rw [if_neg (by omega), h1]]; simp; rfl
      rw [hto]
      have e9 : t2.d = t.d ∧ t2.F = t.F ∧ t2.ops = t.ops + 1 ∧ t2.rd = t.rd ∧ t2.os = t.os ∧ t2.fs = t.fs := by rw [ht2]; exact ⟨rfl, rfl, rfl, rfl, rfl, rfl⟩
      simp only [e9.1, e9.2.1, e9.2.2.1, e9.2.2.2.1, e9.2.2.2.2.1, e9.2.2.2.2.2] at hok2 hin2 ⊢
      refine WN.ret1S rfl rfl ⟨rfl, ⟨os2, fs2, Is2, (crashR t.K t.d t.F).1.1, (crashR t.K t.d t.F).1.2, true, 0, none, 0, [], t.ops + 1, t.rd⟩, Z2 ++ (kRow t :: Z), ⟨hcw.1, hok2, Nat.le_refl _, Nat.zero_le _, fun h => absurd rfl h⟩, rfl, rfl, fun y hy => ?_⟩ (Part.perm (permR4 _ _ _ _ _))
      rcases hin2 y hy with h | h
      · rcases htin y h with h | h
        · exact .inl h
        · exact .inr (h.mono fun z hz => List.mem_append_right _ (.tail _ hz))
      · exact .inr (h.mono fun z hz => List.mem_append_left _ hz)
    · rw [show decide (t.n = 1) = false from decide_eq_false h1]
      (repeat (first | (refine WL.k_move ?_; first | refine WL.step (Yl.move rfl) rfl ?_) | (refine WL.k_assign ?_; first | refine WL.step (Yl.assign rfl) rfl ?_) | (refine WL.k_unop ?_; first | refine WL.step (Yl.not rfl) rfl ?_) | refine WC.seq ?_ | refine WC.region ?_ | refine WL.nil ?_ | refine WN.then_normal ?_ | refine WC.skip ?_ | refine WC.ret ?_ | refine WN.then_ret ?_))
      refine WC.cond_false rfl rfl ?_
      obtain ⟨t2, ht2⟩ : ∃ t2 : RDS, t2 = { t with ops := t.ops + 1, n := t.n - 1 } := ⟨_, rfl⟩
      have htp : ∀ f : DV → DV, t.v.op f = (f t2.v, 0) := by
        intro f
        rw [DV.op, ht2]
        by_cases h0 : t.n = 0
        · simp [RDS.v, h0]
        · have h2 : ¬ t.n - 1 = 0 := by omega
          simp [RDS.v, h0, h1, h2]
      have ht2ok : t2.Ok := by rw [ht2]; exact ⟨htok.wf, htok.ok, htok.kc, htok.k64, fun h => by have h3 := htok.pl (by simp only at h; omega); exact ⟨by simp only; omega, by have := h3.2.1; simp only; omega, h3.2.2⟩⟩
      have e9 : t2.d = t.d ∧ t2.F = t.F ∧ t2.os = t.os ∧ t2.fs = t.fs ∧ t2.Is = t.Is ∧ kRow t2 = kRow t := by rw [ht2]; exact ⟨rfl, rfl, rfl, rfl, rfl, rfl⟩
      rw [← ht2, htp]
      have hb2 : ∀ {L : List HA}, HA.blk p.bd (rdO p t2) ∈ HA.blk p.bd (rdO p t2) :: L := .head _
      (repeat (first | (refine WL.k_move ?_; first | refine WL.step (Yl.move rfl) rfl ?_) | (refine WL.k_assign ?_; first | refine WL.step (Yl.assign rfl) rfl ?_) | (refine WL.k_load ?_; first | refine WL.step (Yl.loadBlk (T := 60) Tryz.isAgg60 rfl hb2 (by rfl)) rfl ?_) | (refine WL.k_fld ?_; first | refine WL.step (Yl.fldN0 (i := 0) (o := 0) (by kernel_rfl) rfl) rfl ?_ | refine WL.step (Yl.fldN0 (i := 1) (o := 1) (by kernel_rfl) rfl) rfl ?_ | refine WL.step (Yl.fldN0 (i := 2) (o := 2) (by kernel_rfl) rfl) rfl ?_ | refine WL.step (Yl.fldN0 (i := 3) (o := 4) (by kernel_rfl) rfl) rfl ?_ | refine WL.step (Yl.fldN0 (i := 4) (o := 5) (by kernel_rfl) rfl) rfl ?_ | refine WL.step (Yl.fldN (i := 0) (o := 0) (off := 2) (by kernel_rfl) rfl) rfl ?_ | refine WL.step (Yl.fldN (i := 1) (o := 1) (off := 2) (by kernel_rfl) rfl) rfl ?_) | (refine WL.k_nilc ?_; first | refine WL.step (Yl.nilCheck rfl) rfl ?_) | (refine WL.k_unop ?_; first | refine WL.step (Yl.not rfl) rfl ?_) | refine WC.seq ?_ | refine WC.region ?_ | refine WL.nil ?_ | refine WN.then_normal ?_ | refine WC.skip ?_ | refine WC.ret ?_ | refine WN.then_ret ?_))
      refine WL.callS (g := 40) (A0 := rbI p.r t.os t.fs t.Is) (B := .blk p.bd (rdO p t2) :: (kRow t :: Z)) Tryz.call40 rfl (permR6 _ _ _) (fun w0 st2 st1 => rsync_r w0 htok.wf htok.ok (fun y hy => hO2 y hy st2 (permR6 _ _ _) (fun z hz => .tail _ (.tail _ hz))) rfl st1) rfl fun v C hv => ?_
      obtain ⟨rfl, os2, fs2, Is2, Z2, rfl, hok2, hin2⟩ := hv
      have hcw := crash_wf [128] htok.wf
      have e2 : (crashR [128] t.d t.F).2 = 0 := by rw [crashR, if_pos keepOne]
      rw [e2]
      (repeat (first | (refine WL.k_move ?_; first | refine WL.step (Yl.move rfl) rfl ?_) | (refine WL.k_assign ?_; first | refine WL.step (Yl.assign rfl) rfl ?_) | (refine WL.k_unop ?_; first | refine WL.step (Yl.not rfl) rfl ?_) | refine WC.seq ?_ | refine WC.region ?_ | refine WL.nil ?_ | refine WN.then_normal ?_ | refine WC.skip ?_ | refine WC.ret ?_ | refine WN.then_ret ?_))
      refine WN.ret1S rfl rfl ⟨rfl, ⟨os2, fs2, Is2, (crashR [128] t.d t.F).1.1, (crashR [128] t.d t.F).1.2, t2.down, t2.n, t2.qa, t2.qc, t2.K, t2.ops, t2.rd⟩, Z2 ++ Z, ⟨hcw.1, hok2, ht2ok.kc, ht2ok.k64, ht2ok.pl⟩, ?_, rfl, fun y hy => ?_⟩ ?_
      · simp only [DV.done, RDS.v, e9.1, e9.2.1]
      · rcases hin2 y hy with h | h
        · rcases htin y h with h | h
          · exact .inl h
          · exact .inr (h.mono fun z hz => List.mem_append_right _ hz)
        · exact .inr (h.mono fun z hz => List.mem_append_left _ hz)
      · rw [← e9.2.2.2.2.2]
        exact Part.perm (permR7 _ _ _ _ _)
end
end Go.Proofs.YtmmpngigaodcgaaGreat
