import Derived.Test.YtbkdjfgkebkknaaGreatDoorRowJournalRowsMg18
import Derived.Test.YtbkdjfgkebkknaaGreatDoorRowJournalRowsMg17
import Derived.Test.YtbkdjfgkebkknaaGreatDoorRowJournalRowsMg10
namespace Go.Proofs.YtbkdjfgkebkknaaGreatDoor
set_option linter.unusedVariables false
set_option linter.unusedSimpArgs false
open Go Go.RowKit
set_option maxRecDepth 100000
set_option maxHeartbeats 8000000
def jget (v : DV) (j : JV) (no : Int) : List UInt8 × Bool × Nat :=
  if no < 0 ∨ 4096 ≤ no then ([], false, 3) else if v.down = true then ([], false, 11) else match j.F no.toNat with
    | none => ([], false, 0)
    | some q => if (frA v j.first j.n j.ep q.at_).err = 0 ∧ (frA v j.first j.n j.ep q.at_).kd = 1 ∧ (frA v j.first j.n j.ep q.at_).tx = (q.tx : Int) ∧ (frA v j.first j.n j.ep q.at_).ix = (q.ix : Int) ∧ (frA v j.first j.n j.ep q.at_).no = no then ((frA v j.first j.n j.ep q.at_).data, true, 0) else ([], false, 8)
def JGetV (dp : DP) (p : JP) (s : JS) (v : DV) (r : List UInt8 × Bool × Nat) : Value → List HA → Prop := fun u B => ∃ (q : Option Addr × Nat) (uu : List UInt8) (ds' : DS) (m : Nat), uu.drop 11 = r.1 ∧ uu.length ≤ q.2 ∧ u = .tuple #[.slice (cutA q.1 11 q.2 1) r.1.length (q.2 - 11), .bool r.2.1, .int .i64 (r.2.2 : Int)] ∧
  ds'.Ok dp ∧ ds'.v = { v with rd := v.rd + m } ∧ m ≤ 5 ∧ B = .row q.1 q.2 5 1 (bs uu) :: (jI dp.bd p s ++ drI dp ds')
def JOnV (bd : Nat) (v : JV) : Value → List HA → Prop := fun u B => ∃ p s, JS.Ok s ∧ s.v = v ∧ u = .tuple #[bptr p.bj, .int .i64 0] ∧ B = jI bd p s
section
variable {P : Program} {fn : Func} {R : Value → List HA → Prop} {ρ : Env} {A B : List HA} {n : Nat} {w0 : World} {S : List Nat} {v : Value}
theorem results_tmp3 {t t2 t3 : Tmp} (hr : fn.results = #[.tmp t, .tmp t2, .tmp t3]) (P : Program) (tmps : Array Value) (w : World) : (results fn tmps).run P w = .ok (.tuple #[tmps.getD t undef, tmps.getD t2 undef, tmps.getD t3 undef]) w := by
  simp [results, hr]
theorem WN.ret3S {t t2 t3 : Tmp} {v2 v3 : Value} (hr : fn.results = #[.tmp t, .tmp t2, .tmp t3]) (hv : lk ρ t = some v) (hv2 : lk ρ t2 = some v2) (hv3 : lk ρ t3 = some v3) (hR : R (.tuple #[v, v2, v3]) B) (hp : Part A B) : WN ⟨P, n, w0, S⟩ (bodyPost P fn (GivesS S R w0)) .ret ρ A :=
  fun a w f s => bodyPost_ret (results_tmp3 hr _ _ _) f.defers (by rw [f.get t v hv, f.get t2 v2 hv2, f.get t3 v3 hv3]; exact ⟨_, B, rfl, hR, s.part hp⟩)
end
attribute [local irreducible] WL WC WN Yl WH WQ WT WE WU WG WV
section
variable {dp : DP} {ds : DS} {p : JP} {s : JS} {S : List Nat}
theorem jpages_c (w : World) (h : JAt w dp.bd p s) : Calls Tryz.prog 34 #[bptr p.bj] w (Gives (NewRow id 3 1 (dirtyOf 4096 s.v.F).length (ncells (dirtyOf 4096 s.v.F))) w) := by
  refine enter (args := [.pointer (some ⟨p.bj, 0, none⟩)]) Tryz.func34 Tryz.ntmps34 rfl rfl ?_
  (repeat (first | refine WL.step (Yl.move rfl) rfl ?_ | refine WL.step (Yl.assign rfl) rfl ?_ | refine WL.callV (g := 60) (v := .bool true) Tryz.call60 rfl (fun w0 st => jvalid_c w0 (h.keep st.kept)) rfl ?_ | refine WL.step (Yl.not rfl) rfl ?_ | refine WC.seq ?_ | refine WC.region ?_ | refine WL.nil ?_ | refine WN.then_normal ?_))
  refine WC.cond_false rfl rfl ?_
  (repeat (first | refine WL.step (Yl.move rfl) rfl ?_ | refine WL.step (Yl.loadH Tryz.isAgg26 rfl (Has.old h.blk) rfl) rfl ?_ | (refine WL.k_fld ?_; refine WL.step (Yl.fldN0 (i := 6) (o := 6) (by kernel_rfl) rfl) rfl ?_) | refine WL.step (Yl.nilCheck rfl) rfl ?_ | refine WC.seq ?_ | refine WC.region ?_ | refine WN.then_normal ?_ | refine WC.skip ?_))
  refine WL.call (g := 86) Tryz.call86 rfl (fun w0 st => keysP_c p.bm w0) rfl fun v1 B1 hv1 => ?_
  obtain ⟨b2, rfl, rfl⟩ := hv1
  simp only [List.cons_append, List.nil_append]
  refine WL.callR (g := 41) Tryz.call41 rfl (fun w0 st => sortedP_c b2 p.bm w0 h.ok.m (by decide) (st.holds _ (.head _)) (h.keep st.kept).map) rfl fun q hq => ?_
  (repeat (first | refine WL.step (Yl.assign rfl) rfl ?_ | refine WL.nil ?_ | refine WN.then_normal ?_ | refine WC.ret ?_))
  exact WN.ret1 rfl rfl ⟨q.1, q.2, hq, rfl, rfl⟩ (.cons .here .nil)
theorem jget_r (no : Int) (w : World) (dok : ds.Ok dp) (jok : s.Ok) (hrow : s.v.first + s.v.n ≤ ds.d.length) (hF : ∀ k q, s.v.F k = some q → q.at_ ≤ s.v.n) (hrd : ds.rd < 1152921504606846976) (hT : TabO w S) (st : St w S (jI dp.bd p s ++ drI dp ds) w) :
    Calls Tryz.prog 33 #[bptr p.bj, .int .i64 no] w (GivesS S (JGetV dp p s ds.v (jget ds.v s.v no)) w) := by
  have hrow2 := jok.row
  have hjI : ∀ {x : HA}, x ∈ jI dp.bd p s → x ∈ jI dp.bd p s ++ drI dp ds := fun h => List.mem_append_left _ h
  refine enterS (args := [.pointer (some ⟨p.bj, 0, none⟩), _]) Tryz.func33 Tryz.ntmps33 rfl rfl st ?_
  (repeat (first | refine WL.step (Yl.move rfl) rfl ?_ | refine WL.step (Yl.assign rfl) rfl ?_ | refine WL.callV (g := 60) (v := .bool true) Tryz.call60 rfl (fun w0 st2 => jvalid_c w0 (jok.at_ st2 fun _ h => hjI h)) rfl ?_ | refine WL.step (Yl.not rfl) rfl ?_ | refine WC.seq ?_ | refine WC.region ?_ | refine WL.nil ?_ | refine WN.then_normal ?_ | refine WC.block ?_))
  refine WC.cond_false rfl rfl ?_
  by_cases h1 : no < 0
  · rw [jget, if_pos (.inl h1)]
    (repeat (first | refine WL.pass rfl rfl rfl rfl ?_ | refine WL.step (Yl.move rfl) rfl ?_ | refine WL.step (Yl.assign rfl) rfl ?_ | refine WL.step (Yl.pick_t rfl rfl rfl) rfl ?_ | (refine WL.k_bin .lss ?_; refine WL.step (Yl.lssT rfl rfl (by omega)) rfl ?_) | refine WC.seq ?_ | refine WC.region ?_ | refine WL.nil ?_ | refine WN.then_normal ?_))
    refine WC.cond_true rfl rfl ?_
    (repeat (first | refine WL.step (Yl.assign rfl) rfl ?_ | refine WC.seq ?_ | refine WC.region ?_ | refine WL.nil ?_ | refine WN.then_normal ?_ | refine WC.ret ?_ | refine WN.then_ret ?_ | refine WN.block_ret ?_))
    exact WN.ret3S rfl rfl rfl rfl ⟨(none, 0), [], ds, 0, rfl, Nat.le_refl _, rfl, dok, rfl, by omega, rfl⟩ (.free (Part.refl _))
  by_cases h2 : 4096 ≤ no
  · rw [jget, if_pos (.inr h2)]
    (repeat (first | refine WL.want rfl rfl rfl ?_ | refine WL.step (Yl.move rfl) rfl ?_ | refine WL.step (Yl.assign rfl) rfl ?_ | refine WL.step (Yl.pick_f rfl rfl rfl) rfl ?_ | (refine WL.k_bin .lss ?_; refine WL.step (Yl.lssF rfl rfl (by omega)) rfl ?_) | (refine WL.k_bin .geq ?_; refine WL.step (Yl.geqT rfl rfl (by omega)) rfl ?_) | refine WC.seq ?_ | refine WC.region ?_ | refine WL.nil ?_ | refine WN.then_normal ?_))
    refine WC.cond_true rfl rfl ?_
    (repeat (first | refine WL.step (Yl.assign rfl) rfl ?_ | refine WC.seq ?_ | refine WC.region ?_ | refine WL.nil ?_ | refine WN.then_normal ?_ | refine WC.ret ?_ | refine WN.then_ret ?_ | refine WN.block_ret ?_))
    exact WN.ret3S rfl rfl rfl rfl ⟨(none, 0), [], ds, 0, rfl, Nat.le_refl _, rfl, dok, rfl, by omega, rfl⟩ (.free (Part.refl _))
  have h3 : ¬ (no < 0 ∨ 4096 ≤ no) := by omega
  (repeat (first | refine WL.want rfl rfl rfl ?_ | refine WL.step (Yl.move rfl) rfl ?_ | refine WL.step (Yl.assign rfl) rfl ?_ | refine WL.step (Yl.pick_f rfl rfl rfl) rfl ?_ | (refine WL.k_bin .lss ?_; refine WL.step (Yl.lssF rfl rfl (by omega)) rfl ?_) | (refine WL.k_bin .geq ?_; refine WL.step (Yl.geqF rfl rfl (by omega)) rfl ?_) | refine WC.seq ?_ | refine WC.region ?_ | refine WL.nil ?_ | refine WN.then_normal ?_))
  refine WC.cond_false rfl rfl ?_
  simp only [jI, List.cons_append, List.nil_append]
  (repeat (first | refine WL.step (Yl.move rfl) rfl ?_ | refine WL.step (Yl.assign rfl) rfl ?_ | (refine WL.k_load ?_; refine WL.step (Yl.loadBlk (T := 26) Tryz.isAgg26 rfl zH (by rfl)) rfl ?_) | (refine WL.k_fld ?_; refine WL.step (Yl.fldN0 (i := 0) (o := 0) (by kernel_rfl) rfl) rfl ?_) | refine WL.step (Yl.nilCheck rfl) rfl ?_ | refine WL.callV (g := 27) (v := .bool ds.v.down) Tryz.call27 rfl (fun w0 st2 => ddown_c w0 (dok.at_ st2 fun x h => .tail _ (.tail _ h))) rfl ?_ | refine WC.seq ?_ | refine WC.region ?_ | refine WL.nil ?_ | refine WN.then_normal ?_))
  by_cases hdn : ds.v.down = true
  · rw [jget, if_neg h3, if_pos hdn]
    refine WC.cond_true rfl hdn ?_
    (repeat (first | refine WL.step (Yl.assign rfl) rfl ?_ | refine WC.seq ?_ | refine WC.region ?_ | refine WL.nil ?_ | refine WN.then_normal ?_ | refine WC.ret ?_ | refine WN.then_ret ?_ | refine WN.block_ret ?_))
    exact WN.ret3S rfl rfl rfl rfl ⟨(none, 0), [], ds, 0, rfl, Nat.le_refl _, rfl, dok, rfl, by omega, rfl⟩ (.free (Part.refl _))
  have hdn2 : ds.v.down = false := by simpa using hdn
  have hnn : no = ((no.toNat : Nat) : Int) := by omega
  refine WC.cond_false rfl hdn2 ?_
  cases hf : s.v.F no.toNat with
  | none =>
    have hget : jget ds.v s.v no = ([], false, 0) := by rw [jget, if_neg h3, if_neg hdn]; simp only [hf]
    rw [hget]
    (repeat (first | refine WL.step (Yl.lookupF (k := no.toNat) (enc := encP) Tryz.underlying77 Tryz.underlying3 Tryz.zeroValue123 rfl (by rw [← hnn]; rfl) jok.m hf (Has.mem (.tail _ (.head _)))) rfl ?_ | refine WL.step (Yl.move rfl) rfl ?_ | refine WL.step (Yl.extract rfl rfl) rfl ?_ | (refine WL.k_load ?_; refine WL.step (Yl.loadBlk (T := 77) Tryz.isAgg77 rfl zH (by rfl)) rfl ?_) | (refine WL.k_fld ?_; refine WL.step (Yl.fldN0 (i := 6) (o := 6) (by kernel_rfl) rfl) rfl ?_) | refine WL.step (Yl.nilCheck rfl) rfl ?_ | refine WC.seq ?_ | refine WC.region ?_ | refine WN.then_normal ?_ | refine WC.skip ?_ | refine WN.block_normal ?_))
    refine WL.allocA Tryz.zeroValue123 rfl fun b7 => ?_
    refine WL.storeWhole (T := 123) (k := 3) Tryz.sizeOf123 rfl rfl rfl .here rfl rfl ?_
    (repeat (first | refine WL.step (Yl.move rfl) rfl ?_ | refine WL.step (Yl.assign rfl) rfl ?_ | refine WL.step (Yl.not rfl) rfl ?_ | refine WC.seq ?_ | refine WC.region ?_ | refine WL.nil ?_ | refine WN.then_normal ?_))
    refine WC.cond_true rfl rfl ?_
    (repeat (first | refine WL.step (Yl.assign rfl) rfl ?_ | refine WC.seq ?_ | refine WC.region ?_ | refine WL.nil ?_ | refine WN.then_normal ?_ | refine WC.ret ?_ | refine WN.then_ret ?_))
    exact WN.ret3S rfl rfl rfl rfl ⟨(none, 0), [], ds, 0, rfl, Nat.le_refl _, rfl, dok, rfl, by omega, rfl⟩ (.free (.more (Part.refl _)))
  | some q =>
    have hqa := hF _ _ hf
    have hget : jget ds.v s.v no = if (frA ds.v s.v.first s.v.n s.v.ep q.at_).err = 0 ∧ (frA ds.v s.v.first s.v.n s.v.ep q.at_).kd = 1 ∧ (frA ds.v s.v.first s.v.n s.v.ep q.at_).tx = (q.tx : Int) ∧ (frA ds.v s.v.first s.v.n s.v.ep q.at_).ix = (q.ix : Int) ∧ (frA ds.v s.v.first s.v.n s.v.ep q.at_).no = no then ((frA ds.v s.v.first s.v.n s.v.ep q.at_).data, true, 0) else ([], false, 8) := by
      rw [jget, if_neg h3, if_neg hdn]; simp only [hf]
    (repeat (first | refine WL.step (Yl.lookupT (k := no.toNat) (u := q) (enc := encP) Tryz.underlying77 Tryz.underlying3 Tryz.zeroValue123 rfl (by rw [← hnn]; rfl) jok.m hf (Has.mem (.tail _ (.head _)))) rfl ?_ | refine WL.step (Yl.move rfl) rfl ?_ | refine WL.step (Yl.extract rfl rfl) rfl ?_ | (refine WL.k_load ?_; refine WL.step (Yl.loadBlk (T := 77) Tryz.isAgg77 rfl zH (by rfl)) rfl ?_) | (refine WL.k_fld ?_; refine WL.step (Yl.fldN0 (i := 6) (o := 6) (by kernel_rfl) rfl) rfl ?_) | refine WL.step (Yl.nilCheck rfl) rfl ?_ | refine WC.seq ?_ | refine WC.region ?_ | refine WN.then_normal ?_ | refine WC.skip ?_ | refine WN.block_normal ?_))
    refine WL.allocA Tryz.zeroValue123 rfl fun b7 => ?_
    refine WL.storeWhole (T := 123) (k := 3) Tryz.sizeOf123 rfl rfl rfl .here rfl rfl ?_
    (repeat (first | refine WL.step (Yl.move rfl) rfl ?_ | refine WL.step (Yl.assign rfl) rfl ?_ | refine WL.step (Yl.not rfl) rfl ?_ | refine WC.seq ?_ | refine WC.region ?_ | refine WL.nil ?_ | refine WN.then_normal ?_))
    refine WC.cond_false rfl rfl ?_
    (repeat (first | refine WL.step (Yl.move rfl) rfl ?_ | (refine WL.k_load ?_; refine WL.step (Yl.loadBlk (T := 3) Tryz.isAgg3 rfl zH (by rfl)) rfl ?_) | (refine WL.k_fld ?_; refine WL.step (Yl.fldN0 (i := 0) (o := 0) (by kernel_rfl) rfl) rfl ?_) | refine WC.seq ?_ | refine WC.region ?_ | refine WN.then_normal ?_ | refine WC.skip ?_))
    refine WL.callS (g := 66) (A0 := jI dp.bd p s ++ drI dp ds) (B := [_]) Tryz.call66 rfl (permA1 _ _) (fun w0 st2 s1 => jread_r q.at_ w0 dok jok hrow (by omega) (by omega) (old_out st2 (permA1 _ _) hT) s1) rfl fun v C hv => ?_
    have hrn : rdn s.v q.at_ ≤ 5 := by unfold rdn; omega
    have hjr : jrd ds.v s.v q.at_ = ({ ds.v with rd := ds.v.rd + rdn s.v q.at_ }, frA ds.v s.v.first s.v.n s.v.ep q.at_) := jrd_up hdn2
    rw [hjr] at hv
    obtain ⟨o, ho⟩ : ∃ o, o = frA ds.v s.v.first s.v.n s.v.ep q.at_ := ⟨_, rfl⟩
    rw [← ho] at hv hget
    obtain ⟨C, d2, ⟨z, uu, hz1, hz2, _, rfl, rfl⟩, d2ok, hd2, rfl⟩ := hv
    refine WL.part (Part.perm (permA1 _ _).symm) ?_
    simp only at hd2
    simp only [jI, List.cons_append, List.nil_append]
    (repeat (first | refine WL.step (Yl.move rfl) rfl ?_ | refine WL.step (Yl.extract rfl rfl) rfl ?_))
    refine WL.allocA Tryz.zeroValue121 rfl fun b9 => ?_
    refine WL.storeWhole (T := 121) (k := 6) Tryz.sizeOf121 rfl rfl rfl .here rfl rfl ?_
    (repeat (first | refine WL.step (Yl.assign rfl) rfl ?_))
    by_cases he : o.err = 0
    · by_cases hk : o.kd = 1
      · by_cases hx : o.tx = (q.tx : Int)
        · by_cases hi : o.ix = (q.ix : Int)
          · by_cases hn : o.no = no
            · (repeat (first | refine WL.want rfl rfl rfl ?_ | refine WL.step (Yl.move rfl) rfl ?_ | (refine WL.k_load ?_; refine WL.step (Yl.loadBlk (T := 3) Tryz.isAgg3 rfl zH (by rfl)) rfl ?_) | (refine WL.k_fld ?_; first | refine WL.step (Yl.fldN0 (i := 0) (o := 0) (by kernel_rfl) rfl) rfl ?_ | refine WL.step (Yl.fldN0 (i := 1) (o := 1) (by kernel_rfl) rfl) rfl ?_ | refine WL.step (Yl.fldN0 (i := 2) (o := 2) (by kernel_rfl) rfl) rfl ?_ | refine WL.step (Yl.fldN0 (i := 3) (o := 3) (by kernel_rfl) rfl) rfl ?_ | refine WL.step (Yl.fldN0 (i := 4) (o := 4) (by kernel_rfl) rfl) rfl ?_) | refine WL.step (Yl.pick_f rfl rfl rfl) rfl ?_ | (refine WL.k_bin .neq ?_; first | refine WL.step (Yl.neqF (m := (o.err : Int)) (n := 0) rfl rfl (by omega)) rfl ?_ | refine WL.step (Yl.neqF (m := o.kd) (n := 1) rfl rfl (by omega)) rfl ?_ | refine WL.step (Yl.neqF (m := o.tx) (n := (q.tx : Int)) rfl rfl (by omega)) rfl ?_ | refine WL.step (Yl.neqF (m := o.ix) (n := (q.ix : Int)) rfl rfl (by omega)) rfl ?_ | refine WL.step (Yl.neqF (m := o.no) (n := no) rfl rfl (by omega)) rfl ?_) | refine WC.seq ?_ | refine WC.region ?_ | refine WL.nil ?_ | refine WN.then_normal ?_))
              refine WC.cond_false rfl rfl ?_
              (repeat (first | refine WL.step (Yl.assign rfl) rfl ?_ | (refine WL.k_load ?_; refine WL.step (Yl.loadBlk (T := 23) Tryz.isAgg23 rfl zH (by rfl)) rfl ?_) | (refine WL.k_fld ?_; refine WL.step (Yl.fldN0 (i := 5) (o := 5) (by kernel_rfl) rfl) rfl ?_) | refine WC.seq ?_ | refine WC.region ?_ | refine WL.nil ?_ | refine WN.then_normal ?_ | refine WC.skip ?_ | refine WC.ret ?_))
              rw [hget, if_pos ⟨he, hk, hx, hi, hn⟩]
              exact WN.ret3S rfl rfl rfl rfl ⟨z, uu, d2, _, hz1, hz2, rfl, d2ok, hd2, by omega, rfl⟩ (.cons (.there (.there .here)) (.cons (.there (.there .here)) (.cons (.there (.there .here)) (.more (.more (Part.refl _))))))
            · (repeat (first | refine WL.want rfl rfl rfl ?_ | refine WL.step (Yl.move rfl) rfl ?_ | (refine WL.k_load ?_; refine WL.step (Yl.loadBlk (T := 3) Tryz.isAgg3 rfl zH (by rfl)) rfl ?_) | (refine WL.k_fld ?_; first | refine WL.step (Yl.fldN0 (i := 0) (o := 0) (by kernel_rfl) rfl) rfl ?_ | refine WL.step (Yl.fldN0 (i := 1) (o := 1) (by kernel_rfl) rfl) rfl ?_ | refine WL.step (Yl.fldN0 (i := 2) (o := 2) (by kernel_rfl) rfl) rfl ?_ | refine WL.step (Yl.fldN0 (i := 3) (o := 3) (by kernel_rfl) rfl) rfl ?_ | refine WL.step (Yl.fldN0 (i := 4) (o := 4) (by kernel_rfl) rfl) rfl ?_) | refine WL.step (Yl.pick_f rfl rfl rfl) rfl ?_ | (refine WL.k_bin .neq ?_; first | refine WL.step (Yl.neqF (m := (o.err : Int)) (n := 0) rfl rfl (by omega)) rfl ?_ | refine WL.step (Yl.neqF (m := o.kd) (n := 1) rfl rfl (by omega)) rfl ?_ | refine WL.step (Yl.neqF (m := o.tx) (n := (q.tx : Int)) rfl rfl (by omega)) rfl ?_ | refine WL.step (Yl.neqF (m := o.ix) (n := (q.ix : Int)) rfl rfl (by omega)) rfl ?_ | refine WL.step (Yl.neqT (m := o.no) (n := no) rfl rfl (by omega)) rfl ?_) | refine WC.seq ?_ | refine WC.region ?_ | refine WL.nil ?_ | refine WN.then_normal ?_))
              refine WC.cond_true rfl rfl ?_
              (repeat (first | refine WL.step (Yl.assign rfl) rfl ?_ | refine WC.seq ?_ | refine WC.region ?_ | refine WL.nil ?_ | refine WN.then_normal ?_ | refine WC.ret ?_ | refine WN.then_ret ?_))
              rw [hget, if_neg (by rintro ⟨a1, a2, a3, a4, a5⟩; exact hn a5)]
              exact WN.ret3S rfl rfl rfl rfl ⟨(none, 0), [], d2, _, rfl, Nat.le_refl _, rfl, d2ok, hd2, by omega, rfl⟩ (.free (.cons (.there (.there (.there .here))) (.cons (.there (.there (.there .here))) (.more (.more (.more (Part.refl _)))))))
          · (repeat (first | (refine WL.kG ?_; first | refine WL.want rfl rfl rfl ?_ | refine WL.pass rfl rfl rfl rfl ?_) | refine WL.step (Yl.move rfl) rfl ?_ | (refine WL.k_load ?_; refine WL.step (Yl.loadBlk (T := 3) Tryz.isAgg3 rfl zH (by rfl)) rfl ?_) | (refine WL.k_fld ?_; first | refine WL.step (Yl.fldN0 (i := 0) (o := 0) (by kernel_rfl) rfl) rfl ?_ | refine WL.step (Yl.fldN0 (i := 1) (o := 1) (by kernel_rfl) rfl) rfl ?_ | refine WL.step (Yl.fldN0 (i := 2) (o := 2) (by kernel_rfl) rfl) rfl ?_ | refine WL.step (Yl.fldN0 (i := 3) (o := 3) (by kernel_rfl) rfl) rfl ?_) | (refine WL.k_pick ?_; first | refine WL.step (Yl.pick_t rfl rfl rfl) rfl ?_ | refine WL.step (Yl.pick_f rfl rfl rfl) rfl ?_) | (refine WL.k_bin .neq ?_; first | refine WL.step (Yl.neqF (m := (o.err : Int)) (n := 0) rfl rfl (by omega)) rfl ?_ | refine WL.step (Yl.neqF (m := o.kd) (n := 1) rfl rfl (by omega)) rfl ?_ | refine WL.step (Yl.neqF (m := o.tx) (n := (q.tx : Int)) rfl rfl (by omega)) rfl ?_ | refine WL.step (Yl.neqT (m := o.ix) (n := (q.ix : Int)) rfl rfl (by omega)) rfl ?_) | refine WC.seq ?_ | refine WC.region ?_ | refine WL.nil ?_ | refine WN.then_normal ?_))
            refine WC.cond_true rfl rfl ?_
            (repeat (first | refine WL.step (Yl.assign rfl) rfl ?_ | refine WC.seq ?_ | refine WC.region ?_ | refine WL.nil ?_ | refine WN.then_normal ?_ | refine WC.ret ?_ | refine WN.then_ret ?_))
            rw [hget, if_neg (by rintro ⟨a1, a2, a3, a4, a5⟩; exact hi a4)]
            exact WN.ret3S rfl rfl rfl rfl ⟨(none, 0), [], d2, _, rfl, Nat.le_refl _, rfl, d2ok, hd2, by omega, rfl⟩ (.free (.cons (.there (.there (.there .here))) (.cons (.there (.there (.there .here))) (.more (.more (.more (Part.refl _)))))))
        · (repeat (first | (refine WL.kG ?_; first | refine WL.want rfl rfl rfl ?_ | refine WL.pass rfl rfl rfl rfl ?_) | refine WL.step (Yl.move rfl) rfl ?_ | (refine WL.k_load ?_; refine WL.step (Yl.loadBlk (T := 3) Tryz.isAgg3 rfl zH (by rfl)) rfl ?_) | (refine WL.k_fld ?_; first | refine WL.step (Yl.fldN0 (i := 0) (o := 0) (by kernel_rfl) rfl) rfl ?_ | refine WL.step (Yl.fldN0 (i := 1) (o := 1) (by kernel_rfl) rfl) rfl ?_ | refine WL.step (Yl.fldN0 (i := 2) (o := 2) (by kernel_rfl) rfl) rfl ?_) | (refine WL.k_pick ?_; first | refine WL.step (Yl.pick_t rfl rfl rfl) rfl ?_ | refine WL.step (Yl.pick_f rfl rfl rfl) rfl ?_) | (refine WL.k_bin .neq ?_; first | refine WL.step (Yl.neqF (m := (o.err : Int)) (n := 0) rfl rfl (by omega)) rfl ?_ | refine WL.step (Yl.neqF (m := o.kd) (n := 1) rfl rfl (by omega)) rfl ?_ | refine WL.step (Yl.neqT (m := o.tx) (n := (q.tx : Int)) rfl rfl (by omega)) rfl ?_) | refine WC.seq ?_ | refine WC.region ?_ | refine WL.nil ?_ | refine WN.then_normal ?_))
          refine WC.cond_true rfl rfl ?_
          (repeat (first | refine WL.step (Yl.assign rfl) rfl ?_ | refine WC.seq ?_ | refine WC.region ?_ | refine WL.nil ?_ | refine WN.then_normal ?_ | refine WC.ret ?_ | refine WN.then_ret ?_))
          rw [hget, if_neg (by rintro ⟨a1, a2, a3, a4, a5⟩; exact hx a3)]
          exact WN.ret3S rfl rfl rfl rfl ⟨(none, 0), [], d2, _, rfl, Nat.le_refl _, rfl, d2ok, hd2, by omega, rfl⟩ (.free (.cons (.there (.there (.there .here))) (.cons (.there (.there (.there .here))) (.more (.more (.more (Part.refl _)))))))
      · (repeat (first | (refine WL.kG ?_; first | refine WL.want rfl rfl rfl ?_ | refine WL.pass rfl rfl rfl rfl ?_) | refine WL.step (Yl.move rfl) rfl ?_ | (refine WL.k_load ?_; refine WL.step (Yl.loadBlk (T := 3) Tryz.isAgg3 rfl zH (by rfl)) rfl ?_) | (refine WL.k_fld ?_; refine WL.step (Yl.fldN0 (i := 0) (o := 0) (by kernel_rfl) rfl) rfl ?_) | (refine WL.k_pick ?_; first | refine WL.step (Yl.pick_t rfl rfl rfl) rfl ?_ | refine WL.step (Yl.pick_f rfl rfl rfl) rfl ?_) | (refine WL.k_bin .neq ?_; first | refine WL.step (Yl.neqF (m := (o.err : Int)) (n := 0) rfl rfl (by omega)) rfl ?_ | refine WL.step (Yl.neqT (m := o.kd) (n := 1) rfl rfl (by omega)) rfl ?_) | refine WC.seq ?_ | refine WC.region ?_ | refine WL.nil ?_ | refine WN.then_normal ?_))
        refine WC.cond_true rfl rfl ?_
        (repeat (first | refine WL.step (Yl.assign rfl) rfl ?_ | refine WC.seq ?_ | refine WC.region ?_ | refine WL.nil ?_ | refine WN.then_normal ?_ | refine WC.ret ?_ | refine WN.then_ret ?_))
        rw [hget, if_neg (by rintro ⟨a1, a2, a3, a4, a5⟩; exact hk a2)]
        exact WN.ret3S rfl rfl rfl rfl ⟨(none, 0), [], d2, _, rfl, Nat.le_refl _, rfl, d2ok, hd2, by omega, rfl⟩ (.free (.cons (.there (.there (.there .here))) (.cons (.there (.there (.there .here))) (.more (.more (.more (Part.refl _)))))))
    · (repeat (first | refine WL.pass rfl rfl rfl rfl ?_ | refine WL.step (Yl.move rfl) rfl ?_ | refine WL.step (Yl.pick_t rfl rfl rfl) rfl ?_ | (refine WL.k_bin .neq ?_; refine WL.step (Yl.neqT (m := (o.err : Int)) (n := 0) rfl rfl (by omega)) rfl ?_) | refine WC.seq ?_ | refine WC.region ?_ | refine WL.nil ?_ | refine WN.then_normal ?_))
      refine WC.cond_true rfl rfl ?_
      (repeat (first | refine WL.step (Yl.assign rfl) rfl ?_ | refine WC.seq ?_ | refine WC.region ?_ | refine WL.nil ?_ | refine WN.then_normal ?_ | refine WC.ret ?_ | refine WN.then_ret ?_))
      rw [hget, if_neg (by rintro ⟨a1, a2, a3, a4, a5⟩; exact he a1)]
      exact WN.ret3S rfl rfl rfl rfl ⟨(none, 0), [], d2, _, rfl, Nat.le_refl _, rfl, d2ok, hd2, by omega, rfl⟩ (.free (.cons (.there (.there (.there .here))) (.cons (.there (.there (.there .here))) (.more (.more (.more (Part.refl _)))))))
def onE (j : JV) (len : Nat) : Nat := if len < j.first ∨ len - j.first < j.n then 3 else 0
theorem jon_bad (v u : Value) (hu : ∃ q, u = .pointer q) (w : World) (h : JBad w v) : Calls Tryz.prog 20 #[v, u] w (Gives (Val (.tuple #[.pointer none, .int .i64 1])) w) := by
  obtain ⟨pv, rfl⟩ := h.ptr
  obtain ⟨pu, rfl⟩ := hu
  refine enter (args := [.pointer pv, .pointer pu]) Tryz.func20 Tryz.ntmps20 rfl rfl ?_
  (repeat (first | refine WL.pass rfl rfl rfl rfl ?_ | refine WL.step (Yl.move rfl) rfl ?_ | refine WL.step (Yl.assign rfl) rfl ?_ | refine WL.step (Yl.pick_t rfl rfl rfl) rfl ?_ | refine WL.callV (g := 60) (v := .bool false) Tryz.call60 rfl (fun w0 st => jvalid_bad _ w0 (h.keep st.kept)) rfl ?_ | refine WL.step (Yl.not rfl) rfl ?_ | refine WC.seq ?_ | refine WC.region ?_ | refine WL.nil ?_ | refine WN.then_normal ?_ | refine WC.block ?_))
  refine WC.cond_true rfl rfl ?_
  (repeat (first | refine WL.step (Yl.assign rfl) rfl ?_ | refine WC.seq ?_ | refine WC.region ?_ | refine WL.nil ?_ | refine WN.then_normal ?_ | refine WC.ret ?_ | refine WN.then_ret ?_ | refine WN.block_ret ?_))
  exact WN.ret2 rfl rfl rfl ⟨rfl, rfl⟩ .nil
theorem jon_e {dp2 : DP} {d2 : DS} (w : World) (h : JAt w dp.bd p s) (hd : DrAt w dp2 d2) (he : onE s.v d2.d.length ≠ 0) : Calls Tryz.prog 20 #[bptr p.bj, bptr dp2.bd] w (Gives (Val (.tuple #[.pointer none, .int .i64 3])) w) := by
  have hpos := hd.bank.wf.pos
  have hrow := h.ok.row
  have hle := hd.bank.wf.le
  have he2 : d2.d.length < s.v.first ∨ d2.d.length - s.v.first < s.v.n := by
    by_cases h : d2.d.length < s.v.first ∨ d2.d.length - s.v.first < s.v.n
    · exact h
    · exact absurd (if_neg h) he
  refine enter (args := [.pointer (some ⟨p.bj, 0, none⟩), .pointer (some ⟨dp2.bd, 0, none⟩)]) Tryz.func20 Tryz.ntmps20 rfl rfl ?_
  (repeat (first | refine WL.want rfl rfl rfl ?_ | refine WL.step (Yl.move rfl) rfl ?_ | refine WL.step (Yl.assign rfl) rfl ?_ | refine WL.step (Yl.pick_f rfl rfl rfl) rfl ?_ | refine WL.callV (g := 60) (v := .bool true) Tryz.call60 rfl (fun w0 st => jvalid_c w0 (h.keep st.kept)) rfl ?_ | refine WL.callV (g := 56) (v := .int .i64 (d2.d.length : Int)) Tryz.call56 rfl (fun w0 st => dlen_c w0 (hd.keep st.kept)) rfl ?_ | (refine WL.k_bin .eql ?_; refine WL.step (Yl.eqlF rfl rfl (by omega)) rfl ?_) | refine WL.step (Yl.not rfl) rfl ?_ | refine WC.seq ?_ | refine WC.region ?_ | refine WL.nil ?_ | refine WN.then_normal ?_ | refine WC.block ?_))
  refine WC.cond_false rfl rfl ?_
  by_cases k1 : d2.d.length < s.v.first
  · refine WC.seq (WC.regionH [] (by kernel_rfl) ?_)
    (refine WH.order [0, 1, 2, 3, 4] (by repeat (first | exact Part.nil | refine Part.cons zK ?_ | refine Part.free ?_)) (by kernel_rfl) ?_; (repeat (first | (refine WT.k_move rfl ?_; (refine WT.kn rfl ?_; refine WT.take rfl rfl (fun _ _ _ h => h) (Yl.move rfl) rfl (by kernel_rfl) (by kernel_rfl) ?_)) | (refine WT.k_load rfl ?_; (refine WT.kn rfl ?_; refine WT.take rfl rfl (fun _ _ _ h => h) (Yl.loadH Tryz.isAgg26 rfl (Has.old h.blk) rfl) rfl (by kernel_rfl) (by kernel_rfl) ?_)) | (refine WT.k_fld rfl ?_; (refine WT.kn rfl ?_; refine WT.take rfl rfl (fun _ _ _ h => h) (Yl.fldN0 (i := 1) (o := 1) (by kernel_rfl) rfl) rfl (by kernel_rfl) (by kernel_rfl) ?_)) | (refine WT.k_nilc rfl ?_; (refine WT.kn rfl ?_; refine WT.take rfl rfl (fun _ _ _ h => h) (Yl.nilCheck rfl) rfl (by kernel_rfl) (by kernel_rfl) ?_)))); refine WT.nil ?_)
    refine WH.only (i := 5) (by kernel_rfl) rfl ?_
    refine WL.callV (g := 56) (v := .int .i64 (d2.d.length : Int)) Tryz.call56 rfl (fun w0 st => dlen_c w0 (hd.keep st.kept)) rfl ?_
    refine WL.nil (WN.nextH .nil ?_)
    (refine WH.order [6, 7, 8, 9, 10, 11, 12, 13, 14, 15, 16, 17, 18, 19, 20, 21] (by repeat (first | exact Part.nil | refine Part.cons zK ?_ | refine Part.free ?_)) (by kernel_rfl) ?_; (repeat (first | refine WT.passG rfl rfl rfl rfl (fun _ _ _ h => h) rfl (by kernel_rfl) (by kernel_rfl) ?_ | (refine WT.k_move rfl ?_; (refine WT.kn rfl ?_; refine WT.take rfl rfl (fun _ _ _ h => h) (Yl.move rfl) rfl (by kernel_rfl) (by kernel_rfl) ?_)) | (refine WT.k_assign rfl ?_; (refine WT.kn rfl ?_; refine WT.take rfl rfl (fun _ _ _ h => h) (Yl.assign rfl) rfl (by kernel_rfl) (by kernel_rfl) ?_)) | (refine WT.k_pick rfl ?_; (refine WT.kn rfl ?_; refine WT.take rfl rfl (fun _ _ _ h => h) (Yl.pick_t rfl rfl rfl) rfl (by kernel_rfl) (by kernel_rfl) ?_)) | (refine WT.k_bin .gtr rfl ?_; (refine WT.kn rfl ?_; refine WT.take rfl rfl (fun _ _ _ h => h) (Yl.gtrT (m := (s.v.first : Int)) (n := (d2.d.length : Int)) rfl rfl (by omega)) rfl (by kernel_rfl) (by kernel_rfl) ?_)))); refine WT.nil ?_)
    refine WH.done (by kernel_rfl) ?_
    (repeat (first | refine WN.then_normal ?_))
    refine WC.cond_true rfl rfl ?_
    (repeat (first | refine WL.step (Yl.assign rfl) rfl ?_ | refine WC.seq ?_ | refine WC.region ?_ | refine WL.nil ?_ | refine WN.then_normal ?_ | refine WC.ret ?_ | refine WN.then_ret ?_ | refine WN.block_ret ?_))
    exact WN.ret2 rfl rfl rfl ⟨rfl, rfl⟩ .nil
  refine WC.seq (WC.regionH [] (by kernel_rfl) ?_)
  (refine WH.order [0, 1, 2, 3, 4] (by repeat (first | exact Part.nil | refine Part.cons zK ?_ | refine Part.free ?_)) (by kernel_rfl) ?_; (repeat (first | (refine WT.k_move rfl ?_; (refine WT.kn rfl ?_; refine WT.take rfl rfl (fun _ _ _ h => h) (Yl.move rfl) rfl (by kernel_rfl) (by kernel_rfl) ?_)) | (refine WT.k_load rfl ?_; (refine WT.kn rfl ?_; refine WT.take rfl rfl (fun _ _ _ h => h) (Yl.loadH Tryz.isAgg26 rfl (Has.old h.blk) rfl) rfl (by kernel_rfl) (by kernel_rfl) ?_)) | (refine WT.k_fld rfl ?_; (refine WT.kn rfl ?_; refine WT.take rfl rfl (fun _ _ _ h => h) (Yl.fldN0 (i := 1) (o := 1) (by kernel_rfl) rfl) rfl (by kernel_rfl) (by kernel_rfl) ?_)) | (refine WT.k_nilc rfl ?_; (refine WT.kn rfl ?_; refine WT.take rfl rfl (fun _ _ _ h => h) (Yl.nilCheck rfl) rfl (by kernel_rfl) (by kernel_rfl) ?_)))); refine WT.nil ?_)
  refine WH.only (i := 5) (by kernel_rfl) rfl ?_
  refine WL.callV (g := 56) (v := .int .i64 (d2.d.length : Int)) Tryz.call56 rfl (fun w0 st => dlen_c w0 (hd.keep st.kept)) rfl ?_
  refine WL.nil (WN.nextH .nil ?_)
  (refine WH.order [6, 7, 8, 9, 10, 11, 12, 14, 15, 16, 17] (by repeat (first | exact Part.nil | refine Part.cons zK ?_ | refine Part.free ?_)) (by kernel_rfl) ?_; (repeat (first | (refine WT.k_move rfl ?_; first | (refine WT.kn rfl ?_; refine WT.take rfl rfl (fun _ _ _ h => h) (Yl.move rfl) rfl (by kernel_rfl) (by kernel_rfl) ?_) | (refine WT.kg rfl ?_; refine WT.takeG rfl rfl rfl rfl (fun _ _ _ h => h) (Yl.move rfl) rfl (by kernel_rfl) (by kernel_rfl) ?_)) | (refine WT.k_load rfl ?_; (refine WT.kg rfl ?_; refine WT.takeG rfl rfl rfl rfl (fun _ _ _ h => h) (Yl.loadH Tryz.isAgg26 rfl (Has.old h.blk) rfl) rfl (by kernel_rfl) (by kernel_rfl) ?_)) | (refine WT.k_fld rfl ?_; (refine WT.kg rfl ?_; first | refine WT.takeG rfl rfl rfl rfl (fun _ _ _ h => h) (Yl.fldN0 (i := 1) (o := 1) (by kernel_rfl) rfl) rfl (by kernel_rfl) (by kernel_rfl) ?_ | refine WT.takeG rfl rfl rfl rfl (fun _ _ _ h => h) (Yl.fldN0 (i := 2) (o := 2) (by kernel_rfl) rfl) rfl (by kernel_rfl) (by kernel_rfl) ?_)) | (refine WT.k_nilc rfl ?_; (refine WT.kg rfl ?_; refine WT.takeG rfl rfl rfl rfl (fun _ _ _ h => h) (Yl.nilCheck rfl) rfl (by kernel_rfl) (by kernel_rfl) ?_)) | (refine WT.k_bin .gtr rfl ?_; (refine WT.kn rfl ?_; refine WT.take rfl rfl (fun _ _ _ h => h) (Yl.gtrF (m := (s.v.first : Int)) (n := (d2.d.length : Int)) rfl rfl (by omega)) rfl (by kernel_rfl) (by kernel_rfl) ?_)))); refine WT.nil ?_)
  refine WH.only (i := 13) (by kernel_rfl) rfl ?_
  refine WL.want rfl rfl rfl ?_
  refine WL.callV (g := 56) (v := .int .i64 (d2.d.length : Int)) Tryz.call56 rfl (fun w0 st => dlen_c w0 (hd.keep st.kept)) rfl ?_
  refine WL.nil (WN.nextH .nil ?_)
  (refine WH.order [18, 19, 20, 21] (by repeat (first | exact Part.nil | refine Part.cons zK ?_ | refine Part.free ?_)) (by kernel_rfl) ?_; (repeat (first | (refine WT.k_assign rfl ?_; (refine WT.kn rfl ?_; refine WT.take rfl rfl (fun _ _ _ h => h) (Yl.assign rfl) rfl (by kernel_rfl) (by kernel_rfl) ?_)) | (refine WT.k_pick rfl ?_; (refine WT.kn rfl ?_; refine WT.take rfl rfl (fun _ _ _ h => h) (Yl.pick_f rfl rfl rfl) rfl (by kernel_rfl) (by kernel_rfl) ?_)) | (refine WT.k_bin .sub rfl ?_; (refine WT.kg rfl ?_; refine WT.takeG rfl rfl rfl rfl (fun _ _ _ h => h) (Yl.sub64N rfl rfl (by omega) (by omega)) rfl (by kernel_rfl) (by kernel_rfl) ?_)) | (refine WT.k_bin .gtr rfl ?_; (refine WT.kg rfl ?_; refine WT.takeG rfl rfl rfl rfl (fun _ _ _ h => h) (Yl.gtrT (m := (s.v.n : Int)) (n := ((d2.d.length - s.v.first : Nat) : Int)) rfl rfl (by omega)) rfl (by kernel_rfl) (by kernel_rfl) ?_)))); refine WT.nil ?_)
  refine WH.done (by kernel_rfl) ?_
  (repeat (first | refine WN.then_normal ?_))
  refine WC.cond_true rfl rfl ?_
  (repeat (first | refine WL.step (Yl.assign rfl) rfl ?_ | refine WC.seq ?_ | refine WC.region ?_ | refine WL.nil ?_ | refine WN.then_normal ?_ | refine WC.ret ?_ | refine WN.then_ret ?_ | refine WN.block_ret ?_))
  exact WN.ret2 rfl rfl rfl ⟨rfl, rfl⟩ .nil
theorem jon_c {dp2 : DP} {d2 : DS} (w : World) (h : JAt w dp.bd p s) (hd : DrAt w dp2 d2) (he : onE s.v d2.d.length = 0) : Calls Tryz.prog 20 #[bptr p.bj, bptr dp2.bd] w (Gives (JOnV dp2.bd s.v) w) := by
  have hpos := hd.bank.wf.pos
  have hrow := h.ok.row
  have hle := hd.bank.wf.le
  have he2 : ¬ (d2.d.length < s.v.first ∨ d2.d.length - s.v.first < s.v.n) := fun hh => by rw [onE, if_pos hh] at he; cases he
  refine enter (args := [.pointer (some ⟨p.bj, 0, none⟩), .pointer (some ⟨dp2.bd, 0, none⟩)]) Tryz.func20 Tryz.ntmps20 rfl rfl ?_
  (repeat (first | refine WL.want rfl rfl rfl ?_ | refine WL.step (Yl.move rfl) rfl ?_ | refine WL.step (Yl.assign rfl) rfl ?_ | refine WL.step (Yl.pick_f rfl rfl rfl) rfl ?_ | refine WL.callV (g := 60) (v := .bool true) Tryz.call60 rfl (fun w0 st => jvalid_c w0 (h.keep st.kept)) rfl ?_ | refine WL.callV (g := 56) (v := .int .i64 (d2.d.length : Int)) Tryz.call56 rfl (fun w0 st => dlen_c w0 (hd.keep st.kept)) rfl ?_ | (refine WL.k_bin .eql ?_; refine WL.step (Yl.eqlF rfl rfl (by omega)) rfl ?_) | refine WL.step (Yl.not rfl) rfl ?_ | refine WC.seq ?_ | refine WC.region ?_ | refine WL.nil ?_ | refine WN.then_normal ?_ | refine WC.block ?_))
  refine WC.cond_false rfl rfl ?_
  refine WC.seq (WC.regionH [] (by kernel_rfl) ?_)
  (refine WH.order [0, 1, 2, 3, 4] (by repeat (first | exact Part.nil | refine Part.cons zK ?_ | refine Part.free ?_)) (by kernel_rfl) ?_; (repeat (first | (refine WT.k_move rfl ?_; (refine WT.kn rfl ?_; refine WT.take rfl rfl (fun _ _ _ h => h) (Yl.move rfl) rfl (by kernel_rfl) (by kernel_rfl) ?_)) | (refine WT.k_load rfl ?_; (refine WT.kn rfl ?_; refine WT.take rfl rfl (fun _ _ _ h => h) (Yl.loadH Tryz.isAgg26 rfl (Has.old h.blk) rfl) rfl (by kernel_rfl) (by kernel_rfl) ?_)) | (refine WT.k_fld rfl ?_; (refine WT.kn rfl ?_; refine WT.take rfl rfl (fun _ _ _ h => h) (Yl.fldN0 (i := 1) (o := 1) (by kernel_rfl) rfl) rfl (by kernel_rfl) (by kernel_rfl) ?_)) | (refine WT.k_nilc rfl ?_; (refine WT.kn rfl ?_; refine WT.take rfl rfl (fun _ _ _ h => h) (Yl.nilCheck rfl) rfl (by kernel_rfl) (by kernel_rfl) ?_)))); refine WT.nil ?_)
  refine WH.only (i := 5) (by kernel_rfl) rfl ?_
  refine WL.callV (g := 56) (v := .int .i64 (d2.d.length : Int)) Tryz.call56 rfl (fun w0 st => dlen_c w0 (hd.keep st.kept)) rfl ?_
  refine WL.nil (WN.nextH .nil ?_)
  (refine WH.order [6, 7, 8, 9, 10, 11, 12, 14, 15, 16, 17] (by repeat (first | exact Part.nil | refine Part.cons zK ?_ | refine Part.free ?_)) (by kernel_rfl) ?_; (repeat (first | (refine WT.k_move rfl ?_; first | (refine WT.kn rfl ?_; refine WT.take rfl rfl (fun _ _ _ h => h) (Yl.move rfl) rfl (by kernel_rfl) (by kernel_rfl) ?_) | (refine WT.kg rfl ?_; refine WT.takeG rfl rfl rfl rfl (fun _ _ _ h => h) (Yl.move rfl) rfl (by kernel_rfl) (by kernel_rfl) ?_)) | (refine WT.k_load rfl ?_; (refine WT.kg rfl ?_; refine WT.takeG rfl rfl rfl rfl (fun _ _ _ h => h) (Yl.loadH Tryz.isAgg26 rfl (Has.old h.blk) rfl) rfl (by kernel_rfl) (by kernel_rfl) ?_)) | (refine WT.k_fld rfl ?_; (refine WT.kg rfl ?_; first | refine WT.takeG rfl rfl rfl rfl (fun _ _ _ h => h) (Yl.fldN0 (i := 1) (o := 1) (by kernel_rfl) rfl) rfl (by kernel_rfl) (by kernel_rfl) ?_ | refine WT.takeG rfl rfl rfl rfl (fun _ _ _ h => h) (Yl.fldN0 (i := 2) (o := 2) (by kernel_rfl) rfl) rfl (by kernel_rfl) (by kernel_rfl) ?_)) | (refine WT.k_nilc rfl ?_; (refine WT.kg rfl ?_; refine WT.takeG rfl rfl rfl rfl (fun _ _ _ h => h) (Yl.nilCheck rfl) rfl (by kernel_rfl) (by kernel_rfl) ?_)) | (refine WT.k_bin .gtr rfl ?_; (refine WT.kn rfl ?_; refine WT.take rfl rfl (fun _ _ _ h => h) (Yl.gtrF (m := (s.v.first : Int)) (n := (d2.d.length : Int)) rfl rfl (by omega)) rfl (by kernel_rfl) (by kernel_rfl) ?_)))); refine WT.nil ?_)
  refine WH.only (i := 13) (by kernel_rfl) rfl ?_
  refine WL.want rfl rfl rfl ?_
  refine WL.callV (g := 56) (v := .int .i64 (d2.d.length : Int)) Tryz.call56 rfl (fun w0 st => dlen_c w0 (hd.keep st.kept)) rfl ?_
  refine WL.nil (WN.nextH .nil ?_)
  (refine WH.order [18, 19, 20, 21] (by repeat (first | exact Part.nil | refine Part.cons zK ?_ | refine Part.free ?_)) (by kernel_rfl) ?_; (repeat (first | (refine WT.k_assign rfl ?_; (refine WT.kn rfl ?_; refine WT.take rfl rfl (fun _ _ _ h => h) (Yl.assign rfl) rfl (by kernel_rfl) (by kernel_rfl) ?_)) | (refine WT.k_pick rfl ?_; (refine WT.kn rfl ?_; refine WT.take rfl rfl (fun _ _ _ h => h) (Yl.pick_f rfl rfl rfl) rfl (by kernel_rfl) (by kernel_rfl) ?_)) | (refine WT.k_bin .sub rfl ?_; (refine WT.kg rfl ?_; refine WT.takeG rfl rfl rfl rfl (fun _ _ _ h => h) (Yl.sub64N rfl rfl (by omega) (by omega)) rfl (by kernel_rfl) (by kernel_rfl) ?_)) | (refine WT.k_bin .gtr rfl ?_; (refine WT.kg rfl ?_; refine WT.takeG rfl rfl rfl rfl (fun _ _ _ h => h) (Yl.gtrF (m := (s.v.n : Int)) (n := ((d2.d.length - s.v.first : Nat) : Int)) rfl rfl (by omega)) rfl (by kernel_rfl) (by kernel_rfl) ?_)))); refine WT.nil ?_)
  refine WH.done (by kernel_rfl) ?_
  (repeat (first | refine WN.then_normal ?_))
  refine WC.cond_false rfl rfl ?_
  (repeat (first | refine WL.step (Yl.move rfl) rfl ?_ | refine WL.step (Yl.loadAllO Tryz.isAgg79 Tryz.sizeOf79 rfl (Has.old h.blk) rfl) rfl ?_ | refine WL.step (Yl.nilCheck rfl) rfl ?_ | refine WC.seq ?_ | refine WC.region ?_ | refine WN.then_normal ?_ | refine WC.skip ?_ | refine WN.block_normal ?_))
  refine WL.allocA Tryz.zeroValue79 rfl fun b6 => ?_
  refine WL.storeWhole (T := 79) (k := 7) Tryz.sizeOf79 rfl rfl rfl .here rfl rfl ?_
  (repeat (first | refine WL.step (Yl.move rfl) rfl ?_ | refine WL.step (Yl.loadH Tryz.isAgg26 rfl (Has.old h.blk) rfl) rfl ?_ | (refine WL.k_fld ?_; refine WL.step (Yl.fldN0 (i := 6) (o := 6) (by kernel_rfl) rfl) rfl ?_) | refine WL.step (Yl.nilCheck rfl) rfl ?_ | refine WC.seq ?_ | refine WC.region ?_ | refine WL.nil ?_ | refine WN.then_normal ?_))
  refine WL.call (g := 69) Tryz.call69 rfl (fun w0 st => clmP_c p.bm s.M s.c w0 (h.keep st.kept).map) rfl fun v1 B1 hv1 => ?_
  obtain ⟨b2, rfl, rfl⟩ := hv1
  simp only [List.cons_append, List.nil_append]
  (repeat (first | (refine WL.k_fld ?_; refine WL.step (Yl.fldN0 (i := 0) (o := 0) (by kernel_rfl) rfl) rfl ?_)))
  refine WL.storeAt (T := 26) Tryz.sizeOf26 rfl rfl rfl (.there .here) rfl ?_
  (repeat (first | (refine WL.k_fld ?_; refine WL.step (Yl.fldN0 (i := 6) (o := 6) (by kernel_rfl) rfl) rfl ?_)))
  refine WL.storeAt (T := 77) Tryz.sizeOf77 rfl rfl rfl .here rfl ?_
  simp only [List.setIfInBounds_toArray, List.set_cons_succ, List.set_cons_zero]
  (repeat (first | refine WL.step (Yl.assign rfl) rfl ?_ | refine WC.seq ?_ | refine WC.region ?_ | refine WL.nil ?_ | refine WN.then_normal ?_ | refine WC.ret ?_))
  exact WN.ret2 rfl rfl rfl ⟨⟨b6, b2⟩, s, h.ok, rfl, rfl, rfl⟩ (Part.refl _)
end
end Go.Proofs.YtbkdjfgkebkknaaGreatDoor
namespace Go.Proofs.YtbkdjfgkebkknaaGreatDoor.Frm
set_option linter.unusedVariables false
set_option linter.unusedSimpArgs false
def padN (p : List UInt8) (k : Nat) : List UInt8 := (p ++ List.replicate (112 * k) 0).take (112 * k)
theorem padN_step (p : List UInt8) (k : Nat) : padN p (k + 1) = padN p k ++ ((p.drop (112 * k)).take 112 ++ List.replicate (112 - ((p.drop (112 * k)).take 112).length) 0) := by
  unfold padN
  apply List.ext_getElem?
  intro i
  have hl : ((p ++ List.replicate (112 * k) (0 : UInt8)).take (112 * k)).length = 112 * k := by rw [List.length_take, List.length_append, List.length_replicate]; omega
  by_cases h1 : i < 112 * k
  · rw [List.getElem?_append_left (by omega), List.getElem?_take, List.getElem?_take, if_pos (by omega), if_pos h1]
    by_cases h2 : i < p.length
    · rw [List.getElem?_append_left h2, List.getElem?_append_left h2]
    · rw [List.getElem?_append_right (by omega), List.getElem?_append_right (by omega), List.getElem?_replicate, List.getElem?_replicate, if_pos (by omega), if_pos (by omega)]
  · rw [List.getElem?_append_right (by omega), hl, List.getElem?_take]
    by_cases h2 : i < 112 * (k + 1)
    · rw [if_pos h2]
      by_cases h3 : i < p.length
      · rw [List.getElem?_append_left h3, List.getElem?_append_left (by rw [List.length_take, List.length_drop]; omega), List.getElem?_take, if_pos (by omega), List.getElem?_drop, show 112 * k + (i - 112 * k) = i by omega]
      · rw [List.getElem?_append_right (by omega), List.getElem?_append_right (by rw [List.length_take, List.length_drop]; omega), List.getElem?_replicate, List.getElem?_replicate, if_pos (by omega), if_pos (by rw [List.length_take, List.length_drop]; omega)]
    · rw [if_neg h2, List.getElem?_eq_none]
      simp only [List.length_append, List.length_replicate, List.length_take, List.length_drop]; omega
theorem padN_eq {p : List UInt8} {k : Nat} (h : p.length ≤ 112 * k) : padN p k = p ++ List.replicate (112 * k - p.length) 0 := by
  unfold padN
  rw [List.take_append, List.take_of_length_le h, List.take_replicate, Nat.min_eq_left (by omega)]
theorem chunks_drop (ep : Int) (p : List UInt8) (k : Nat) : ∀ (more : List UInt8) (j : Nat), j < k → ∃ r, (chunks ep p k ++ more).drop (128 * j) = stamp ep ((p.drop (112 * j)).take 112) ++ r := by
  induction k with
  | zero => intro more j h; omega
  | succ k ih =>
    intro more j h
    have hl := chunks_length ep p k
    rw [chunks_succ, List.append_assoc]
    by_cases e : j = k
    · subst e
      exact ⟨more, by rw [← hl, List.drop_left]⟩
    · exact ih _ j (by omega)
theorem gather_enc {ep : Int} (he : Ep ep) (p more : List UInt8) (S k : Nat) (h : k ≤ S) : gather (chunks ep p S ++ more) ep k = (0, padN p k) := by
  induction k with
  | zero => rfl
  | succ k ih =>
    have ih := ih (by omega)
    obtain ⟨r, hr⟩ := chunks_drop ep p S more k (by omega)
    have hu := unst_stamp he (d := (p.drop (112 * k)).take 112) (by rw [List.length_take]; omega) r
    rw [← hr] at hu
    rw [gather_step (by rw [ih]) (by rw [hu]), ih, hu, padN_step]
theorem opened_seal (l : List UInt8) : Crc.opened (Crc.sealed l) = (0, l) := by
  have h1 := sealed_length l
  have h2 : (Crc.sealed l).take ((Crc.sealed l).length - 4) = l := by
    rw [h1, Nat.add_sub_cancel]; unfold Crc.sealed; rw [List.take_left]
  unfold Crc.opened
  rw [h2, if_neg (by omega), if_pos rfl]
theorem cut5 {A B C E R : List UInt8} (ha : A.length = 1) (hb : B.length = 4) (hc : C.length = 2) (he : E.length = 4) :
    (A ++ B ++ C ++ E ++ R).take 1 = A ∧ ((A ++ B ++ C ++ E ++ R).drop 1).take 4 = B ∧ ((A ++ B ++ C ++ E ++ R).drop 5).take 2 = C ∧ ((A ++ B ++ C ++ E ++ R).drop 7).take 4 = E ∧ (A ++ B ++ C ++ E ++ R).take 11 = A ++ B ++ C ++ E := by
  have h5 : (A ++ B).length = 5 := by rw [List.length_append]; omega
  have h7 : (A ++ B ++ C).length = 7 := by rw [List.length_append]; omega
  have h11 : (A ++ B ++ C ++ E).length = 11 := by rw [List.length_append]; omega
  have e1 : A ++ B ++ C ++ E ++ R = A ++ (B ++ (C ++ (E ++ R))) := by simp only [List.append_assoc]
  have e5 : A ++ B ++ C ++ E ++ R = (A ++ B) ++ (C ++ (E ++ R)) := by simp only [List.append_assoc]
  have e7 : A ++ B ++ C ++ E ++ R = (A ++ B ++ C) ++ (E ++ R) := by simp only [List.append_assoc]
  refine ⟨?_, ?_, ?_, ?_, ?_⟩
  · rw [e1, ← ha, List.take_left]
  · rw [e1, ← ha, List.drop_left, ← hb, List.take_left]
  · rw [e5, ← h5, List.drop_left, ← hc, List.take_left]
  · rw [e7, ← h7, List.drop_left, ← he, List.take_left]
  · rw [← h11, List.take_left]
theorem pow1 : (256 : Nat) ^ 1 = 256 := rfl
theorem pow2 : (256 : Nat) ^ 2 = 65536 := rfl
theorem pow4 : (256 : Nat) ^ 4 = 4294967296 := rfl
theorem enc_dec {kd ep tx ix no : Int} {d : List UInt8} (h : Ok kd ep tx ix no d.length) (more : List UInt8) :
    dec ((enc kd ep tx ix no d).2 ++ more) ep = ⟨0, (secs kd).1, kd, ep, tx, ix, no, d⟩ := by
  unfold enc
  rw [if_pos h]
  obtain ⟨he, ht1, ht2, hk⟩ := h
  obtain ⟨K, rfl⟩ : ∃ K : Nat, kd = (K : Int) := ⟨kd.toNat, by omega⟩
  obtain ⟨T, rfl⟩ : ∃ K : Nat, tx = (K : Int) := ⟨tx.toNat, by omega⟩
  obtain ⟨I, rfl⟩ : ∃ K : Nat, ix = (K : Int) := ⟨ix.toNat, by omega⟩
  obtain ⟨N, rfl⟩ : ∃ K : Nat, no = (K : Int) := ⟨no.toNat, by omega⟩
  simp only [Int.toNat_natCast]
  have hK : K = 1 ∨ K = 2 := by omega
  have hL : d.length = dl K := by
    rcases hK with rfl | rfl
    · show _ = 512; omega
    · show _ = 0; omega
  obtain ⟨s1, s2, s3⟩ := secs_of hK
  have hpl := payload_length K T I N d
  have hPe : payload K T I N d = Big.be 1 K ++ Big.be 4 T ++ Big.be 2 I ++ Big.be 4 N ++ (d ++ Crc.be4 (Crc.sum (head K T I N ++ d))) := by
    unfold payload Crc.sealed head; simp only [List.append_assoc]
  have hPo : Crc.opened (payload K T I N d) = (0, head K T I N ++ d) := opened_seal _
  have hhl := head_length K T I N
  have hc5 := fun R => cut5 (R := R) (Big.be_length 1 K) (Big.be_length 4 T) (Big.be_length 2 I) (Big.be_length 4 N)
  have vK := Big.val_be 1 K (by rw [pow1]; omega)
  have vT := Big.val_be 4 T (by rw [pow4]; omega)
  have vI := Big.val_be 2 I (by rw [pow2]; omega)
  have vN := Big.val_be 4 N (by rw [pow4]; omega)
  generalize payload K T I N d = P at *
  generalize hSe : (secs (K : Int)).1 = S at *
  -- the first sector
  obtain ⟨r, hr⟩ := chunks_drop ep P S more 0 (by omega)
  simp only [Nat.mul_zero, List.drop_zero] at hr
  have hu := unst_stamp he (d := P.take 112) (by rw [List.length_take]; omega) r
  rw [← hr] at hu
  have hg := gather_enc he P more S S (Nat.le_refl _)
  have hD : padN P S = P ++ List.replicate (112 * S - P.length) 0 := padN_eq (by omega)
  have hkind : kindOf (P.take 112 ++ List.replicate (112 - (P.take 112).length) 0) = K := by
    have h1 : (P.take 112 ++ List.replicate (112 - (P.take 112).length) 0).take 1 = Big.be 1 K := by
      rw [List.take_append_of_le_length (by rw [List.length_take]; omega), List.take_take, Nat.min_eq_left (by decide), hPe, (hc5 _).1]
    have h2 : ∀ (l : List UInt8), l.take 1 = Big.be 1 K → (l.getD 0 0).toNat = K := fun l h => by
      have h3 : Big.val 0 (l.take 1) = K := by rw [h, vK]
      cases l with
      | nil =>
        have := congrArg List.length h
        rw [Big.be_length] at this; cases this
      | cons c l => simpa [Big.val] using h3
    exact h2 _ h1
  unfold dec
  rw [hu, if_neg (fun h => h rfl)]
  show (if ¬ (kindOf _ = 1 ∨ kindOf _ = 2) then _ else _) = _
  rw [hkind, if_neg (not_not_intro hK), hSe, hg, if_neg (fun h => h rfl)]
  show fin K ep (padN P S) = _
  rw [hD]
  have hPl : P.length = 15 + dl K := by omega
  have ht : (P ++ List.replicate (112 * S - P.length) (0 : UInt8)).take (15 + dl K) = P := by rw [← hPl, List.take_left]
  have hdz : (P ++ List.replicate (112 * S - P.length) (0 : UInt8)).drop (15 + dl K) = List.replicate (112 * S - P.length) 0 := by
    have e : ∀ n, (P ++ List.replicate n (0 : UInt8)).drop P.length = List.replicate n 0 := fun n => List.drop_left
    rw [← hPl]; exact e _
  have hc := hc5 ((d ++ Crc.be4 (Crc.sum (head K T I N ++ d))) ++ List.replicate (112 * S - P.length) 0)
  rw [← List.append_assoc (Big.be 1 K ++ Big.be 4 T ++ Big.be 2 I ++ Big.be 4 N), ← hPe] at hc
  obtain ⟨c1, c2, c3, c4, _⟩ := hc
  have e1 : vk (P ++ List.replicate (112 * S - P.length) 0) = K := by unfold vk; rw [c1, vK]
  have e2 : vt (P ++ List.replicate (112 * S - P.length) 0) = T := by unfold vt; rw [c2, vT]
  have e3 : vi (P ++ List.replicate (112 * S - P.length) 0) = I := by unfold vi; rw [c3, vI]
  have e4 : vn (P ++ List.replicate (112 * S - P.length) 0) = N := by unfold vn; rw [c4, vN]
  have e5 : (head K T I N ++ d).drop 11 = d := by rw [← hhl, List.drop_left]
  unfold fin
  rw [ht, hPo, e1, e2, e3, e4, hdz]
  rw [if_neg (fun h => h rfl)]
  simp only [e5, hSe]
  rw [if_pos]
  refine ⟨fun c hc => (List.mem_replicate.1 hc).2, ?_⟩
  unfold check
  rw [if_pos]
  exact ⟨he, ht1, ht2, hk⟩
end Go.Proofs.YtbkdjfgkebkknaaGreatDoor.Frm
namespace Go.Proofs.YtbkdjfgkebkknaaGreatDoor.Crc
set_option linter.unusedVariables false
set_option linter.unusedSimpArgs false
structure Flip (b c : List UInt8) (at_ i m : Nat) : Prop where
  len : c.length = b.length
  lt : m < 2 ^ i
  le : le c = le b ^^^ m * 2 ^ at_
theorem Flip.start (b : List UInt8) (k : Nat) : Flip b b k 0 0 := ⟨rfl, by decide, by simp⟩
theorem Flip.keep {b c : List UInt8} {k i m : Nat} (h : Flip b c k i m) : Flip b c k (i + 1) m := ⟨h.len, Nat.lt_of_lt_of_le h.lt (Nat.pow_le_pow_right (by decide) (by omega)), h.le⟩
theorem mul_two_xor (a b k : Nat) : (a ^^^ b) * 2 ^ k = a * 2 ^ k ^^^ b * 2 ^ k := by
  apply Nat.eq_of_testBit_eq
  intro i
  simp only [Nat.testBit_xor, Nat.testBit_mul_two_pow]
  by_cases h : k ≤ i <;> simp [h]
theorem Flip.flip {b c : List UInt8} {k i m : Nat} (h : Flip b c k i m) (hk : k + i < 8 * b.length) :
    Flip b (c.set ((k + i) / 8) (c.getD ((k + i) / 8) 0 ^^^ UInt8.ofNat (2 ^ ((k + i) % 8)))) k (i + 1) (m ^^^ 2 ^ i) ∧ m ^^^ 2 ^ i ≠ 0 := by
  refine ⟨⟨by simp [h.len], Nat.xor_lt_two_pow (Nat.lt_of_lt_of_le h.lt (Nat.pow_le_pow_right (by decide) (by omega))) (Nat.pow_lt_pow_right (by decide) (by omega)), ?_⟩, fun e => ?_⟩
  · rw [le_set c _ (by rw [h.len]; omega) _ (by omega), h.le, mul_two_xor, Nat.xor_assoc]
    congr 2
    rw [← Nat.pow_add]
    congr 1
    omega
  · have := xor_zero_eq e
    have := h.lt
    omega
theorem Flip.sum {b c : List UInt8} {k m : Nat} (h : Flip b c k 32 m) (hk : k ≤ 8 * b.length) : Crc.sum b ≠ Crc.sum c ↔ m ≠ 0 := sum_changes h.len hk h.lt h.le

theorem le_append (a b : List UInt8) : Crc.le (a ++ b) = Crc.le a + 2 ^ (8 * a.length) * Crc.le b := by
  induction a with
  | nil => simp [Crc.le]
  | cons x a ih =>
    simp only [List.cons_append, Crc.le, ih, List.length_cons]
    rw [show 8 * (a.length + 1) = 8 + 8 * a.length by omega, Nat.pow_add, show (2 : Nat) ^ 8 = 256 from rfl, Nat.mul_add, ← Nat.mul_assoc, Nat.add_assoc]
theorem le_inj {a b : List UInt8} (hl : a.length = b.length) (h : Crc.le a = Crc.le b) : a = b := by
  induction a generalizing b with
  | nil => cases b with
    | nil => rfl
    | cons y b => simp at hl
  | cons x a ih =>
    cases b with
    | nil => simp at hl
    | cons y b =>
      simp only [Crc.le] at h
      have hx := byte_lt x
      have hy := byte_lt y
      have e1 : x = y := UInt8.toNat.inj (by omega)
      have e2 : Crc.le a = Crc.le b := by omega
      rw [e1, ih (by simpa using hl) e2]
theorem le_take (l : List UInt8) {n : Nat} (hn : n ≤ l.length) : Crc.le (l.take n) = Crc.le l % 2 ^ (8 * n) := by
  have h := le_append (l.take n) (l.drop n)
  rw [List.take_append_drop] at h
  have hl : (l.take n).length = n := by simp [hn]
  rw [hl] at h
  have := le_lt (l.take n)
  rw [hl] at this
  rw [h, Nat.add_mul_mod_self_left, Nat.mod_eq_of_lt this]
theorem le_drop (l : List UInt8) {n : Nat} (hn : n ≤ l.length) : Crc.le (l.drop n) = Crc.le l / 2 ^ (8 * n) := by
  have h := le_append (l.take n) (l.drop n)
  rw [List.take_append_drop] at h
  have hl : (l.take n).length = n := by simp [hn]
  rw [hl] at h
  have := le_lt (l.take n)
  rw [hl] at this
  rw [h, Nat.add_comm, Nat.mul_add_div (Nat.two_pow_pos _), Nat.div_eq_of_lt this, Nat.add_zero]
theorem be4_inj {a b : Nat} (ha : a < 4294967296) (hb : b < 4294967296) (h : be4 a = be4 b) : a = b := by
  simp only [be4, List.cons.injEq, and_true] at h
  obtain ⟨h1, h2, h3, h4⟩ := h
  have e : ∀ {x y : Nat}, UInt8.ofNat x = UInt8.ofNat y → x % 256 = y % 256 := fun h => by
    have := congrArg UInt8.toNat h
    simpa [UInt8.toNat_ofNat'] using this
  have := e h1
  have := e h2
  have := e h3
  have := e h4
  omega
structure FlipIn (b s : List UInt8) (at_ i m : Nat) : Prop where
  flip : Flip (sealed b) s at_ i m
  data : at_ < 8 * b.length → m * 2 ^ at_ < 2 ^ (8 * b.length)
theorem FlipIn.start (b : List UInt8) (k : Nat) : FlipIn b (sealed b) k 0 0 := ⟨.start _ _, fun _ => by rw [Nat.zero_mul]; exact Nat.two_pow_pos _⟩
theorem FlipIn.keep {b c : List UInt8} {k i m : Nat} (h : FlipIn b c k i m) : FlipIn b c k (i + 1) m := ⟨h.flip.keep, h.data⟩
theorem FlipIn.opened {b s : List UInt8} {k m : Nat} (h : FlipIn b s k 32 m) (hk : k ≤ 8 * (sealed b).length) : opened s = if m = 0 then (0, b) else (12, []) := by
  have hl := h.flip.len
  have hsl := sealed_length b
  unfold Crc.opened
  rw [if_neg (by omega)]
  have hbt : (sealed b).take b.length = b := by unfold sealed; simp
  have hbd : (sealed b).drop b.length = be4 (sum b) := by unfold sealed; simp
  rw [show s.length - 4 = b.length by omega]
  by_cases hm : m = 0
  · have e : s = sealed b := le_inj hl (by rw [h.flip.le, hm, Nat.zero_mul, Nat.xor_zero])
    rw [if_pos hm, e, hbt, if_pos rfl]
  · rw [if_neg hm, if_neg]
    intro e
    have ht := le_take s (n := b.length) (by omega)
    have ht2 := le_take (sealed b) (n := b.length) (by omega)
    have hd := le_drop s (n := b.length) (by omega)
    have hd2 := le_drop (sealed b) (n := b.length) (by omega)
    rw [hbt] at ht2
    rw [hbd] at hd2
    rw [h.flip.le] at ht hd
    by_cases hk8 : k < 8 * b.length
    · have hD := h.data hk8
      have hdrop : s.drop b.length = be4 (sum b) := by
        refine le_inj (by simp [be4_length]; omega) ?_
        rw [hd, hd2, Nat.xor_div_two_pow, Nat.div_eq_of_lt hD, Nat.xor_zero]
      have htake : Crc.le (s.take b.length) = Crc.le b ^^^ m * 2 ^ k := by
        rw [ht, Nat.xor_mod_two_pow, ← ht2, Nat.mod_eq_of_lt hD]
      have hne := (sum_changes (b := b) (c := s.take b.length) (by simp; omega) (by omega) h.flip.lt htake).2 hm
      have e2 := congrArg (List.drop b.length) e
      rw [hdrop] at e2
      unfold sealed at e2
      rw [List.drop_append_of_le_length (by simp; omega), List.drop_eq_nil_of_le (by simp; omega), List.nil_append] at e2
      exact hne (be4_inj (sum_lt _) (sum_lt _) e2).symm
    · have htake : s.take b.length = b := by
        refine le_inj (by simp; omega) ?_
        rw [ht, Nat.xor_mod_two_pow, ← ht2]
        have : m * 2 ^ k % 2 ^ (8 * b.length) = 0 := by
          rw [show k = 8 * b.length + (k - 8 * b.length) by omega, Nat.pow_add, Nat.mul_comm, Nat.mul_assoc]
          exact Nat.mul_mod_right _ _
        rw [this, Nat.xor_zero]
      rw [htake] at e
      have h1 := h.flip.le
      rw [← e] at h1
      have h2 : m * 2 ^ k = 0 := by
        have := congrArg (Crc.le (sealed b) ^^^ ·) h1
        simp only [← Nat.xor_assoc, Nat.xor_self, Nat.zero_xor] at this
        exact this.symm
      rcases Nat.mul_eq_zero.1 h2 with h3 | h3
      · exact hm h3
      · have := Nat.two_pow_pos k; omega
end Go.Proofs.YtbkdjfgkebkknaaGreatDoor.Crc
namespace Go.Proofs.YtbkdjfgkebkknaaGreatDoor.Frm
set_option linter.unusedVariables false
set_option linter.unusedSimpArgs false
def chg (l : List UInt8) (k : Nat) (h : UInt8) : List UInt8 := l.set k (l.getD k 0 ^^^ h)
theorem le_set (l : List UInt8) (k : Nat) (h : UInt8) (hk : k < l.length) : Crc.le (chg l k h) = Crc.le l ^^^ h.toNat * 2 ^ (8 * k) := by
  induction l generalizing k with
  | nil => cases hk
  | cons c l ih =>
    cases k with
    | zero =>
      have e : chg (c :: l) 0 h = (c ^^^ h) :: l := rfl
      rw [e]
      have h1 : ∀ d : UInt8, Crc.le (d :: l) = d.toNat + 256 * Crc.le l := fun d => rfl
      rw [h1, h1, UInt8.toNat_xor, Nat.mul_zero, Nat.pow_zero, Nat.mul_one]
      have hc := c.toNat_lt
      have hh := h.toNat_lt
      have hx : c.toNat ^^^ h.toNat < 2 ^ 8 := Nat.xor_lt_two_pow hc hh
      apply Nat.eq_of_testBit_eq
      intro i
      have e1 : ∀ m : Nat, m < 2 ^ 8 → m + 256 * Crc.le l = 2 ^ 8 * Crc.le l + m := fun m _ => by omega
      rw [e1 _ hx, e1 _ hc, Nat.testBit_xor, Nat.testBit_two_pow_mul_add _ hx, Nat.testBit_two_pow_mul_add _ hc, Nat.testBit_xor]
      split
      · rfl
      · rw [Nat.testBit_lt_two_pow (Nat.lt_of_lt_of_le hh (Nat.pow_le_pow_right (by decide) (by omega))), Bool.xor_false]
    | succ k =>
      have e : chg (c :: l) (k + 1) h = c :: chg l k h := rfl
      rw [e]
      have h1 : ∀ m : List UInt8, Crc.le (c :: m) = c.toNat + 256 * Crc.le m := fun m => rfl
      rw [h1, h1, ih k (by simpa using hk)]
      have hc := c.toNat_lt
      apply Nat.eq_of_testBit_eq
      intro i
      have e1 : ∀ m : Nat, c.toNat + 256 * m = 2 ^ 8 * m + c.toNat := fun m => by omega
      have e2 : h.toNat * 2 ^ (8 * (k + 1)) = 2 ^ 8 * (h.toNat * 2 ^ (8 * k)) := by rw [show 8 * (k + 1) = 8 + 8 * k by omega, Nat.pow_add, ← Nat.mul_assoc, Nat.mul_comm h.toNat, Nat.mul_assoc]
      rw [e1, e1, e2, Nat.testBit_xor, Nat.testBit_two_pow_mul_add _ hc, Nat.testBit_two_pow_mul_add _ hc, Nat.testBit_two_pow_mul]
      split
      · rename_i hi; simp [Nat.not_le.2 hi]
      · rename_i hi
        rw [Nat.testBit_xor, decide_eq_true (Nat.le_of_not_lt hi), Bool.true_and]
end Go.Proofs.YtbkdjfgkebkknaaGreatDoor.Frm
namespace Go.Proofs.YtbkdjfgkebkknaaGreatDoor.Frm
set_option linter.unusedVariables false
set_option linter.unusedSimpArgs false
theorem rep_ne {n : Int} (hn : Ep n) (c : UInt8) : List.replicate 8 c ≠ Big.be 8 n.toNat := fun e => by
  have h0 : (Big.be 8 n.toNat).getD 0 0 = UInt8.ofNat (n.toNat / 256 ^ (8 - 1 - 0)) := Big.be_get _ _ _ (by decide)
  have hz : n.toNat / 256 ^ (8 - 1 - 0) = 0 := Nat.div_eq_of_lt (by have : (256 : Nat) ^ (8 - 1 - 0) = 72057594037927936 := by decide
                                                                    omega)
  rw [hz, ← e] at h0
  have hc : c = 0 := h0
  subst hc
  have h1 := Big.val_be 8 n.toNat (ep_lt hn)
  rw [← e] at h1
  have h2 : Big.val 0 (List.replicate 8 (0 : UInt8)) = 0 := by decide
  omega
end Go.Proofs.YtbkdjfgkebkknaaGreatDoor.Frm
