import Derived.Test.YtmmpngigaodcgaaGreatRowDrivePlaysMg11
import Derived.Test.YtmmpngigaodcgaaGreatRowDrivePlaysMg10
/- The document's bank: read. -/
namespace Go.Proofs.YtmmpngigaodcgaaGreat
set_option linter.unusedVariables false
set_option linter.unusedSimpArgs false
open Go Go.RowKit
set_option maxRecDepth 100000
set_option maxHeartbeats 8000000
attribute [local irreducible] WL WC WN Yl WH WQ WT WE WU WG WV
section
variable {p : RP} {os fs : List Sl} {Is : List Bool} {d : List (List UInt8)} {F : Nat → Option (List UInt8)}
theorem rread_c (s : Int) (w : World) (h : RbAt w p os fs Is d F) : Calls Tryz.prog 42 #[bptr p.br, .int .i64 s] w (Gives (ROut (readR d F s)) w) := by
  have hol := h.ok.k.ol
  have hfl := h.ok.k.fl
  have hil := h.ok.il
  refine enter (args := [.pointer (some ⟨p.br, 0, none⟩), _]) Tryz.func42 Tryz.ntmps42 rfl rfl ?_
  rcases bchk_cases d.length s with ⟨hc, _⟩ | ⟨hc, k, rfl, hk⟩
  · rw [readR, if_neg (by rw [hc]; decide)]
    (repeat (first | (refine WL.k_move ?_; first | refine WL.step (Yl.move rfl) rfl ?_) | (refine WL.k_assign ?_; first | refine WL.step (Yl.assign rfl) rfl ?_) | (refine WL.k_call 58 ?_; first | refine WL.callV (g := 58) (v := .int .i64 3) Tryz.call58 rfl (fun w st => by have := rcheck_c s w (h.keep st.kept); rw [hc] at this; exact this) rfl ?_) | (refine WL.k_bin .neq ?_; first | refine WL.step (Yl.neqT rfl rfl (by decide)) rfl ?_ | refine WL.step (Yl.strNeq rfl rfl) rfl ?_ | refine WL.step (Yl.neq rfl rfl) rfl ?_) | refine WC.seq ?_ | refine WC.region ?_ | refine WL.nil ?_ | refine WN.then_normal ?_ | refine WC.skip ?_ | refine WC.ret ?_ | refine WN.then_ret ?_))
    refine WC.cond_true rfl rfl ?_
    (repeat (first | (refine WL.k_move ?_; first | refine WL.step (Yl.move rfl) rfl ?_) | (refine WL.k_assign ?_; first | refine WL.step (Yl.assign rfl) rfl ?_) | (refine WL.k_bin .neq ?_; first | refine WL.step (Yl.strNeq rfl rfl) rfl ?_ | refine WL.step (Yl.neq rfl rfl) rfl ?_) | refine WC.seq ?_ | refine WC.region ?_ | refine WL.nil ?_ | refine WN.then_normal ?_ | refine WC.skip ?_ | refine WC.ret ?_ | refine WN.then_ret ?_))
    exact WN.ret2 rfl rfl rfl ⟨none, 0, Nat.le_refl _, rfl, rfl⟩ (.free .nil)
  · rw [readR, if_pos hc, Int.toNat_natCast]
    have hoi := svs_at (L := os) (i := k) (by omega)
    have hfi := svs_at (L := fs) (i := k) (by omega)
    have hii := bls_at (l := Is) (i := k) (by omega)
    have hmf : fs.getD k Sl.nil ∈ os ++ fs := List.mem_append_right _ (sl_mem (by omega))
    have hmo : os.getD k Sl.nil ∈ os ++ fs := List.mem_append_left _ (sl_mem (by omega))
    have hid := h.ok.id k hk
    have hod := h.ok.k.od k hk
    have hfd := h.ok.k.fd k hk
    have hrf := h.rd _ hmf
    have hro := h.rd _ hmo
    have hd128 : (d.getD k []).length = 128 := by
      have h9 : d[k]? = some (d.getD k []) := by simp [List.getD, hk]
      exact h.wf.len _ (List.mem_of_getElem? h9)
    generalize fs.getD k Sl.nil = xf at *
    generalize os.getD k Sl.nil = xo at *
    obtain ⟨fa, fc, fl⟩ := xf
    obtain ⟨oa, oc, ol⟩ := xo
    simp only at hod hrf hro
    subst hod
    simp only [Sl.v] at hfi hoi
    rw [hd128] at hoi
    rw [hid] at hii
    rcases hfd with ⟨e1, e2⟩ | e1
    · rw [e1] at hii ⊢
      (repeat (first | (refine WL.k_move ?_; first | refine WL.step (Yl.move rfl) rfl ?_) | (refine WL.k_assign ?_; first | refine WL.step (Yl.assign rfl) rfl ?_) | (refine WL.k_call 58 ?_; first | refine WL.callV (g := 58) (v := .int .i64 0) Tryz.call58 rfl (fun w st => by have := rcheck_c (k : Int) w (h.keep st.kept); rw [hc] at this; exact this) rfl ?_) | (refine WL.k_bin .neq ?_; first | refine WL.step (Yl.neqF rfl rfl rfl) rfl ?_ | refine WL.step (Yl.strNeq rfl rfl) rfl ?_ | refine WL.step (Yl.neq rfl rfl) rfl ?_) | refine WC.seq ?_ | refine WC.region ?_ | refine WL.nil ?_ | refine WN.then_normal ?_ | refine WC.skip ?_ | refine WC.ret ?_ | refine WN.then_ret ?_))
      refine WC.cond_false rfl rfl ?_
      (repeat (first | (refine WL.k_move ?_; first | refine WL.step (Yl.move rfl) rfl ?_) | (refine WL.k_assign ?_; first | refine WL.step (Yl.assign rfl) rfl ?_) | (refine WL.k_load ?_; first | refine WL.step (Yl.loadH Tryz.isAgg77 rfl (Has.old h.blk) rfl) rfl ?_ | refine WL.step (Yl.loadH Tryz.isAgg78 rfl (Has.old h.blk) rfl) rfl ?_ | refine WL.step (Yl.load (T := 4) (a := p.ai) (i := k) Tryz.isAgg4 rfl (Rd.old h.ri) hii) rfl ?_) | (refine WL.k_fld ?_; first | refine WL.step (Yl.fld0 (t := 80) Tryz.underlying80 fl80 rfl rfl) rfl ?_) | (refine WL.k_nilc ?_; first | refine WL.step (Yl.nilCheck rfl) rfl ?_) | (refine WL.k_idxa ?_; first | refine WL.step (Yl.indexAddr1 (t := 78) (a := p.ai) (j := k) (n := Is.length) Tryz.underlying78 Tryz.sizeOf4 rfl rfl (Rd.old h.ri) (ne_nil_of hii) (by omega)) rfl ?_) | (refine WL.k_bin .neq ?_; first | refine WL.step (Yl.strNeq rfl rfl) rfl ?_ | refine WL.step (Yl.neq rfl rfl) rfl ?_) | refine WC.seq ?_ | refine WC.region ?_ | refine WL.nil ?_ | refine WN.then_normal ?_ | refine WC.skip ?_ | refine WC.ret ?_ | refine WN.then_ret ?_))
      refine WC.cond_false rfl rfl ?_
      (repeat (first | (refine WL.k_move ?_; first | refine WL.step (Yl.move rfl) rfl ?_) | (refine WL.k_assign ?_; first | refine WL.step (Yl.assign rfl) rfl ?_) | (refine WL.k_bin .neq ?_; first | refine WL.step (Yl.strNeq rfl rfl) rfl ?_ | refine WL.step (Yl.neq rfl rfl) rfl ?_) | refine WC.seq ?_ | refine WC.region ?_ | refine WL.nil ?_ | refine WN.then_normal ?_ | refine WC.skip ?_ | refine WC.ret ?_ | refine WN.then_ret ?_))
      refine WL.lit (t := 38) (vs := []) Tryz.underlying38 elemU8 rfl rfl rfl (fun u hu => by cases hu) rfl fun bl => ?_
      (repeat (first | (refine WL.k_move ?_; first | refine WL.step (Yl.move rfl) rfl ?_) | (refine WL.k_assign ?_; first | refine WL.step (Yl.assign rfl) rfl ?_) | (refine WL.k_load ?_; first | refine WL.step (Yl.loadH Tryz.isAgg77 rfl (Has.old h.blk) rfl) rfl ?_ | refine WL.step (Yl.loadH Tryz.isAgg78 rfl (Has.old h.blk) rfl) rfl ?_ | refine WL.step (Yl.load (T := 38) (a := p.ao) (i := k) Tryz.isAgg38 rfl (Rd.old h.ro) hoi) rfl ?_) | (refine WL.k_fld ?_; first | refine WL.step (Yl.fld0 (t := 80) Tryz.underlying80 fl80 rfl rfl) rfl ?_) | (refine WL.k_nilc ?_; first | refine WL.step (Yl.nilCheck rfl) rfl ?_) | (refine WL.k_idxa ?_; first | refine WL.step (Yl.indexAddr1 (t := 77) (a := p.ao) (j := k) (n := os.length) Tryz.underlying77 Tryz.sizeOf38 rfl rfl (Rd.old h.ro) (ne_nil_of hoi) (by omega)) rfl ?_) | (refine WL.k_bin .neq ?_; first | refine WL.step (Yl.strNeq rfl rfl) rfl ?_ | refine WL.step (Yl.neq rfl rfl) rfl ?_) | refine WC.seq ?_ | refine WC.region ?_ | refine WL.nil ?_ | refine WN.then_normal ?_ | refine WC.skip ?_ | refine WC.ret ?_ | refine WN.then_ret ?_))
      refine WL.appendRow (t := 38) (n := 0) (m := 128) (olds := []) (news := bs (d.getD k [])) Tryz.underlying38 elemU8 rfl rfl (by repeat (first | exact Pick.here | apply Pick.there)) rfl (Nat.le_refl _) (Rd.old hro) (by rw [bs_length, hd128]) (bs_one _) (by omega) (by simp only [maxLen]; omega) rfl fun q hq => ?_
      simp only [Nat.zero_add, List.nil_append] at hq ⊢
      (repeat (first | (refine WL.k_move ?_; first | refine WL.step (Yl.move rfl) rfl ?_) | (refine WL.k_assign ?_; first | refine WL.step (Yl.assign rfl) rfl ?_) | (refine WL.k_bin .neq ?_; first | refine WL.step (Yl.strNeq rfl rfl) rfl ?_ | refine WL.step (Yl.neq rfl rfl) rfl ?_) | refine WC.seq ?_ | refine WC.region ?_ | refine WL.nil ?_ | refine WN.then_normal ?_ | refine WC.skip ?_ | refine WC.ret ?_ | refine WN.then_ret ?_))
      exact WN.ret2 rfl rfl rfl ⟨q.1, q.2, by simp only [Option.getD_none, Option.getD_some, hd128]; exact hq, by simp only [Option.getD_none, Option.getD_some, hd128]; rfl, by simp only [Option.getD_none, Option.getD_some]⟩ (.cons .here .nil)
    · rw [e1] at hii ⊢
      have hful : fl.length = 128 := h.wf.val k _ e1
      rw [hful] at hfi
      (repeat (first | (refine WL.k_move ?_; first | refine WL.step (Yl.move rfl) rfl ?_) | (refine WL.k_assign ?_; first | refine WL.step (Yl.assign rfl) rfl ?_) | (refine WL.k_call 58 ?_; first | refine WL.callV (g := 58) (v := .int .i64 0) Tryz.call58 rfl (fun w st => by have := rcheck_c (k : Int) w (h.keep st.kept); rw [hc] at this; exact this) rfl ?_) | (refine WL.k_bin .neq ?_; first | refine WL.step (Yl.neqF rfl rfl rfl) rfl ?_ | refine WL.step (Yl.strNeq rfl rfl) rfl ?_ | refine WL.step (Yl.neq rfl rfl) rfl ?_) | refine WC.seq ?_ | refine WC.region ?_ | refine WL.nil ?_ | refine WN.then_normal ?_ | refine WC.skip ?_ | refine WC.ret ?_ | refine WN.then_ret ?_))
      refine WC.cond_false rfl rfl ?_
      (repeat (first | (refine WL.k_move ?_; first | refine WL.step (Yl.move rfl) rfl ?_) | (refine WL.k_assign ?_; first | refine WL.step (Yl.assign rfl) rfl ?_) | (refine WL.k_load ?_; first | refine WL.step (Yl.loadH Tryz.isAgg77 rfl (Has.old h.blk) rfl) rfl ?_ | refine WL.step (Yl.loadH Tryz.isAgg78 rfl (Has.old h.blk) rfl) rfl ?_ | refine WL.step (Yl.load (T := 4) (a := p.ai) (i := k) Tryz.isAgg4 rfl (Rd.old h.ri) hii) rfl ?_) | (refine WL.k_fld ?_; first | refine WL.step (Yl.fld0 (t := 80) Tryz.underlying80 fl80 rfl rfl) rfl ?_) | (refine WL.k_nilc ?_; first | refine WL.step (Yl.nilCheck rfl) rfl ?_) | (refine WL.k_idxa ?_; first | refine WL.step (Yl.indexAddr1 (t := 78) (a := p.ai) (j := k) (n := Is.length) Tryz.underlying78 Tryz.sizeOf4 rfl rfl (Rd.old h.ri) (ne_nil_of hii) (by omega)) rfl ?_) | (refine WL.k_bin .neq ?_; first | refine WL.step (Yl.strNeq rfl rfl) rfl ?_ | refine WL.step (Yl.neq rfl rfl) rfl ?_) | refine WC.seq ?_ | refine WC.region ?_ | refine WL.nil ?_ | refine WN.then_normal ?_ | refine WC.skip ?_ | refine WC.ret ?_ | refine WN.then_ret ?_))
      refine WC.cond_true rfl rfl ?_
      (repeat (first | (refine WL.k_move ?_; first | refine WL.step (Yl.move rfl) rfl ?_) | (refine WL.k_assign ?_; first | refine WL.step (Yl.assign rfl) rfl ?_) | (refine WL.k_bin .neq ?_; first | refine WL.step (Yl.strNeq rfl rfl) rfl ?_ | refine WL.step (Yl.neq rfl rfl) rfl ?_) | refine WC.seq ?_ | refine WC.region ?_ | refine WL.nil ?_ | refine WN.then_normal ?_ | refine WC.skip ?_ | refine WC.ret ?_ | refine WN.then_ret ?_))
      refine WL.lit (t := 38) (vs := []) Tryz.underlying38 elemU8 rfl rfl rfl (fun u hu => by cases hu) rfl fun bl => ?_
      (repeat (first | (refine WL.k_move ?_; first | refine WL.step (Yl.move rfl) rfl ?_) | (refine WL.k_assign ?_; first | refine WL.step (Yl.assign rfl) rfl ?_) | (refine WL.k_load ?_; first | refine WL.step (Yl.loadH Tryz.isAgg77 rfl (Has.old h.blk) rfl) rfl ?_ | refine WL.step (Yl.loadH Tryz.isAgg78 rfl (Has.old h.blk) rfl) rfl ?_ | refine WL.step (Yl.load (T := 38) (a := p.af) (i := k) Tryz.isAgg38 rfl (Rd.old h.rf) hfi) rfl ?_) | (refine WL.k_fld ?_; first | refine WL.step (Yl.fld0 (t := 80) Tryz.underlying80 fl80 rfl rfl) rfl ?_) | (refine WL.k_nilc ?_; first | refine WL.step (Yl.nilCheck rfl) rfl ?_) | (refine WL.k_idxa ?_; first | refine WL.step (Yl.indexAddr1 (t := 77) (a := p.af) (j := k) (n := fs.length) Tryz.underlying77 Tryz.sizeOf38 rfl rfl (Rd.old h.rf) (ne_nil_of hfi) (by omega)) rfl ?_) | (refine WL.k_bin .neq ?_; first | refine WL.step (Yl.strNeq rfl rfl) rfl ?_ | refine WL.step (Yl.neq rfl rfl) rfl ?_) | refine WC.seq ?_ | refine WC.region ?_ | refine WL.nil ?_ | refine WN.then_normal ?_ | refine WC.skip ?_ | refine WC.ret ?_ | refine WN.then_ret ?_))
      refine WL.appendRow (t := 38) (n := 0) (m := 128) (olds := []) (news := bs fl) Tryz.underlying38 elemU8 rfl rfl (by repeat (first | exact Pick.here | apply Pick.there)) rfl (Nat.le_refl _) (Rd.old hrf) (by rw [bs_length, hful]) (bs_one _) (by omega) (by simp only [maxLen]; omega) rfl fun q hq => ?_
      simp only [Nat.zero_add, List.nil_append] at hq ⊢
      (repeat (first | (refine WL.k_move ?_; first | refine WL.step (Yl.move rfl) rfl ?_) | (refine WL.k_assign ?_; first | refine WL.step (Yl.assign rfl) rfl ?_) | (refine WL.k_bin .neq ?_; first | refine WL.step (Yl.strNeq rfl rfl) rfl ?_ | refine WL.step (Yl.neq rfl rfl) rfl ?_) | refine WC.seq ?_ | refine WC.region ?_ | refine WL.nil ?_ | refine WN.then_normal ?_ | refine WC.skip ?_ | refine WC.ret ?_ | refine WN.then_ret ?_))
      exact WN.ret2 rfl rfl rfl ⟨q.1, q.2, by simp only [Option.getD_none, Option.getD_some, hful]; exact hq, by simp only [Option.getD_none, Option.getD_some, hful]; rfl, by simp only [Option.getD_none, Option.getD_some]⟩ (.cons .here .nil)
theorem rdur_c (s : Int) (w : World) (h : RbAt w p os fs Is d F) : Calls Tryz.prog 69 #[bptr p.br, .int .i64 s] w (Gives (ROut (durR d s)) w) := by
  have hol := h.ok.k.ol
  have hfl := h.ok.k.fl
  have hil := h.ok.il
  refine enter (args := [.pointer (some ⟨p.br, 0, none⟩), _]) Tryz.func69 Tryz.ntmps69 rfl rfl ?_
  rcases bchk_cases d.length s with ⟨hc, _⟩ | ⟨hc, k, rfl, hk⟩
  · rw [durR, if_neg (by rw [hc]; decide)]
    (repeat (first | (refine WL.k_move ?_; first | refine WL.step (Yl.move rfl) rfl ?_) | (refine WL.k_assign ?_; first | refine WL.step (Yl.assign rfl) rfl ?_) | (refine WL.k_call 58 ?_; first | refine WL.callV (g := 58) (v := .int .i64 3) Tryz.call58 rfl (fun w st => by have := rcheck_c s w (h.keep st.kept); rw [hc] at this; exact this) rfl ?_) | (refine WL.k_bin .neq ?_; first | refine WL.step (Yl.neqT rfl rfl (by decide)) rfl ?_ | refine WL.step (Yl.strNeq rfl rfl) rfl ?_ | refine WL.step (Yl.neq rfl rfl) rfl ?_) | refine WC.seq ?_ | refine WC.region ?_ | refine WL.nil ?_ | refine WN.then_normal ?_ | refine WC.skip ?_ | refine WC.ret ?_ | refine WN.then_ret ?_))
    refine WC.cond_true rfl rfl ?_
    (repeat (first | (refine WL.k_move ?_; first | refine WL.step (Yl.move rfl) rfl ?_) | (refine WL.k_assign ?_; first | refine WL.step (Yl.assign rfl) rfl ?_) | (refine WL.k_bin .neq ?_; first | refine WL.step (Yl.strNeq rfl rfl) rfl ?_ | refine WL.step (Yl.neq rfl rfl) rfl ?_) | refine WC.seq ?_ | refine WC.region ?_ | refine WL.nil ?_ | refine WN.then_normal ?_ | refine WC.skip ?_ | refine WC.ret ?_ | refine WN.then_ret ?_))
    exact WN.ret2 rfl rfl rfl ⟨none, 0, Nat.le_refl _, rfl, rfl⟩ (.free .nil)
  · rw [durR, if_pos hc, Int.toNat_natCast]
    have hoi := svs_at (L := os) (i := k) (by omega)
    have hfi := svs_at (L := fs) (i := k) (by omega)
    have hii := bls_at (l := Is) (i := k) (by omega)
    have hmf : fs.getD k Sl.nil ∈ os ++ fs := List.mem_append_right _ (sl_mem (by omega))
    have hmo : os.getD k Sl.nil ∈ os ++ fs := List.mem_append_left _ (sl_mem (by omega))
    have hid := h.ok.id k hk
    have hod := h.ok.k.od k hk
    have hfd := h.ok.k.fd k hk
    have hrf := h.rd _ hmf
    have hro := h.rd _ hmo
    have hd128 : (d.getD k []).length = 128 := by
      have h9 : d[k]? = some (d.getD k []) := by simp [List.getD, hk]
      exact h.wf.len _ (List.mem_of_getElem? h9)
    generalize fs.getD k Sl.nil = xf at *
    generalize os.getD k Sl.nil = xo at *
    obtain ⟨fa, fc, fl⟩ := xf
    obtain ⟨oa, oc, ol⟩ := xo
    simp only at hod hrf hro
    subst hod
    simp only [Sl.v] at hfi hoi
    rw [hd128] at hoi
    rw [hid] at hii
    (repeat (first | (refine WL.k_move ?_; first | refine WL.step (Yl.move rfl) rfl ?_) | (refine WL.k_assign ?_; first | refine WL.step (Yl.assign rfl) rfl ?_) | (refine WL.k_call 58 ?_; first | refine WL.callV (g := 58) (v := .int .i64 0) Tryz.call58 rfl (fun w st => by have := rcheck_c (k : Int) w (h.keep st.kept); rw [hc] at this; exact this) rfl ?_) | (refine WL.k_bin .neq ?_; first | refine WL.step (Yl.neqF rfl rfl rfl) rfl ?_ | refine WL.step (Yl.strNeq rfl rfl) rfl ?_ | refine WL.step (Yl.neq rfl rfl) rfl ?_) | refine WC.seq ?_ | refine WC.region ?_ | refine WL.nil ?_ | refine WN.then_normal ?_ | refine WC.skip ?_ | refine WC.ret ?_ | refine WN.then_ret ?_))
    refine WC.cond_false rfl rfl ?_
    (repeat (first | (refine WL.k_move ?_; first | refine WL.step (Yl.move rfl) rfl ?_) | (refine WL.k_assign ?_; first | refine WL.step (Yl.assign rfl) rfl ?_) | (refine WL.k_bin .neq ?_; first | refine WL.step (Yl.strNeq rfl rfl) rfl ?_ | refine WL.step (Yl.neq rfl rfl) rfl ?_) | refine WC.seq ?_ | refine WC.region ?_ | refine WL.nil ?_ | refine WN.then_normal ?_ | refine WC.skip ?_ | refine WC.ret ?_ | refine WN.then_ret ?_))
    refine WL.lit (t := 38) (vs := []) Tryz.underlying38 elemU8 rfl rfl rfl (fun u hu => by cases hu) rfl fun bl => ?_
    (repeat (first | (refine WL.k_move ?_; first | refine WL.step (Yl.move rfl) rfl ?_) | (refine WL.k_assign ?_; first | refine WL.step (Yl.assign rfl) rfl ?_) | (refine WL.k_load ?_; first | refine WL.step (Yl.loadH Tryz.isAgg77 rfl (Has.old h.blk) rfl) rfl ?_ | refine WL.step (Yl.loadH Tryz.isAgg78 rfl (Has.old h.blk) rfl) rfl ?_ | refine WL.step (Yl.load (T := 38) (a := p.ao) (i := k) Tryz.isAgg38 rfl (Rd.old h.ro) hoi) rfl ?_) | (refine WL.k_fld ?_; first | refine WL.step (Yl.fld0 (t := 80) Tryz.underlying80 fl80 rfl rfl) rfl ?_) | (refine WL.k_nilc ?_; first | refine WL.step (Yl.nilCheck rfl) rfl ?_) | (refine WL.k_idxa ?_; first | refine WL.step (Yl.indexAddr1 (t := 77) (a := p.ao) (j := k) (n := os.length) Tryz.underlying77 Tryz.sizeOf38 rfl rfl (Rd.old h.ro) (ne_nil_of hoi) (by omega)) rfl ?_) | (refine WL.k_bin .neq ?_; first | refine WL.step (Yl.strNeq rfl rfl) rfl ?_ | refine WL.step (Yl.neq rfl rfl) rfl ?_) | refine WC.seq ?_ | refine WC.region ?_ | refine WL.nil ?_ | refine WN.then_normal ?_ | refine WC.skip ?_ | refine WC.ret ?_ | refine WN.then_ret ?_))
    refine WL.appendRow (t := 38) (n := 0) (m := 128) (olds := []) (news := bs (d.getD k [])) Tryz.underlying38 elemU8 rfl rfl (by repeat (first | exact Pick.here | apply Pick.there)) rfl (Nat.le_refl _) (Rd.old hro) (by rw [bs_length, hd128]) (bs_one _) (by omega) (by simp only [maxLen]; omega) rfl fun q hq => ?_
    simp only [Nat.zero_add, List.nil_append] at hq ⊢
    (repeat (first | (refine WL.k_move ?_; first | refine WL.step (Yl.move rfl) rfl ?_) | (refine WL.k_assign ?_; first | refine WL.step (Yl.assign rfl) rfl ?_) | (refine WL.k_bin .neq ?_; first | refine WL.step (Yl.strNeq rfl rfl) rfl ?_ | refine WL.step (Yl.neq rfl rfl) rfl ?_) | refine WC.seq ?_ | refine WC.region ?_ | refine WL.nil ?_ | refine WN.then_normal ?_ | refine WC.skip ?_ | refine WC.ret ?_ | refine WN.then_ret ?_))
    exact WN.ret2 rfl rfl rfl ⟨q.1, q.2, by simp only [Option.getD_none, Option.getD_some, hd128]; exact hq, by simp only [Option.getD_none, Option.getD_some, hd128]; rfl, by simp only [Option.getD_none, Option.getD_some]⟩ (.cons .here .nil)
theorem rdirty_c (w : World) (h : RbAt w p os fs Is d F) : Calls Tryz.prog 73 #[bptr p.br] w (Gives (LOut (dirtyOf d.length F)) w) := by
  have hil := h.ok.il
  have hle := h.wf.le
  refine enter (args := [.pointer (some ⟨p.br, 0, none⟩)]) Tryz.func73 Tryz.ntmps73 rfl rfl ?_
  (repeat (first | (refine WL.kG ?_; first | refine WL.want rfl rfl rfl ?_ | refine WL.pass rfl rfl rfl rfl ?_) | (refine WL.k_move ?_; first | refine WL.step (Yl.move rfl) rfl ?_) | (refine WL.k_assign ?_; first | refine WL.step (Yl.assign rfl) rfl ?_) | (refine WL.k_pick ?_; first | refine WL.step (Yl.pick_t rfl rfl rfl) rfl ?_ | refine WL.step (Yl.pick_f rfl rfl rfl) rfl ?_) | (refine WL.k_bi .len ?_; first | refine WL.step (Yl.len (t := 38) Tryz.underlying38 rfl) rfl ?_) | (refine WL.k_bin .lss ?_; first | refine WL.step (Yl.lss rfl rfl) rfl ?_) | (refine WL.k_bin .add ?_; first | refine WL.step (Yl.add64C rfl (by omega)) rfl ?_ | refine WL.step (Yl.addC64 rfl (by omega)) rfl ?_ | refine WL.step (Yl.add64N rfl rfl (by omega)) rfl ?_ | refine WL.step (Yl.add64 rfl rfl (by omega)) rfl ?_) | refine WC.seq ?_ | refine WC.region ?_ | refine WL.nil ?_ | refine WN.then_normal ?_ | refine WC.block ?_ | refine WC.skip ?_ | refine WC.exit ?_ | refine WC.ret ?_ | refine WN.then_exit ?_ | refine WN.then_ret ?_ | refine WN.block_normal ?_ | refine WN.block_ret ?_ | refine WN.block_here ?_ | refine WN.block_past (by decide) ?_))
  refine WC.loop (α := AS) (fun s => [(0, .pointer (some ⟨p.br, 0, none⟩)), (3, .slice s.la (dpre F s.i).length s.lc), (4, .int .i64 (s.i : Int))]) (fun s => [.row s.la s.lc 3 1 (zcells (zs (dpre F s.i)))])
    (fun s => s.i ≤ d.length ∧ (dpre F s.i).length ≤ s.lc) (fun s => d.length - s.i) ⟨none, 0, 0⟩ (by repeat (first | exact Sub.nil | refine Sub.cons rfl rfl ?_)) (.free .nil) ⟨Nat.zero_le _, Nat.le_refl _⟩ ?_
  rintro ⟨la, lc, i⟩ ⟨hi, hc⟩
  simp only at hi hc ⊢
  have hdl := dpre_le F i
  by_cases h1 : i < d.length
  · have hii := bls_at (l := Is) (i := i) (by omega)
    rw [h.ok.id i h1] at hii
    (repeat (first | (refine WL.kG ?_; first | refine WL.want rfl rfl rfl ?_ | refine WL.pass rfl rfl rfl rfl ?_) | (refine WL.k_move ?_; first | refine WL.step (Yl.move rfl) rfl ?_) | (refine WL.k_assign ?_; first | refine WL.step (Yl.assign rfl) rfl ?_) | (refine WL.k_load ?_; first | refine WL.step (Yl.loadH Tryz.isAgg77 rfl (Has.old h.blk) rfl) rfl ?_ | refine WL.step (Yl.loadH Tryz.isAgg78 rfl (Has.old h.blk) rfl) rfl ?_) | (refine WL.k_fld ?_; first | refine WL.step (Yl.fld0 (t := 80) Tryz.underlying80 fl80 rfl rfl) rfl ?_) | (refine WL.k_pick ?_; first | refine WL.step (Yl.pick_t rfl rfl rfl) rfl ?_ | refine WL.step (Yl.pick_f rfl rfl rfl) rfl ?_) | (refine WL.k_call 64 ?_; first | refine WL.callV (g := 64) (v := .bool true) Tryz.call64 rfl (fun w s => rvalid_c w (h.keep s.kept)) rfl ?_) | (refine WL.k_nilc ?_; first | refine WL.step (Yl.nilCheck rfl) rfl ?_) | (refine WL.k_bi .len ?_; first | refine WL.step (Yl.len (t := 78) Tryz.underlying78 rfl) rfl ?_ | refine WL.step (Yl.len (t := 38) Tryz.underlying38 rfl) rfl ?_) | (refine WL.k_bin .lss ?_; first | refine WL.step (Yl.lssT rfl rfl (by omega)) rfl ?_ | refine WL.step (Yl.lss rfl rfl) rfl ?_) | (refine WL.k_bin .add ?_; first | refine WL.step (Yl.add64C rfl (by omega)) rfl ?_ | refine WL.step (Yl.addC64 rfl (by omega)) rfl ?_ | refine WL.step (Yl.add64N rfl rfl (by omega)) rfl ?_ | refine WL.step (Yl.add64 rfl rfl (by omega)) rfl ?_) | refine WC.seq ?_ | refine WC.region ?_ | refine WL.nil ?_ | refine WN.then_normal ?_ | refine WC.block ?_ | refine WC.skip ?_ | refine WC.exit ?_ | refine WC.ret ?_ | refine WN.then_exit ?_ | refine WN.then_ret ?_ | refine WN.block_normal ?_ | refine WN.block_ret ?_ | refine WN.block_here ?_ | refine WN.block_past (by decide) ?_))
    refine WC.cond_true rfl rfl ?_
    cases e : F i with
    | none =>
      rw [e] at hii
      have hn := dpre_none e
      (repeat (first | (refine WL.kG ?_; first | refine WL.want rfl rfl rfl ?_ | refine WL.pass rfl rfl rfl rfl ?_) | (refine WL.k_move ?_; first | refine WL.step (Yl.move rfl) rfl ?_) | (refine WL.k_assign ?_; first | refine WL.step (Yl.assign rfl) rfl ?_) | (refine WL.k_load ?_; first | refine WL.step (Yl.loadH Tryz.isAgg77 rfl (Has.old h.blk) rfl) rfl ?_ | refine WL.step (Yl.loadH Tryz.isAgg78 rfl (Has.old h.blk) rfl) rfl ?_ | refine WL.step (Yl.load (T := 4) (a := p.ai) (i := i) Tryz.isAgg4 rfl (Rd.old h.ri) hii) rfl ?_) | (refine WL.k_fld ?_; first | refine WL.step (Yl.fld0 (t := 80) Tryz.underlying80 fl80 rfl rfl) rfl ?_) | (refine WL.k_pick ?_; first | refine WL.step (Yl.pick_t rfl rfl rfl) rfl ?_ | refine WL.step (Yl.pick_f rfl rfl rfl) rfl ?_) | (refine WL.k_nilc ?_; first | refine WL.step (Yl.nilCheck rfl) rfl ?_) | (refine WL.k_idxa ?_; first | refine WL.step (Yl.indexAddr1 (t := 78) (a := p.ai) (j := i) (n := Is.length) Tryz.underlying78 Tryz.sizeOf4 rfl rfl (Rd.old h.ri) (ne_nil_of hii) (by omega)) rfl ?_) | (refine WL.k_bi .len ?_; first | refine WL.step (Yl.len (t := 38) Tryz.underlying38 rfl) rfl ?_) | (refine WL.k_bin .lss ?_; first | refine WL.step (Yl.lss rfl rfl) rfl ?_) | (refine WL.k_bin .add ?_; first | refine WL.step (Yl.add64C rfl (by omega)) rfl ?_ | refine WL.step (Yl.addC64 rfl (by omega)) rfl ?_ | refine WL.step (Yl.add64N rfl rfl (by omega)) rfl ?_ | refine WL.step (Yl.add64 rfl rfl (by omega)) rfl ?_) | refine WC.seq ?_ | refine WC.region ?_ | refine WL.nil ?_ | refine WN.then_normal ?_ | refine WC.block ?_ | refine WC.skip ?_ | refine WC.exit ?_ | refine WC.ret ?_ | refine WN.then_exit ?_ | refine WN.then_ret ?_ | refine WN.block_normal ?_ | refine WN.block_ret ?_ | refine WN.block_here ?_ | refine WN.block_past (by decide) ?_))
      refine WC.cond_false rfl rfl ?_
      (repeat (first | (refine WL.kG ?_; first | refine WL.want rfl rfl rfl ?_ | refine WL.pass rfl rfl rfl rfl ?_) | (refine WL.k_move ?_; first | refine WL.step (Yl.move rfl) rfl ?_) | (refine WL.k_assign ?_; first | refine WL.step (Yl.assign rfl) rfl ?_) | (refine WL.k_pick ?_; first | refine WL.step (Yl.pick_t rfl rfl rfl) rfl ?_ | refine WL.step (Yl.pick_f rfl rfl rfl) rfl ?_) | (refine WL.k_bi .len ?_; first | refine WL.step (Yl.len (t := 38) Tryz.underlying38 rfl) rfl ?_) | (refine WL.k_bin .lss ?_; first | refine WL.step (Yl.lss rfl rfl) rfl ?_) | (refine WL.k_bin .add ?_; first | refine WL.step (Yl.add64C rfl (by omega)) rfl ?_ | refine WL.step (Yl.addC64 rfl (by omega)) rfl ?_ | refine WL.step (Yl.add64N rfl rfl (by omega)) rfl ?_ | refine WL.step (Yl.add64 rfl rfl (by omega)) rfl ?_) | refine WC.seq ?_ | refine WC.region ?_ | refine WL.nil ?_ | refine WN.then_normal ?_ | refine WC.block ?_ | refine WC.skip ?_ | refine WC.exit ?_ | refine WC.ret ?_ | refine WN.then_exit ?_ | refine WN.then_ret ?_ | refine WN.block_normal ?_ | refine WN.block_ret ?_ | refine WN.block_here ?_ | refine WN.block_past (by decide) ?_))
      exact WN.next ⟨la, lc, i + 1⟩ ⟨by simp only; omega, by simp only [hn]; exact hc⟩ (by simp only; omega) (by simp only [hn]; exact (by repeat (first | exact Sub.nil | refine Sub.cons rfl rfl ?_))) (by simp only [hn]; exact (by repeat (first | exact Part.nil | refine Part.cons (by repeat (first | exact Pick.here | apply Pick.there)) ?_ | refine Part.free ?_)))
    | some u =>
      rw [e] at hii
      have hn := dpre_some e
      have hnl : (dpre F (i + 1)).length = (dpre F i).length + 1 := by rw [hn, List.length_append]; rfl
      (repeat (first | (refine WL.kG ?_; first | refine WL.want rfl rfl rfl ?_ | refine WL.pass rfl rfl rfl rfl ?_) | (refine WL.k_move ?_; first | refine WL.step (Yl.move rfl) rfl ?_) | (refine WL.k_assign ?_; first | refine WL.step (Yl.assign rfl) rfl ?_) | (refine WL.k_load ?_; first | refine WL.step (Yl.loadH Tryz.isAgg77 rfl (Has.old h.blk) rfl) rfl ?_ | refine WL.step (Yl.loadH Tryz.isAgg78 rfl (Has.old h.blk) rfl) rfl ?_ | refine WL.step (Yl.load (T := 4) (a := p.ai) (i := i) Tryz.isAgg4 rfl (Rd.old h.ri) hii) rfl ?_) | (refine WL.k_fld ?_; first | refine WL.step (Yl.fld0 (t := 80) Tryz.underlying80 fl80 rfl rfl) rfl ?_) | (refine WL.k_pick ?_; first | refine WL.step (Yl.pick_t rfl rfl rfl) rfl ?_ | refine WL.step (Yl.pick_f rfl rfl rfl) rfl ?_) | (refine WL.k_nilc ?_; first | refine WL.step (Yl.nilCheck rfl) rfl ?_) | (refine WL.k_idxa ?_; first | refine WL.step (Yl.indexAddr1 (t := 78) (a := p.ai) (j := i) (n := Is.length) Tryz.underlying78 Tryz.sizeOf4 rfl rfl (Rd.old h.ri) (ne_nil_of hii) (by omega)) rfl ?_) | (refine WL.k_bi .len ?_; first | refine WL.step (Yl.len (t := 38) Tryz.underlying38 rfl) rfl ?_) | (refine WL.k_bin .lss ?_; first | refine WL.step (Yl.lss rfl rfl) rfl ?_) | (refine WL.k_bin .add ?_; first | refine WL.step (Yl.add64C rfl (by omega)) rfl ?_ | refine WL.step (Yl.addC64 rfl (by omega)) rfl ?_ | refine WL.step (Yl.add64N rfl rfl (by omega)) rfl ?_ | refine WL.step (Yl.add64 rfl rfl (by omega)) rfl ?_) | refine WC.seq ?_ | refine WC.region ?_ | refine WL.nil ?_ | refine WN.then_normal ?_ | refine WC.block ?_ | refine WC.skip ?_ | refine WC.exit ?_ | refine WC.ret ?_ | refine WN.then_exit ?_ | refine WN.then_ret ?_ | refine WN.block_normal ?_ | refine WN.block_ret ?_ | refine WN.block_here ?_ | refine WN.block_past (by decide) ?_))
      refine WC.cond_true rfl rfl ?_
      (repeat (first | (refine WL.kG ?_; first | refine WL.want rfl rfl rfl ?_ | refine WL.pass rfl rfl rfl rfl ?_) | (refine WL.k_move ?_; first | refine WL.step (Yl.move rfl) rfl ?_) | (refine WL.k_assign ?_; first | refine WL.step (Yl.assign rfl) rfl ?_) | (refine WL.k_pick ?_; first | refine WL.step (Yl.pick_t rfl rfl rfl) rfl ?_ | refine WL.step (Yl.pick_f rfl rfl rfl) rfl ?_) | (refine WL.k_bi .len ?_; first | refine WL.step (Yl.len (t := 38) Tryz.underlying38 rfl) rfl ?_) | (refine WL.k_bin .lss ?_; first | refine WL.step (Yl.lss rfl rfl) rfl ?_) | (refine WL.k_bin .add ?_; first | refine WL.step (Yl.add64C rfl (by omega)) rfl ?_ | refine WL.step (Yl.addC64 rfl (by omega)) rfl ?_ | refine WL.step (Yl.add64N rfl rfl (by omega)) rfl ?_ | refine WL.step (Yl.add64 rfl rfl (by omega)) rfl ?_) | refine WC.seq ?_ | refine WC.region ?_ | refine WL.nil ?_ | refine WN.then_normal ?_ | refine WC.block ?_ | refine WC.skip ?_ | refine WC.exit ?_ | refine WC.ret ?_ | refine WN.then_exit ?_ | refine WN.then_ret ?_ | refine WN.block_normal ?_ | refine WN.block_ret ?_ | refine WN.block_here ?_ | refine WN.block_past (by decide) ?_))
      refine WL.lit (t := 31) (vs := [.int .i64 (i : Int)]) Tryz.underlying31 elemZ rfl rfl rfl (fun u hu => by simp at hu; subst hu; rfl) rfl fun b7 => ?_
      rw [show flat [.int .i64 (i : Int)] = zcells [(i : Int)] from rfl]
      refine WL.appendRow (n := (dpre F i).length) (m := 1) (olds := zcells (zs (dpre F i))) (news := zcells [(i : Int)]) Tryz.underlying31 elemZ rfl rfl (by repeat (first | exact Pick.here | apply Pick.there)) (by rw [zcells_len, zs_len, Nat.mul_one]) hc (Rd.row (.head _)) rfl (fun u hu => by obtain ⟨_, _, rfl⟩ := List.mem_map.1 hu; rfl) (by omega) (by simp only [maxLen]; omega) rfl fun q hq => ?_
      rw [zs_snoc, ← hn]
      (repeat (first | (refine WL.kG ?_; first | refine WL.want rfl rfl rfl ?_ | refine WL.pass rfl rfl rfl rfl ?_) | (refine WL.k_move ?_; first | refine WL.step (Yl.move rfl) rfl ?_) | (refine WL.k_assign ?_; first | refine WL.step (Yl.assign rfl) rfl ?_) | (refine WL.k_pick ?_; first | refine WL.step (Yl.pick_t rfl rfl rfl) rfl ?_ | refine WL.step (Yl.pick_f rfl rfl rfl) rfl ?_) | (refine WL.k_bi .len ?_; first | refine WL.step (Yl.len (t := 38) Tryz.underlying38 rfl) rfl ?_) | (refine WL.k_bin .lss ?_; first | refine WL.step (Yl.lss rfl rfl) rfl ?_) | (refine WL.k_bin .add ?_; first | refine WL.step (Yl.add64C rfl (by omega)) rfl ?_ | refine WL.step (Yl.addC64 rfl (by omega)) rfl ?_ | refine WL.step (Yl.add64N rfl rfl (by omega)) rfl ?_ | refine WL.step (Yl.add64 rfl rfl (by omega)) rfl ?_) | refine WC.seq ?_ | refine WC.region ?_ | refine WL.nil ?_ | refine WN.then_normal ?_ | refine WC.block ?_ | refine WC.skip ?_ | refine WC.exit ?_ | refine WC.ret ?_ | refine WN.then_exit ?_ | refine WN.then_ret ?_ | refine WN.block_normal ?_ | refine WN.block_ret ?_ | refine WN.block_here ?_ | refine WN.block_past (by decide) ?_))
      exact WN.next ⟨q.1, q.2, i + 1⟩ ⟨by simp only; omega, by simp only [hnl]; exact hq⟩ (by simp only; omega) (by simp only [hnl]; exact (by repeat (first | exact Sub.nil | refine Sub.cons rfl rfl ?_))) (by repeat (first | exact Part.nil | refine Part.cons (by repeat (first | exact Pick.here | apply Pick.there)) ?_ | refine Part.free ?_))
  · have hid : i = d.length := by omega
    subst hid
    rw [dpre_all] at *
    (repeat (first | (refine WL.kG ?_; first | refine WL.want rfl rfl rfl ?_ | refine WL.pass rfl rfl rfl rfl ?_) | (refine WL.k_move ?_; first | refine WL.step (Yl.move rfl) rfl ?_) | (refine WL.k_assign ?_; first | refine WL.step (Yl.assign rfl) rfl ?_) | (refine WL.k_load ?_; first | refine WL.step (Yl.loadH Tryz.isAgg77 rfl (Has.old h.blk) rfl) rfl ?_ | refine WL.step (Yl.loadH Tryz.isAgg78 rfl (Has.old h.blk) rfl) rfl ?_) | (refine WL.k_fld ?_; first | refine WL.step (Yl.fld0 (t := 80) Tryz.underlying80 fl80 rfl rfl) rfl ?_) | (refine WL.k_pick ?_; first | refine WL.step (Yl.pick_t rfl rfl rfl) rfl ?_ | refine WL.step (Yl.pick_f rfl rfl rfl) rfl ?_) | (refine WL.k_call 64 ?_; first | refine WL.callV (g := 64) (v := .bool true) Tryz.call64 rfl (fun w s => rvalid_c w (h.keep s.kept)) rfl ?_) | (refine WL.k_nilc ?_; first | refine WL.step (Yl.nilCheck rfl) rfl ?_) | (refine WL.k_bi .len ?_; first | refine WL.step (Yl.len (t := 78) Tryz.underlying78 rfl) rfl ?_ | refine WL.step (Yl.len (t := 38) Tryz.underlying38 rfl) rfl ?_) | (refine WL.k_bin .lss ?_; first | refine WL.step (Yl.lssF rfl rfl (by omega)) rfl ?_ | refine WL.step (Yl.lss rfl rfl) rfl ?_) | (refine WL.k_bin .add ?_; first | refine WL.step (Yl.add64C rfl (by omega)) rfl ?_ | refine WL.step (Yl.addC64 rfl (by omega)) rfl ?_ | refine WL.step (Yl.add64N rfl rfl (by omega)) rfl ?_ | refine WL.step (Yl.add64 rfl rfl (by omega)) rfl ?_) | refine WC.seq ?_ | refine WC.region ?_ | refine WL.nil ?_ | refine WN.then_normal ?_ | refine WC.block ?_ | refine WC.skip ?_ | refine WC.exit ?_ | refine WC.ret ?_ | refine WN.then_exit ?_ | refine WN.then_ret ?_ | refine WN.block_normal ?_ | refine WN.block_ret ?_ | refine WN.block_here ?_ | refine WN.block_past (by decide) ?_))
    refine WC.cond_false rfl rfl ?_
    (repeat (first | (refine WL.kG ?_; first | refine WL.want rfl rfl rfl ?_ | refine WL.pass rfl rfl rfl rfl ?_) | (refine WL.k_move ?_; first | refine WL.step (Yl.move rfl) rfl ?_) | (refine WL.k_assign ?_; first | refine WL.step (Yl.assign rfl) rfl ?_) | (refine WL.k_pick ?_; first | refine WL.step (Yl.pick_t rfl rfl rfl) rfl ?_ | refine WL.step (Yl.pick_f rfl rfl rfl) rfl ?_) | (refine WL.k_bi .len ?_; first | refine WL.step (Yl.len (t := 38) Tryz.underlying38 rfl) rfl ?_) | (refine WL.k_bin .lss ?_; first | refine WL.step (Yl.lss rfl rfl) rfl ?_) | (refine WL.k_bin .add ?_; first | refine WL.step (Yl.add64C rfl (by omega)) rfl ?_ | refine WL.step (Yl.addC64 rfl (by omega)) rfl ?_ | refine WL.step (Yl.add64N rfl rfl (by omega)) rfl ?_ | refine WL.step (Yl.add64 rfl rfl (by omega)) rfl ?_) | refine WC.seq ?_ | refine WC.region ?_ | refine WL.nil ?_ | refine WN.then_normal ?_ | refine WC.block ?_ | refine WC.skip ?_ | refine WC.exit ?_ | refine WC.ret ?_ | refine WN.then_exit ?_ | refine WN.then_ret ?_ | refine WN.block_normal ?_ | refine WN.block_ret ?_ | refine WN.block_here ?_ | refine WN.block_past (by decide) ?_))
    exact WN.ret1 rfl rfl ⟨la, lc, hc, rfl, rfl⟩ (.cons .here .nil)
end
end Go.Proofs.YtmmpngigaodcgaaGreat
/- A bank shows what that of the document does. -/
namespace Go.Proofs.YtmmpngigaodcgaaGreat
set_option linter.unusedVariables false
set_option linter.unusedSimpArgs false
open Go Go.RowKit
set_option maxRecDepth 100000
set_option maxHeartbeats 8000000
theorem readR_len {d : List (List UInt8)} {F : Nat → Option (List UInt8)} (h : BkWf d F) (s : Int) : (readR d F s).1.length ≤ 9223372036854775807 := by
  rcases bchk_cases d.length s with ⟨hc, _⟩ | ⟨hc, k, rfl, hk⟩
  · rw [readR, if_neg (by rw [hc]; decide)]; exact Nat.zero_le _
  · rw [readR, if_pos hc, Int.toNat_natCast]
    have h9 : d[k]? = some (d.getD k []) := by simp [List.getD, hk]
    have := h.len _ (List.mem_of_getElem? h9)
    cases e : F k with
    | none => simp only [Option.getD_none]; omega
    | some u => have := h.val k u e; simp only [Option.getD_some]; omega
theorem durR_len {d : List (List UInt8)} {F : Nat → Option (List UInt8)} (h : BkWf d F) (s : Int) : (durR d s).1.length ≤ 9223372036854775807 := by
  rcases bchk_cases d.length s with ⟨hc, _⟩ | ⟨hc, k, rfl, hk⟩
  · rw [durR, if_neg (by rw [hc]; decide)]; exact Nat.zero_le _
  · rw [durR, if_pos hc, Int.toNat_natCast]
    have h9 : d[k]? = some (d.getD k []) := by simp [List.getD, hk]
    have := h.len _ (List.mem_of_getElem? h9)
    simp only; omega
attribute [local irreducible] WL WC WN Yl WH WQ WT WE WU WG WV
section
variable {p : RP} {os fs : List Sl} {Is : List Bool} {d : List (List UInt8)} {F : Nat → Option (List UInt8)} {bk cap mb : Nat} {da : Option Addr}
end
end Go.Proofs.YtmmpngigaodcgaaGreat
/- Turns are done to a bank of which all is known. -/
namespace Go.Proofs.YtmmpngigaodcgaaGreat
set_option linter.unusedVariables false
set_option linter.unusedSimpArgs false
open Go Go.RowKit
set_option maxRecDepth 100000
set_option maxHeartbeats 8000000
def doT (t : Turn) (s : BSt) : BSt :=
  if t.k.toNat % 8 < 5 then (s.1, setF s.2 (t.s.toNat % s.1.length) (some (t.m :: List.replicate 127 t.n)))
  else if t.k.toNat % 8 = 5 then (crashR [128] s.1 s.2).1
  else (crashR [((min t.n.toNat 128 : Nat) : Int), ((min t.m.toNat 128 : Nat) : Int)] s.1 s.2).1
theorem write_in {n i : Nat} {F : Nat → Option (List UInt8)} {x : List UInt8} (hi : i < n) (hx : x.length = 128) : writeF n F (i : Int) x = setF F i (some x) ∧ writeE n (i : Int) x = 0 := by
  have hb : bchk n (i : Int) = 0 := by
    rcases bchk_cases n (i : Int) with ⟨_, hs⟩ | ⟨hc, _⟩
    · omega
    · exact hc
  exact ⟨by rw [writeF, if_pos ⟨hb, hx⟩]; rfl, by rw [writeE, if_pos hb, if_pos hx]⟩
theorem keep2 (a b : Nat) : keepOk [((min a 128 : Nat) : Int), ((min b 128 : Nat) : Int)] := ⟨by simp, fun k hk => by
  simp at hk
  rcases hk with rfl | rfl <;> omega⟩
theorem keep1 : keepOk [128] := ⟨by simp, fun k hk => by simp at hk; omega⟩
theorem elemI : ElemT Tryz.prog 3 (.int .i64 0) 1 8 := elemZ
attribute [local irreducible] WL WC WN Yl WH WQ WT WE WU WG WV
section
variable {os fs : List Sl} {d : List (List UInt8)} {F : Nat → Option (List UInt8)} {S : List Nat}
end
end Go.Proofs.YtmmpngigaodcgaaGreat
/- The document's bank: written. -/
namespace Go.Proofs.YtmmpngigaodcgaaGreat
set_option linter.unusedVariables false
set_option linter.unusedSimpArgs false
open Go Go.RowKit
set_option maxRecDepth 100000
set_option maxHeartbeats 8000000
theorem RbAt.out {w0 w : World} {S : List Nat} {A : List HA} {p : RP} {os fs : List Sl} {Is : List Bool} {d : List (List UInt8)} {F : Nat → Option (List UInt8)} (ok : RbOk os fs Is d F) (wf : BkWf d F) (hi : ∀ x ∈ rbI p os fs Is, x ∈ A) (hO : ∀ s ∈ os ++ fs, OutF w0 S s) (st : St w0 S A w) : RbAt w p os fs Is d F := by
  have m1 : HA.blk p.br (.cells #[.slice p.ao os.length p.co, .slice p.ai Is.length p.ci, .slice p.af fs.length p.cf] 80 (0, 0)) ∈ A := hi _ (by simp only [rbI]; exact .head _)
  have m2 : HA.row p.ao p.co 38 1 (svs os) ∈ A := hi _ (by simp only [rbI]; exact .tail _ (.head _))
  have m3 : HA.row p.ai p.ci 4 1 (bls Is) ∈ A := hi _ (by simp only [rbI]; exact .tail _ (.tail _ (.head _)))
  have m4 : HA.row p.af p.cf 38 1 (svs fs) ∈ A := hi _ (by simp only [rbI]; exact .tail _ (.tail _ (.tail _ (.head _))))
  exact ⟨ok, wf, st.holds _ m1, Rd.row (X := ⟨Tryz.prog, 0, w0, S⟩) m2 w st, Rd.row (X := ⟨Tryz.prog, 0, w0, S⟩) m3 w st, Rd.row (X := ⟨Tryz.prog, 0, w0, S⟩) m4 w st, fun s hs => Rd.out (P := Tryz.prog) (n := 0) (hO s hs).2 w st⟩
def RbV (p : RP) (os fs : List Sl) (d : List (List UInt8)) (F : Nat → Option (List UInt8)) (e : Nat) : Value → List HA → Prop := fun u B =>
  u = .int .i64 (e : Int) ∧ ∃ os' fs' Is' Z, B = rbI p os' fs' Is' ++ Z ∧ RbOk os' fs' Is' d F ∧ ∀ x ∈ os' ++ fs', x ∈ os ++ fs ∨ InF Z x
theorem bls_set (l : List Bool) (i : Nat) (b : Bool) : (bls l).set i (.bool b) = bls (l.set i b) := by simp [bls, List.map_set]
theorem bl_set_same {l : List Bool} {i : Nat} (h : i < l.length) (b : Bool) : (l.set i b).getD i false = b := by simp [List.getD, h]
theorem bl_set_ne {l : List Bool} {i j : Nat} (h : i ≠ j) (b : Bool) : (l.set i b).getD j false = l.getD j false := by simp [List.getD, List.getElem?_set_ne h]
theorem RbOk.write {os fs : List Sl} {Is : List Bool} {d : List (List UInt8)} {F : Nat → Option (List UInt8)} (h : RbOk os fs Is d F) {i : Nat} (t : Sl) : RbOk os (fs.set i t) (Is.set i true) d (setF F i (some t.l)) := by
  refine ⟨h.k.write t, by rw [List.length_set, h.il], fun j hj => ?_⟩
  by_cases e : i = j
  · subst e
    rw [bl_set_same (by rw [h.il]; exact hj)]; simp [setF]
  · rw [bl_set_ne e, h.id j hj, show setF F i (some t.l) j = F j by simp [setF, Ne.symm e]]
attribute [local irreducible] WL WC WN Yl WH WQ WT WE WU WG WV
section
variable {p : RP} {os fs : List Sl} {Is : List Bool} {d : List (List UInt8)} {F : Nat → Option (List UInt8)} {S : List Nat}
theorem rwrite_r (a : Option Addr) (n c2 : Nat) (x : List UInt8) (s : Int) (w : World) (wf : BkWf d F) (ok : RbOk os fs Is d F) (hO : ∀ y ∈ os ++ fs, OutF w S y) (hx : x.length = n) (hr : CellsOut w S a (bs x)) (st : St w S (rbI p os fs Is) w) :
    Calls Tryz.prog 36 #[bptr p.br, .int .i64 s, .slice a n c2] w (GivesS S (RbV p os fs d (writeF d.length F s x) (writeE d.length s x)) w) := by
  have hol := ok.k.ol
  have hfl := ok.k.fl
  have hil := ok.il
  have hle := wf.le
  refine enterS (args := [.pointer (some ⟨p.br, 0, none⟩), _, _]) Tryz.func36 Tryz.ntmps36 rfl rfl st ?_
  have hat : ∀ {w' : World}, St w S (rbI p os fs Is) w' → RbAt w' p os fs Is d F := fun st => RbAt.out ok wf (fun x hx => hx) hO st
  rcases bchk_cases d.length s with ⟨hc, _⟩ | ⟨hc, k, rfl, hk⟩
  · rw [writeF, if_neg (fun h => by rw [hc] at h; cases h.1), writeE, if_neg (by rw [hc]; decide)]
    (repeat (first | (refine WL.k_move ?_; first | refine WL.step (Yl.move rfl) rfl ?_) | (refine WL.k_assign ?_; first | refine WL.step (Yl.assign rfl) rfl ?_) | (refine WL.k_call 58 ?_; first | refine WL.callV (g := 58) (v := .int .i64 3) Tryz.call58 rfl (fun w0 st => by have := rcheck_c s w0 (hat st); rw [hc] at this; exact this) rfl ?_) | (refine WL.k_bin .neq ?_; first | refine WL.step (Yl.neqT rfl rfl (by decide)) rfl ?_ | refine WL.step (Yl.strNeq rfl rfl) rfl ?_ | refine WL.step (Yl.neq rfl rfl) rfl ?_) | (refine WL.k_bi .len ?_; first | refine WL.step (Yl.len (t := 38) Tryz.underlying38 rfl) rfl ?_) | refine WC.seq ?_ | refine WC.region ?_ | refine WL.nil ?_ | refine WN.then_normal ?_ | refine WC.skip ?_ | refine WC.ret ?_ | refine WN.then_ret ?_))
    refine WC.cond_true rfl rfl ?_
    (repeat (first | (refine WL.k_move ?_; first | refine WL.step (Yl.move rfl) rfl ?_) | (refine WL.k_assign ?_; first | refine WL.step (Yl.assign rfl) rfl ?_) | (refine WL.k_bi .len ?_; first | refine WL.step (Yl.len (t := 38) Tryz.underlying38 rfl) rfl ?_) | (refine WL.k_bin .neq ?_; first | refine WL.step (Yl.strNeq rfl rfl) rfl ?_ | refine WL.step (Yl.neq rfl rfl) rfl ?_) | refine WC.seq ?_ | refine WC.region ?_ | refine WL.nil ?_ | refine WN.then_normal ?_ | refine WC.skip ?_ | refine WC.ret ?_ | refine WN.then_ret ?_))
    exact WN.ret1S rfl rfl ⟨rfl, os, fs, Is, [], (List.append_nil _).symm, ok, fun y hy => .inl hy⟩ (Part.refl _)
  by_cases h128 : x.length = 128
  · rw [writeF, if_pos ⟨hc, h128⟩, writeE, if_pos hc, if_pos h128, Int.toNat_natCast]
    have hok := fun (t : Sl) => ok.write (i := k) t
    (repeat (first | (refine WL.k_move ?_; first | refine WL.step (Yl.move rfl) rfl ?_) | (refine WL.k_assign ?_; first | refine WL.step (Yl.assign rfl) rfl ?_) | (refine WL.k_call 58 ?_; first | refine WL.callV (g := 58) (v := .int .i64 0) Tryz.call58 rfl (fun w0 st => by have := rcheck_c (k : Int) w0 (hat st); rw [hc] at this; exact this) rfl ?_) | (refine WL.k_bin .neq ?_; first | refine WL.step (Yl.neqF rfl rfl rfl) rfl ?_ | refine WL.step (Yl.strNeq rfl rfl) rfl ?_ | refine WL.step (Yl.neq rfl rfl) rfl ?_) | (refine WL.k_bi .len ?_; first | refine WL.step (Yl.len (t := 38) Tryz.underlying38 rfl) rfl ?_) | refine WC.seq ?_ | refine WC.region ?_ | refine WL.nil ?_ | refine WN.then_normal ?_ | refine WC.skip ?_ | refine WC.ret ?_ | refine WN.then_ret ?_))
    refine WC.cond_false rfl rfl ?_
    (repeat (first | (refine WL.k_move ?_; first | refine WL.step (Yl.move rfl) rfl ?_) | (refine WL.k_assign ?_; first | refine WL.step (Yl.assign rfl) rfl ?_) | (refine WL.k_bi .len ?_; first | refine WL.step (Yl.len (t := 38) Tryz.underlying38 rfl) rfl ?_) | (refine WL.k_bin .neq ?_; first | refine WL.step (Yl.neqF rfl rfl (by omega)) rfl ?_ | refine WL.step (Yl.strNeq rfl rfl) rfl ?_ | refine WL.step (Yl.neq rfl rfl) rfl ?_) | refine WC.seq ?_ | refine WC.region ?_ | refine WL.nil ?_ | refine WN.then_normal ?_ | refine WC.skip ?_ | refine WC.ret ?_ | refine WN.then_ret ?_))
    refine WC.cond_false rfl rfl ?_
    rw [rbI]
    (repeat (first | (refine WL.k_move ?_; first | refine WL.step (Yl.move rfl) rfl ?_) | (refine WL.k_assign ?_; first | refine WL.step (Yl.assign rfl) rfl ?_) | (refine WL.k_bi .len ?_; first | refine WL.step (Yl.len (t := 38) Tryz.underlying38 rfl) rfl ?_) | (refine WL.k_bin .neq ?_; first | refine WL.step (Yl.strNeq rfl rfl) rfl ?_ | refine WL.step (Yl.neq rfl rfl) rfl ?_) | refine WC.seq ?_ | refine WC.region ?_ | refine WL.nil ?_ | refine WN.then_normal ?_ | refine WC.skip ?_ | refine WC.ret ?_ | refine WN.then_ret ?_))
    refine WL.know (p := ∃ ad, p.ai = some ad) (fun w0 s0 => (Rd.row (X := ⟨Tryz.prog, 32, w, S⟩) (a := p.ai) (vs := bls Is) (T := 4) (k := 1) (cap := p.ci) (.tail _ (.tail _ (.head _)))).some_ (ne_nil_of (bls_at (l := Is) (i := k) (by omega))) s0) fun ⟨iad, hiad⟩ => ?_
    refine WL.know (p := ∃ ad, p.af = some ad) (fun w0 s0 => (Rd.row (X := ⟨Tryz.prog, 32, w, S⟩) (a := p.af) (vs := svs fs) (T := 38) (k := 1) (cap := p.cf) (.tail _ (.tail _ (.tail _ (.head _))))).some_ (svs_ne (i := k) (by omega)) s0) fun ⟨fad, hfad⟩ => ?_
    rw [hiad, hfad]
    (repeat (first | (refine WL.k_move ?_; first | refine WL.step (Yl.move rfl) rfl ?_) | (refine WL.k_assign ?_; first | refine WL.step (Yl.assign rfl) rfl ?_) | (refine WL.k_load ?_; first | refine WL.step (Yl.loadBlk (T := 77) Tryz.isAgg77 rfl (by repeat (first | exact .head _ | refine .tail _ ?_)) (by rfl)) rfl ?_ | refine WL.step (Yl.loadBlk (T := 78) Tryz.isAgg78 rfl (by repeat (first | exact .head _ | refine .tail _ ?_)) (by rfl)) rfl ?_) | (refine WL.k_fld ?_; first | refine WL.step (Yl.fld0 (t := 80) Tryz.underlying80 fl80 rfl rfl) rfl ?_) | (refine WL.k_nilc ?_; first | refine WL.step (Yl.nilCheck rfl) rfl ?_) | (refine WL.k_idxa ?_; first | refine WL.step (Yl.indexAddrS (j := k) (n := Is.length) (ad := iad) (cap := p.ci) Tryz.underlying78 Tryz.sizeOf4 rfl rfl (by omega)) rfl ?_) | (refine WL.k_bi .len ?_; first | refine WL.step (Yl.len (t := 38) Tryz.underlying38 rfl) rfl ?_) | (refine WL.k_bin .neq ?_; first | refine WL.step (Yl.strNeq rfl rfl) rfl ?_ | refine WL.step (Yl.neq rfl rfl) rfl ?_) | refine WC.seq ?_ | refine WC.region ?_ | refine WL.nil ?_ | refine WN.then_normal ?_ | refine WC.skip ?_ | refine WC.ret ?_ | refine WN.then_ret ?_))
    refine WL.storeRow (T := 4) (i := k) (vs := bls Is) Tryz.sizeOf4 rfl rfl rfl (by repeat (first | exact Pick.here | apply Pick.there)) (by rw [bls_len]; omega) ?_
    rw [bls_set]
    (repeat (first | (refine WL.k_move ?_; first | refine WL.step (Yl.move rfl) rfl ?_) | (refine WL.k_assign ?_; first | refine WL.step (Yl.assign rfl) rfl ?_) | (refine WL.k_bi .len ?_; first | refine WL.step (Yl.len (t := 38) Tryz.underlying38 rfl) rfl ?_) | (refine WL.k_bin .neq ?_; first | refine WL.step (Yl.strNeq rfl rfl) rfl ?_ | refine WL.step (Yl.neq rfl rfl) rfl ?_) | refine WC.seq ?_ | refine WC.region ?_ | refine WL.nil ?_ | refine WN.then_normal ?_ | refine WC.skip ?_ | refine WC.ret ?_ | refine WN.then_ret ?_))
    refine WC.regionH [.blk p.br (.cells #[.slice p.ao os.length p.co, .slice (some iad) Is.length p.ci, .slice (some fad) fs.length p.cf] 80 (0, 0))] (by kernel_rfl) ?_
    (refine WH.order [0, 1, 2, 3, 4, 6] (by repeat (first | exact Part.nil | refine Part.cons (by repeat (first | exact Pick.here | apply Pick.there)) ?_ | refine Part.free ?_)) (by kernel_rfl) ?_; (repeat (first | (refine WT.k_move rfl ?_; first | refine WT.take rfl rfl (fun _ _ _ h => h) (Yl.move rfl) rfl (by kernel_rfl) (by kernel_rfl) ?_) | (refine WT.k_assign rfl ?_; first | refine WT.take rfl rfl (fun _ _ _ h => h) (Yl.assign rfl) rfl (by kernel_rfl) (by kernel_rfl) ?_) | (refine WT.k_load rfl ?_; first | refine WT.take rfl rfl (fun _ _ _ h => h) (Yl.loadBlk (T := 77) Tryz.isAgg77 rfl (by repeat (first | exact .head _ | refine .tail _ ?_)) (by rfl)) rfl (by kernel_rfl) (by kernel_rfl) ?_ | refine WT.take rfl rfl (fun _ _ _ h => h) (Yl.loadBlk (T := 78) Tryz.isAgg78 rfl (by repeat (first | exact .head _ | refine .tail _ ?_)) (by rfl)) rfl (by kernel_rfl) (by kernel_rfl) ?_) | (refine WT.k_fld rfl ?_; first | refine WT.take rfl rfl (fun _ _ _ h => h) (Yl.fld0 (t := 80) Tryz.underlying80 fl80 rfl rfl) rfl (by kernel_rfl) (by kernel_rfl) ?_) | (refine WT.k_nilc rfl ?_; first | refine WT.take rfl rfl (fun _ _ _ h => h) (Yl.nilCheck rfl) rfl (by kernel_rfl) (by kernel_rfl) ?_) | (refine WT.k_bi .len rfl ?_; first | refine WT.take rfl rfl (fun _ _ _ h => h) (Yl.len (t := 38) Tryz.underlying38 rfl) rfl (by kernel_rfl) (by kernel_rfl) ?_) | (refine WT.k_bin .neq rfl ?_; first | refine WT.take rfl rfl (fun _ _ _ h => h) (Yl.strNeq rfl rfl) rfl (by kernel_rfl) (by kernel_rfl) ?_ | refine WT.take rfl rfl (fun _ _ _ h => h) (Yl.neq rfl rfl) rfl (by kernel_rfl) (by kernel_rfl) ?_))); refine WT.nil ?_)
    refine WH.only (i := 5) (by kernel_rfl) rfl ?_
    refine WL.lit (t := 38) (vs := []) Tryz.underlying38 elemU8 rfl rfl rfl (fun u hu => by cases hu) rfl fun bl => ?_
    refine WL.nil (WN.nextH (by repeat (first | exact Part.nil | refine Part.cons (by repeat (first | exact Pick.here | apply Pick.there)) ?_ | refine Part.free ?_)) ?_)
    refine WH.only (i := 7) (by kernel_rfl) rfl ?_
    refine WL.appendRow (t := 38) (n := 0) (m := n) (olds := []) (news := bs x) Tryz.underlying38 elemU8 rfl rfl (by repeat (first | exact Pick.here | apply Pick.there)) rfl (Nat.le_refl _) (Rd.out hr) (by rw [bs_length, hx, Nat.mul_one]) (bs_one _) (by omega) (by simp only [maxLen]; omega) rfl fun q2 hq2 => ?_
    simp only [Nat.zero_add, List.nil_append] at hq2 ⊢
    refine WL.nil (WN.nextH (by repeat (first | exact Part.nil | refine Part.cons (by repeat (first | exact Pick.here | apply Pick.there)) ?_ | refine Part.free ?_)) ?_)
    (refine WH.order [8] (by repeat (first | exact Part.nil | refine Part.cons (by repeat (first | exact Pick.here | apply Pick.there)) ?_ | refine Part.free ?_)) (by kernel_rfl) ?_; (repeat (first | (refine WT.k_move rfl ?_; first | refine WT.take rfl rfl (fun _ _ _ h => h) (Yl.move rfl) rfl (by kernel_rfl) (by kernel_rfl) ?_) | (refine WT.k_assign rfl ?_; first | refine WT.take rfl rfl (fun _ _ _ h => h) (Yl.assign rfl) rfl (by kernel_rfl) (by kernel_rfl) ?_) | (refine WT.k_idxa rfl ?_; first | refine WT.take rfl rfl (fun _ _ _ h => h) (Yl.indexAddrS (j := k) (n := fs.length) (ad := fad) (cap := p.cf) Tryz.underlying77 Tryz.sizeOf38 rfl rfl (by omega)) rfl (by kernel_rfl) (by kernel_rfl) ?_) | (refine WT.k_bi .len rfl ?_; first | refine WT.take rfl rfl (fun _ _ _ h => h) (Yl.len (t := 38) Tryz.underlying38 rfl) rfl (by kernel_rfl) (by kernel_rfl) ?_) | (refine WT.k_bin .neq rfl ?_; first | refine WT.take rfl rfl (fun _ _ _ h => h) (Yl.strNeq rfl rfl) rfl (by kernel_rfl) (by kernel_rfl) ?_ | refine WT.take rfl rfl (fun _ _ _ h => h) (Yl.neq rfl rfl) rfl (by kernel_rfl) (by kernel_rfl) ?_))); refine WT.nil ?_)
    refine WH.only (i := 9) (by kernel_rfl) rfl ?_
    refine WL.storeRow (T := 38) (i := k) (vs := svs fs) Tryz.sizeOf38 rfl rfl rfl (by repeat (first | exact Pick.here | apply Pick.there)) (by rw [svs_len]; omega) ?_
    have hso : (svs fs).set k (.slice q2.1 n q2.2) = svs (fs.set k ⟨q2.1, q2.2, x⟩) := by rw [← svs_set, Sl.v, hx]
    rw [hso]
    refine WL.nil (WN.nextH (by repeat (first | exact Part.nil | refine Part.cons (by repeat (first | exact Pick.here | apply Pick.there)) ?_ | refine Part.free ?_)) (WH.done (by kernel_rfl) ?_))
    (repeat (first | (refine WL.k_move ?_; first | refine WL.step (Yl.move rfl) rfl ?_) | (refine WL.k_assign ?_; first | refine WL.step (Yl.assign rfl) rfl ?_) | (refine WL.k_bi .len ?_; first | refine WL.step (Yl.len (t := 38) Tryz.underlying38 rfl) rfl ?_) | (refine WL.k_bin .neq ?_; first | refine WL.step (Yl.strNeq rfl rfl) rfl ?_ | refine WL.step (Yl.neq rfl rfl) rfl ?_) | refine WC.seq ?_ | refine WC.region ?_ | refine WL.nil ?_ | refine WN.then_normal ?_ | refine WC.skip ?_ | refine WC.ret ?_ | refine WN.then_ret ?_))
    refine WN.ret1S rfl rfl ⟨rfl, os, fs.set k ⟨q2.1, q2.2, x⟩, Is.set k true, [.row q2.1 q2.2 5 1 (bs x)], rfl, hok ⟨q2.1, q2.2, x⟩, fun y hy => ?_⟩ ?_
    · rcases List.mem_append.1 hy with h | h
      · exact .inl (List.mem_append_left _ h)
      · rcases List.mem_or_eq_of_mem_set h with h | rfl
        · exact .inl (List.mem_append_right _ h)
        · exact .inr (.inr ⟨by simp only; omega, _, .head _⟩)
    · simp only [rbI, hiad, hfad, List.length_set, List.cons_append, List.nil_append]
      exact (by repeat (first | exact Part.nil | refine Part.cons (by repeat (first | exact Pick.here | apply Pick.there)) ?_ | refine Part.free ?_))
  · rw [writeF, if_neg (fun h => h128 h.2), writeE, if_pos hc, if_neg h128]
    (repeat (first | (refine WL.k_move ?_; first | refine WL.step (Yl.move rfl) rfl ?_) | (refine WL.k_assign ?_; first | refine WL.step (Yl.assign rfl) rfl ?_) | (refine WL.k_call 58 ?_; first | refine WL.callV (g := 58) (v := .int .i64 0) Tryz.call58 rfl (fun w0 st => by have := rcheck_c (k : Int) w0 (hat st); rw [hc] at this; exact this) rfl ?_) | (refine WL.k_bin .neq ?_; first | refine WL.step (Yl.neqF rfl rfl rfl) rfl ?_ | refine WL.step (Yl.strNeq rfl rfl) rfl ?_ | refine WL.step (Yl.neq rfl rfl) rfl ?_) | (refine WL.k_bi .len ?_; first | refine WL.step (Yl.len (t := 38) Tryz.underlying38 rfl) rfl ?_) | refine WC.seq ?_ | refine WC.region ?_ | refine WL.nil ?_ | refine WN.then_normal ?_ | refine WC.skip ?_ | refine WC.ret ?_ | refine WN.then_ret ?_))
    refine WC.cond_false rfl rfl ?_
    (repeat (first | (refine WL.k_move ?_; first | refine WL.step (Yl.move rfl) rfl ?_) | (refine WL.k_assign ?_; first | refine WL.step (Yl.assign rfl) rfl ?_) | (refine WL.k_bi .len ?_; first | refine WL.step (Yl.len (t := 38) Tryz.underlying38 rfl) rfl ?_) | (refine WL.k_bin .neq ?_; first | refine WL.step (Yl.neqT rfl rfl (by omega)) rfl ?_ | refine WL.step (Yl.strNeq rfl rfl) rfl ?_ | refine WL.step (Yl.neq rfl rfl) rfl ?_) | refine WC.seq ?_ | refine WC.region ?_ | refine WL.nil ?_ | refine WN.then_normal ?_ | refine WC.skip ?_ | refine WC.ret ?_ | refine WN.then_ret ?_))
    refine WC.cond_true rfl rfl ?_
    (repeat (first | (refine WL.k_move ?_; first | refine WL.step (Yl.move rfl) rfl ?_) | (refine WL.k_assign ?_; first | refine WL.step (Yl.assign rfl) rfl ?_) | (refine WL.k_bi .len ?_; first | refine WL.step (Yl.len (t := 38) Tryz.underlying38 rfl) rfl ?_) | (refine WL.k_bin .neq ?_; first | refine WL.step (Yl.strNeq rfl rfl) rfl ?_ | refine WL.step (Yl.neq rfl rfl) rfl ?_) | refine WC.seq ?_ | refine WC.region ?_ | refine WL.nil ?_ | refine WN.then_normal ?_ | refine WC.skip ?_ | refine WC.ret ?_ | refine WN.then_ret ?_))
    exact WN.ret1S rfl rfl ⟨rfl, os, fs, Is, [], (List.append_nil _).symm, ok, fun y hy => .inl hy⟩ (Part.refl _)
end
end Go.Proofs.YtmmpngigaodcgaaGreat
