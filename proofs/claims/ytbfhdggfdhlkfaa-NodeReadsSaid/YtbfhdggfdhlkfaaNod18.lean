/- What is decoded is encoded to the same bytes. -/
import Derived.Test.YtbfhdggfdhlkfaaNod17
namespace Go.Proofs.Ytbfhdggfdhlkfaa
set_option linter.unusedVariables false
set_option linter.unusedSimpArgs false
open Go Go.RowKit
set_option maxRecDepth 100000
set_option maxHeartbeats 8000000
attribute [local irreducible] WL WC WN Yl WH WQ WT WE WU Nod.page Nod.dec Nod.decE Nod.encR
theorem lreads_c (a : Option Addr) (n cap : Nat) (l : List UInt8) (w : World) (hl : l.length = n) (hc : n ≤ cap) (hr : CellsAt w a (bs l)) :
    Calls Try.prog 7 #[.slice a n cap] w (Gives (Val (.bool true)) w) := by
  refine enter (args := [_]) Try.func7 Try.ntmps7 rfl rfl ?_
  by_cases h1 : 600 < n
  · (repeat (first | refine WL.step (Yl.move rfl) rfl ?_ | refine WL.step (Yl.assign rfl) rfl ?_ | refine WL.step (Yl.len (t := 34) Try.underlying34 rfl) rfl ?_ | (refine WL.k_bin .gtr ?_; refine WL.step (Yl.gtrT rfl rfl (by omega)) rfl ?_) | refine WC.seq ?_ | refine WC.region ?_ | refine WL.nil ?_ | refine WN.then_normal ?_))
    refine WC.cond_true rfl rfl ?_
    (repeat (first | refine WL.step (Yl.assign rfl) rfl ?_ | (refine WL.k_call 13 ?_; refine WL.callV (g := 13) Try.call13 rfl (fun w s => works38_c w) rfl ?_) | refine WC.seq ?_ | refine WC.region ?_ | refine WL.nil ?_ | refine WN.then_normal ?_ | refine WC.ret ?_ | refine WN.then_ret ?_))
    exact WN.ret1 rfl rfl ⟨rfl, rfl⟩ .nil
  · have hwf := Nod.dec_wf l
    (repeat (first | refine WL.step (Yl.move rfl) rfl ?_ | refine WL.step (Yl.assign rfl) rfl ?_ | refine WL.step (Yl.len (t := 34) Try.underlying34 rfl) rfl ?_ | (refine WL.k_bin .gtr ?_; refine WL.step (Yl.gtrF rfl rfl (by omega)) rfl ?_) | refine WC.seq ?_ | refine WC.region ?_ | refine WL.nil ?_ | refine WN.then_normal ?_))
    refine WC.cond_false rfl rfl ?_
    (repeat (first | refine WL.step (Yl.move rfl) rfl ?_ | refine WC.seq ?_ | refine WC.region ?_ | refine WN.then_normal ?_ | refine WC.skip ?_))
    have hd := fun w (s : CellsAt w a (bs l)) => decode_c a n cap l w hl hc s
    by_cases hg : Nod.Good l
    · have ho := hg.2.2.2.1
      have hp := hg.2.2.2.2
      have e1 := (Nod.dec_good hg).1
      rw [(Nod.dec_good hg).2] at hd
      rw [← e1] at ho hp
      have hen := fun w p (h : NdAt w (Nod.dec l) p) => encode_c (Nod.dec l) p w hwf h
      rw [enc_page ho, hp] at hen
      have hck := fun w p (h : NdAt w (Nod.dec l) p) => check_c (Nod.dec l) p w hwf h
      rw [err_ok ho] at hck
      refine WL.call (g := 23) Try.call23 rfl (fun w s => hd w (Rd.old hr w s)) rfl fun v1 B1 hv1 => ?_
      obtain ⟨p1, g1, g2, g3, rfl, rfl⟩ := hv1
      simp only [List.cons_append, List.nil_append]
      (repeat (first | refine WL.step (Yl.move rfl) rfl ?_ | refine WL.step (Yl.extract rfl rfl) rfl ?_))
      refine WL.allocA Try.zeroValue26 rfl fun b3 => ?_
      refine WL.storeWhole (k := 4) (us := (ndl (Nod.dec l) p1).toArray) Try.sizeOf26 rfl rfl rfl (by repeat (first | exact Pick.here | apply Pick.there)) rfl rfl ?_
      (repeat (first | refine WL.step (Yl.move rfl) rfl ?_ | refine WL.step (Yl.assign rfl) rfl ?_ | refine WL.step (Yl.neqF rfl rfl rfl) rfl ?_ | refine WC.seq ?_ | refine WC.region ?_ | refine WL.nil ?_ | refine WN.then_normal ?_))
      refine WC.cond_false rfl rfl ?_
      (repeat (first | (refine WL.k_load ?_; refine WL.step (Yl.loadAll (T := 26) (T' := 26) Try.isAgg26 Try.sizeOf26 rfl (by repeat (first | exact .head _ | refine .tail _ ?_)) rfl) rfl ?_) | refine WC.seq ?_ | refine WC.region ?_ | refine WN.then_normal ?_ | refine WC.skip ?_))
      refine WL.callR (g := 15) Try.call15 rfl (fun w s => hen w p1 (NdRd.at_ ⟨Rd.row (by repeat (first | exact .head _ | refine .tail _ ?_)), Rd.row (by repeat (first | exact .head _ | refine .tail _ ?_)), Rd.row (by repeat (first | exact .head _ | refine .tail _ ?_)), g1, g2, g3⟩ s)) rfl fun q hq => ?_
      obtain ⟨qa, qc⟩ := q
      simp only at hq ⊢
      (repeat (first | refine WL.want rfl rfl rfl ?_ | refine WL.step (Yl.move rfl) rfl ?_ | refine WL.step (Yl.assign rfl) rfl ?_ | refine WL.step (Yl.extract rfl rfl) rfl ?_ | (refine WL.k_load ?_; refine WL.step (Yl.loadAll (T := 26) (T' := 26) Try.isAgg26 Try.sizeOf26 rfl (by repeat (first | exact .head _ | refine .tail _ ?_)) rfl) rfl ?_) | refine WL.step (Yl.pick_t rfl rfl rfl) rfl ?_ | (refine WL.k_call 19 ?_; refine WL.callV (g := 19) Try.call19 rfl (fun w s => hck w p1 (NdRd.at_ ⟨Rd.row (by repeat (first | exact .head _ | refine .tail _ ?_)), Rd.row (by repeat (first | exact .head _ | refine .tail _ ?_)), Rd.row (by repeat (first | exact .head _ | refine .tail _ ?_)), g1, g2, g3⟩ s)) rfl ?_) | refine WL.step (Yl.eqlT rfl rfl rfl) rfl ?_ | (refine WL.k_call 21 ?_; refine WL.callV (g := 21) (v := .bool true) Try.call21 rfl (fun w s => bsame_t a qa n l.length cap qc l w hl rfl (by omega) (Rd.old hr w s) (Rd.row (by repeat (first | exact .head _ | refine .tail _ ?_)) w s)) rfl ?_) | (refine WL.k_call 13 ?_; refine WL.callV (g := 13) Try.call13 rfl (fun w s => works38_c w) rfl ?_) | refine WC.seq ?_ | refine WC.region ?_ | refine WL.nil ?_ | refine WN.then_normal ?_ | refine WC.ret ?_))
      exact WN.ret1 rfl rfl ⟨rfl, rfl⟩ .nil
    · rw [(Nod.dec_bad hg).1, (Nod.dec_bad hg).2] at hd
      refine WL.call (g := 23) Try.call23 rfl (fun w s => hd w (Rd.old hr w s)) rfl fun v1 B1 hv1 => ?_
      obtain ⟨p1, g1, g2, g3, rfl, rfl⟩ := hv1
      simp only [List.cons_append, List.nil_append]
      (repeat (first | refine WL.step (Yl.move rfl) rfl ?_ | refine WL.step (Yl.extract rfl rfl) rfl ?_))
      refine WL.allocA Try.zeroValue26 rfl fun b3 => ?_
      refine WL.storeWhole (T := 26) (k := 4) (us := (ndl Nod.zero p1).toArray) Try.sizeOf26 rfl rfl rfl (by repeat (first | exact Pick.here | apply Pick.there)) rfl rfl ?_
      (repeat (first | refine WL.step (Yl.move rfl) rfl ?_ | refine WL.step (Yl.assign rfl) rfl ?_ | (refine WL.k_bin .neq ?_; refine WL.step (Yl.neqT rfl rfl (by decide)) rfl ?_) | refine WC.seq ?_ | refine WC.region ?_ | refine WL.nil ?_ | refine WN.then_normal ?_))
      refine WC.cond_true rfl rfl ?_
      (repeat (first | refine WL.want rfl rfl rfl ?_ | refine WL.step (Yl.move rfl) rfl ?_ | refine WL.step (Yl.assign rfl) rfl ?_ | (refine WL.k_load ?_; refine WL.step (Yl.loadAll (T := 26) (T' := 26) Try.isAgg26 Try.sizeOf26 rfl (by repeat (first | exact .head _ | refine .tail _ ?_)) rfl) rfl ?_) | refine WL.step (Yl.pick_t rfl rfl rfl) rfl ?_ | refine WL.step (Yl.eqlT rfl rfl rfl) rfl ?_ | refine WL.step (Yl.build (ps := []) rfl buildZ) rfl ?_ | (refine WL.k_call 30 ?_; refine WL.callV (g := 30) (v := .bool true) Try.call30 rfl (fun w s => lsame_t Nod.zero p1 pz w Nod.zero_wf (NdRd.at_ ⟨Rd.row (by repeat (first | exact .head _ | refine .tail _ ?_)), Rd.row (by repeat (first | exact .head _ | refine .tail _ ?_)), Rd.row (by repeat (first | exact .head _ | refine .tail _ ?_)), g1, g2, g3⟩ s) (zero_at w)) rfl ?_) | (refine WL.k_call 13 ?_; refine WL.callV (g := 13) Try.call13 rfl (fun w s => works38_c w) rfl ?_) | refine WC.seq ?_ | refine WC.region ?_ | refine WL.nil ?_ | refine WN.then_normal ?_ | refine WC.ret ?_ | refine WN.then_ret ?_))
      exact WN.ret1 rfl rfl ⟨rfl, rfl⟩ .nil
end Go.Proofs.Ytbfhdggfdhlkfaa
