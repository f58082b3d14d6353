/- Laws of decoded bytes. -/
import Derived.Test.YtbfhdggfdhlkfaaNod16
namespace Go.Proofs.Ytbfhdggfdhlkfaa
set_option linter.unusedVariables false
set_option linter.unusedSimpArgs false
open Go Go.RowKit
set_option maxRecDepth 100000
set_option maxHeartbeats 8000000
theorem ndR (x : Nod.N) (p : Pl) : ndv x p = .agg (ndl x p).toArray := rfl
theorem enc_page {x : Nod.N} (h : Nod.Ok x) : Nod.encR x = (0, Nod.page x) := if_pos h
theorem enc_none {x : Nod.N} (h : ¬ Nod.Ok x) : Nod.encR x = (2, []) := if_neg h
theorem lsame_t (x : Nod.N) (p q : Pl) (w : World) (hx : x.Wf) (h : NdAt w x p) (g : NdAt w x q) : Calls Try.prog 30 #[ndv x p, ndv x q] w (Gives (Val (.bool true)) w) := by
  have := lsame_c x x p q w hx hx h g
  rwa [decide_eq_true rfl] at this
theorem rsame_t (x : Nod.N) (p q : Pl) (w : World) (hx : x.Wf) (h : NdAt w x p) (g : NdAt w x q) : Calls Try.prog 22 #[ndv x p, ndv x q] w (Gives (Val (.bool true)) w) := by
  have := rsame_c x x p q w hx hx h g
  rwa [decide_eq_true rfl] at this
theorem bsame_t (a b : Option Addr) (n m c1 c2 : Nat) (l : List UInt8) (w : World) (hl : l.length = n) (hk : l.length = m) (hn : n ≤ 9223372036854775807) (hr : CellsAt w a (bs l)) (hr2 : CellsAt w b (bs l)) : Calls Try.prog 21 #[.slice a n c1, .slice b m c2] w (Gives (Val (.bool true)) w) := by
  have := same_c a b n m c1 c2 l l w hl hk hn hr hr2
  rwa [decide_eq_true rfl] at this
attribute [local irreducible] WL WC WN Yl WH WQ WT WE WU Nod.page Nod.dec Nod.decE Nod.encR
theorem ldecodes_c (a : Option Addr) (n cap : Nat) (l : List UInt8) (w : World) (hl : l.length = n) (hc : n ≤ cap) (hr : CellsAt w a (bs l)) :
    Calls Try.prog 4 #[.slice a n cap] w (Gives (Val (.bool true)) w) := by
  refine enter (args := [_]) Try.func4 Try.ntmps4 rfl rfl ?_
  by_cases h1 : 1000 < n
  · (repeat (first | refine WL.step (Yl.move rfl) rfl ?_ | refine WL.step (Yl.assign rfl) rfl ?_ | refine WL.step (Yl.len (t := 34) Try.underlying34 rfl) rfl ?_ | (refine WL.k_bin .gtr ?_; refine WL.step (Yl.gtrT rfl rfl (by omega)) rfl ?_) | refine WC.seq ?_ | refine WC.region ?_ | refine WL.nil ?_ | refine WN.then_normal ?_))
    refine WC.cond_true rfl rfl ?_
    (repeat (first | refine WL.step (Yl.assign rfl) rfl ?_ | (refine WL.k_call 13 ?_; refine WL.callV (g := 13) Try.call13 rfl (fun w s => works38_c w) rfl ?_) | refine WC.seq ?_ | refine WC.region ?_ | refine WL.nil ?_ | refine WN.then_normal ?_ | refine WC.ret ?_ | refine WN.then_ret ?_))
    exact WN.ret1 rfl rfl ⟨rfl, rfl⟩ .nil
  · have hwf := Nod.dec_wf l
    (repeat (first | refine WL.step (Yl.move rfl) rfl ?_ | refine WL.step (Yl.assign rfl) rfl ?_ | refine WL.step (Yl.len (t := 34) Try.underlying34 rfl) rfl ?_ | (refine WL.k_bin .gtr ?_; refine WL.step (Yl.gtrF rfl rfl (by omega)) rfl ?_) | refine WC.seq ?_ | refine WC.region ?_ | refine WL.nil ?_ | refine WN.then_normal ?_))
    refine WC.cond_false rfl rfl ?_
    (repeat (first | refine WL.step (Yl.move rfl) rfl ?_ | refine WC.seq ?_ | refine WC.region ?_ | refine WN.then_normal ?_ | refine WC.skip ?_))
    refine WL.call (g := 23) Try.call23 rfl (fun w s => decode_c a n cap l w hl hc (Rd.old hr w s)) rfl fun v1 B1 hv1 => ?_
    obtain ⟨p1, g1, g2, g3, rfl, rfl⟩ := hv1
    simp only [List.cons_append, List.nil_append]
    (repeat (first | refine WL.step (Yl.move rfl) rfl ?_ | refine WL.step (Yl.extract rfl rfl) rfl ?_))
    refine WL.allocA Try.zeroValue26 rfl fun b3 => ?_
    refine WL.storeWhole (k := 4) (us := (ndl (Nod.dec l) p1).toArray) Try.sizeOf26 rfl rfl rfl (by repeat (first | exact Pick.here | apply Pick.there)) rfl rfl ?_
    (repeat (first | refine WL.step (Yl.move rfl) rfl ?_ | refine WL.step (Yl.assign rfl) rfl ?_ | refine WC.seq ?_ | refine WC.region ?_ | refine WL.nil ?_ | refine WN.then_normal ?_))
    refine WL.call (g := 24) Try.call24 rfl (fun w s => rdecode_c a n cap l w hl hc (Rd.old hr w s)) rfl fun v1 B1 hv1 => ?_
    obtain ⟨p2, k1, k2, k3, rfl, rfl⟩ := hv1
    simp only [List.cons_append, List.nil_append]
    (repeat (first | refine WL.step (Yl.move rfl) rfl ?_ | refine WL.step (Yl.extract rfl rfl) rfl ?_))
    refine WL.allocA Try.zeroValue32 rfl fun b5 => ?_
    refine WL.storeWhole (k := 4) (us := (ndl (Nod.dec l) p2).toArray) Try.sizeOf32 rfl rfl rfl (by repeat (first | exact Pick.here | apply Pick.there)) rfl rfl ?_
    (repeat (first | refine WL.step (Yl.assign rfl) rfl ?_ | refine WC.seq ?_ | refine WL.nil ?_ | refine WN.then_normal ?_))
    refine WC.regionH [.blk b5 (.cells (ndl (Nod.dec l) p2).toArray 32 (0, 0)), .blk b3 (.cells (ndl (Nod.dec l) p1).toArray 26 (0, 0))] (by kernel_rfl) ?_
    (refine WH.order [0, 2] (by repeat (first | exact Part.nil | refine Part.cons (by repeat (first | exact Pick.here | apply Pick.there)) ?_ | refine Part.free ?_)) (by kernel_rfl) ?_; (repeat (first | (refine WT.k_load rfl ?_; (refine WT.kn rfl ?_; first | refine WT.take rfl rfl (fun _ _ _ h => h) (Yl.loadAll (T := 26) (T' := 26) Try.isAgg26 Try.sizeOf26 rfl (by repeat (first | exact .head _ | refine .tail _ ?_)) rfl) rfl (by kernel_rfl) (by kernel_rfl) ?_ | refine WT.take rfl rfl (fun _ _ _ h => h) (Yl.loadAll (T := 32) (T' := 32) Try.isAgg32 Try.sizeOf32 rfl (by repeat (first | exact .head _ | refine .tail _ ?_)) rfl) rfl (by kernel_rfl) (by kernel_rfl) ?_)))); refine WT.nil ?_)
    refine WH.only (i := 1) (by kernel_rfl) rfl ?_
    refine WL.call (g := 14) Try.call14 rfl (fun w s => lref_c (Nod.dec l) p1 w hwf (NdRd.at_ ⟨Rd.row (by repeat (first | exact .head _ | refine .tail _ ?_)), Rd.row (by repeat (first | exact .head _ | refine .tail _ ?_)), Rd.row (by repeat (first | exact .head _ | refine .tail _ ?_)), g1, g2, g3⟩ s)) rfl fun v1 B1 hv1 => ?_
    obtain ⟨q1, q2, hq1, hq2, rfl, rfl⟩ := hv1
    simp only [List.cons_append, List.nil_append]
    refine WL.nil (WN.nextH (by repeat (first | exact Part.nil | refine Part.cons (by repeat (first | exact Pick.here | apply Pick.there)) ?_ | refine Part.free ?_)) ?_)
    refine WH.only (i := 3) (by kernel_rfl) rfl ?_
    refine WL.callV (g := 22) (v := .bool true) Try.call22 rfl (fun w s => rsame_t (Nod.dec l) ⟨q1.1, q1.2, q2.1, q2.2, p1.ca, p1.cc⟩ p2 w hwf (NdRd.at_ ⟨Rd.row (by repeat (first | exact .head _ | refine .tail _ ?_)), Rd.row (by repeat (first | exact .head _ | refine .tail _ ?_)), Rd.row (by repeat (first | exact .head _ | refine .tail _ ?_)), hq1, hq2, g3⟩ s) (NdRd.at_ ⟨Rd.row (by repeat (first | exact .head _ | refine .tail _ ?_)), Rd.row (by repeat (first | exact .head _ | refine .tail _ ?_)), Rd.row (by repeat (first | exact .head _ | refine .tail _ ?_)), k1, k2, k3⟩ s)) rfl ?_
    refine WL.nil (WN.nextH (by repeat (first | exact Part.nil | refine Part.cons (by repeat (first | exact Pick.here | apply Pick.there)) ?_ | refine Part.free ?_)) ?_)
    (refine WH.order [4, 5, 6, 7, 8, 9] (by repeat (first | exact Part.nil | refine Part.cons (by repeat (first | exact Pick.here | apply Pick.there)) ?_ | refine Part.free ?_)) (by kernel_rfl) ?_; (repeat (first | (refine WT.k_move rfl ?_; first | (refine WT.kn rfl ?_; refine WT.take rfl rfl (fun _ _ _ h => h) (Yl.move rfl) rfl (by kernel_rfl) (by kernel_rfl) ?_) | (refine WT.kg rfl ?_; refine WT.takeG rfl rfl rfl rfl (fun _ _ _ h => h) (Yl.move rfl) rfl (by kernel_rfl) (by kernel_rfl) ?_)) | (refine WT.k_pick rfl ?_; (refine WT.kn rfl ?_; refine WT.take rfl rfl (fun _ _ _ h => h) (Yl.pick_t rfl rfl rfl) rfl (by kernel_rfl) (by kernel_rfl) ?_)) | (refine WT.k_bin .eql rfl ?_; (refine WT.kg rfl ?_; refine WT.takeG rfl rfl rfl rfl (fun _ _ _ h => h) (Yl.eqlT rfl rfl rfl) rfl (by kernel_rfl) (by kernel_rfl) ?_)))); refine WT.nil ?_)
    refine WH.only (i := 10) (by kernel_rfl) rfl ?_
    refine WL.want rfl rfl rfl ?_
    refine WL.callV (g := 13) (v := .bool true) Try.call13 rfl (fun w s => works38_c w) rfl ?_
    refine WL.nil (WN.nextH (by repeat (first | exact Part.nil | refine Part.cons (by repeat (first | exact Pick.here | apply Pick.there)) ?_ | refine Part.free ?_)) ?_)
    (refine WH.order [11, 12] (by repeat (first | exact Part.nil | refine Part.cons (by repeat (first | exact Pick.here | apply Pick.there)) ?_ | refine Part.free ?_)) (by kernel_rfl) ?_; (repeat (first | (refine WT.k_assign rfl ?_; (refine WT.kn rfl ?_; refine WT.take rfl rfl (fun _ _ _ h => h) (Yl.assign rfl) rfl (by kernel_rfl) (by kernel_rfl) ?_)) | (refine WT.k_pick rfl ?_; (refine WT.kn rfl ?_; refine WT.take rfl rfl (fun _ _ _ h => h) (Yl.pick_t rfl rfl rfl) rfl (by kernel_rfl) (by kernel_rfl) ?_)))); refine WT.nil ?_)
    refine WH.done (by kernel_rfl) ?_
    (repeat (first | refine WN.then_normal ?_ | refine WC.ret ?_))
    exact WN.ret1 rfl rfl ⟨rfl, rfl⟩ .nil
end Go.Proofs.Ytbfhdggfdhlkfaa
