/- Pages and back: each valid node is decoded from its page; no other page is that of the same node. -/
import Derived.Test.YtbfhdggfdhlkfaaNod17
namespace Go.Proofs.Ytbfhdggfdhlkfaa
set_option linter.unusedVariables false
set_option linter.unusedSimpArgs false
open Go Go.RowKit
set_option maxRecDepth 100000
set_option maxHeartbeats 8000000
theorem nxor_ne {c h : UInt8} (hh : h ≠ 0) : c ^^^ h ≠ c := fun e => hh (by
  have : c ^^^ (c ^^^ h) = c ^^^ c := by rw [e]
  rwa [← UInt8.xor_assoc, UInt8.xor_self, UInt8.zero_xor] at this)
theorem nxor_bv (a b : UInt8) : Value.int .u8 ((a.toNat ^^^ b.toNat : Nat) : Int) = bv (a ^^^ b) := by unfold bv; rw [UInt8.toNat_xor]
theorem set_same {P : List UInt8} {k : Nat} {how : UInt8} (hk : k < P.length) : P.set k (P.getD k 0 ^^^ how) = P ↔ how = 0 := by
  have hg : P.getD k 0 = P[k] := by simp [List.getD, hk]
  constructor
  · intro h
    refine Decidable.not_not.1 fun hh => nxor_ne (c := P[k]) hh ?_
    have h2 := congrArg (fun l : List UInt8 => l[k]?) h
    simp only [List.getElem?_set_self hk, List.getElem?_eq_getElem hk, hg, Option.some.injEq] at h2
    exact h2
  · rintro rfl
    rw [hg, UInt8.xor_zero, List.set_getElem_self]
theorem how_zero (how : UInt8) : ((how.toNat : Int) = 0) ↔ how = 0 := ⟨fun h => UInt8.toNat_inj.1 (by show how.toNat = 0; omega), fun h => by rw [h]; rfl⟩
theorem good_parts {C : List UInt8} (h : Nod.Good C) : Nod.Ok (Nod.raw C) ∧ Nod.page (Nod.raw C) = C := ⟨h.2.2.2.1, h.2.2.2.2⟩
attribute [local irreducible] WL WC WN Yl WH WQ WT WE WU Nod.page Nod.dec Nod.decE Nod.encR Nod.made Nod.raw Nod.Good
theorem lback_c (d : Nod.D) (sa va ka : Option Addr) (sc vc cc s : Nat) (how : UInt8) (w : World) (hs : s < 65536) (hD : d.Wf) (h : DAt w d sa va ka) :
    Calls Try.prog 6 #[drv d.leaf d.first sa va ka d.steps.length sc d.vals.length vc d.kids.length cc, .int .u16 (s : Int), bv how] w (Gives (Val (.bool true)) w) := by
  have hxw := Nod.made_wf hD false
  have hok := Nod.made_ok hD
  have hmade := fun w h => made_c d false sa va ka sc vc cc w hD h
  generalize Nod.made d false = x at *
  have hgp := Nod.good_page hxw hok
  have hrp := Nod.raw_page hxw hok
  have hpl := Nod.page_len hxw hok
  have hdec : Nod.dec (Nod.page x) = x := (Nod.dec_good hgp).1.trans hrp
  have hen := fun w p h => encode_c x p w hxw h
  rw [enc_page hok] at hen
  have hck := fun w p h => check_c x p w hxw h
  rw [err_ok hok] at hck
  have hd1 := fun a c w (h1 : 512 ≤ c) (h : CellsAt w a (bs (Nod.page x))) => decode_c a 512 c (Nod.page x) w hpl h1 h
  rw [hdec, (Nod.dec_good hgp).2] at hd1
  have hk : s % 512 < (Nod.page x).length := by rw [hpl]; omega
  have hss := set_same (how := how) hk
  have hpc : ∀ m, Nod.page m = (Nod.page x).set (s % 512) ((Nod.page x).getD (s % 512) 0 ^^^ how) → Nod.raw ((Nod.page x).set (s % 512) ((Nod.page x).getD (s % 512) 0 ^^^ how)) = m → (decide (m = x) = decide ((how.toNat : Int) = 0)) := fun m h1 h2 => by
    rw [decide_eq_decide, how_zero, ← hss]
    constructor
    · rintro rfl; exact h1.symm
    · intro e; rw [e, hrp] at h2; exact h2.symm
  have hbad : ¬ Nod.Good ((Nod.page x).set (s % 512) ((Nod.page x).getD (s % 512) 0 ^^^ how)) → ¬ (how.toNat : Int) = 0 := fun h e => h (by rw [hss.2 ((how_zero how).1 e)]; exact hgp)
  have hcl : ((Nod.page x).set (s % 512) ((Nod.page x).getD (s % 512) 0 ^^^ how)).length = 512 := by rw [List.length_set, hpl]
  refine enter (args := [_, _, .int .u8 (how.toNat : Int)]) Try.func6 Try.ntmps6 rfl rfl ?_
  (repeat (first | refine WL.step (Yl.assign rfl) rfl ?_ | refine WL.boxA (cs := #[.bool d.leaf, .int .u64 (d.first : Int), .slice sa d.steps.length sc, .slice va d.vals.length vc, .slice ka d.kids.length cc]) rfl rfl fun b3 => ?_ | refine WC.seq ?_ | refine WC.region ?_ | refine WL.nil ?_ | refine WN.then_normal ?_))
  (repeat (first | (refine WL.k_load ?_; refine WL.step (Yl.loadAll (T := 65) (T' := 65) Try.isAgg65 Try.sizeOf65 rfl (by repeat (first | exact .head _ | refine .tail _ ?_)) rfl) rfl ?_)))
  refine WL.call (g := 29) Try.call29 rfl (fun w s => hmade w ((DAt.old h).at_ s)) rfl fun v1 B1 hv1 => ?_
  obtain ⟨p1, g1, g2, g3, rfl, rfl⟩ := hv1
  simp only [List.cons_append, List.nil_append, id]
  refine WL.allocA Try.zeroValue26 rfl fun b7 => ?_
  refine WL.storeWhole (T := 26) (k := 4) (us := (ndl x p1).toArray) Try.sizeOf26 rfl rfl rfl (by repeat (first | exact Pick.here | apply Pick.there)) rfl rfl ?_
  (repeat (first | (refine WL.k_load ?_; refine WL.step (Yl.loadAll (T := 26) (T' := 26) Try.isAgg26 Try.sizeOf26 rfl (by repeat (first | exact .head _ | refine .tail _ ?_)) rfl) rfl ?_) | refine WC.seq ?_ | refine WC.region ?_ | refine WL.nil ?_ | refine WN.then_normal ?_))
  refine WL.callR (g := 15) Try.call15 rfl (fun w s => hen w p1 (NdRd.at_ ⟨Rd.row (by repeat (first | exact .head _ | refine .tail _ ?_)), Rd.row (by repeat (first | exact .head _ | refine .tail _ ?_)), Rd.row (by repeat (first | exact .head _ | refine .tail _ ?_)), g1, g2, g3⟩ s)) rfl fun q hq => ?_
  obtain ⟨qa, qc⟩ := q
  simp only [hpl] at hq ⊢
  (repeat (first | refine WL.step (Yl.move rfl) rfl ?_ | refine WL.step (Yl.assign rfl) rfl ?_ | refine WL.step (Yl.extract rfl rfl) rfl ?_ | refine WC.seq ?_ | refine WC.region ?_ | refine WL.nil ?_ | refine WN.then_normal ?_))
  refine WL.call (g := 23) Try.call23 rfl (fun w s => hd1 qa qc w hq (Rd.row (by repeat (first | exact .head _ | refine .tail _ ?_)) w s)) rfl fun v1 B1 hv1 => ?_
  obtain ⟨p2, k1, k2, k3, rfl, rfl⟩ := hv1
  simp only [List.cons_append, List.nil_append]
  (repeat (first | refine WL.step (Yl.move rfl) rfl ?_ | refine WL.step (Yl.extract rfl rfl) rfl ?_))
  refine WL.allocA Try.zeroValue26 rfl fun b10 => ?_
  refine WL.storeWhole (T := 26) (k := 4) (us := (ndl x p2).toArray) Try.sizeOf26 rfl rfl rfl (by repeat (first | exact Pick.here | apply Pick.there)) rfl rfl ?_
  (repeat (first | refine WL.want rfl rfl rfl ?_ | refine WL.step (Yl.move rfl) rfl ?_ | refine WL.step (Yl.assign rfl) rfl ?_ | (refine WL.k_load ?_; first | refine WL.step (Yl.loadAll (T := 26) (T' := 26) (b := b7) (cs := (ndl x p1).toArray) (fr := (0, 0)) Try.isAgg26 Try.sizeOf26 rfl (by repeat (first | exact .head _ | refine .tail _ ?_)) rfl) rfl ?_ | refine WL.step (Yl.loadAll (T := 26) (T' := 26) (b := b10) (cs := (ndl x p2).toArray) (fr := (0, 0)) Try.isAgg26 Try.sizeOf26 rfl (by repeat (first | exact .head _ | refine .tail _ ?_)) rfl) rfl ?_) | refine WL.step (Yl.pick_f rfl rfl rfl) rfl ?_ | (refine WL.k_call 19 ?_; refine WL.callV (g := 19) Try.call19 rfl (fun w s => hck w p1 (NdRd.at_ ⟨Rd.row (by repeat (first | exact .head _ | refine .tail _ ?_)), Rd.row (by repeat (first | exact .head _ | refine .tail _ ?_)), Rd.row (by repeat (first | exact .head _ | refine .tail _ ?_)), g1, g2, g3⟩ s)) rfl ?_) | refine WL.step (Yl.neqF rfl rfl rfl) rfl ?_ | refine WL.step (Yl.len (t := 34) Try.underlying34 rfl) rfl ?_ | (refine WL.k_call 30 ?_; refine WL.callV (g := 30) (v := .bool true) Try.call30 rfl (fun w s => lsame_t x p2 p1 w hxw (NdRd.at_ ⟨Rd.row (by repeat (first | exact .head _ | refine .tail _ ?_)), Rd.row (by repeat (first | exact .head _ | refine .tail _ ?_)), Rd.row (by repeat (first | exact .head _ | refine .tail _ ?_)), k1, k2, k3⟩ s) (NdRd.at_ ⟨Rd.row (by repeat (first | exact .head _ | refine .tail _ ?_)), Rd.row (by repeat (first | exact .head _ | refine .tail _ ?_)), Rd.row (by repeat (first | exact .head _ | refine .tail _ ?_)), g1, g2, g3⟩ s)) rfl ?_) | refine WL.step (Yl.not rfl) rfl ?_ | refine WC.seq ?_ | refine WC.region ?_ | refine WL.nil ?_ | refine WN.then_normal ?_))
  refine WC.cond_false rfl rfl ?_
  (repeat (first | refine WC.seq ?_ | refine WC.region ?_ | refine WN.then_normal ?_ | refine WC.skip ?_))
  refine WL.lit (t := 34) (vs := []) Try.underlying34 elemU8 rfl rfl rfl (fun u hu => by cases hu) rfl fun bl => ?_
  (repeat (first | refine WL.step (Yl.move rfl) rfl ?_))
  refine WL.appendRow (t := 34) (n := 0) (m := 512) (olds := []) (news := bs (Nod.page x)) Try.underlying34 elemU8 rfl rfl (by repeat (first | exact Pick.here | apply Pick.there)) rfl (Nat.le_refl _) (Rd.row (by repeat (first | exact .head _ | refine .tail _ ?_))) (by rw [bs_length, hpl]) (bs_one _) (by decide) (by decide) rfl fun q2 hq2 => ?_
  obtain ⟨ra, rc⟩ := q2
  simp only [Nat.zero_add, List.nil_append] at hq2 ⊢
  (repeat (first | refine WL.step (Yl.move rfl) rfl ?_ | refine WL.step (Yl.assign rfl) rfl ?_ | (refine WL.k_conv ?_; refine WL.step (Yl.conv64 (s := 66) (t := 3) Try.underlying66 Try.underlying3 rfl (by omega)) rfl ?_) | refine WL.step (Yl.len (t := 34) Try.underlying34 rfl) rfl ?_ | (refine WL.k_bin .rem ?_; refine WL.step (Yl.remN (n := 512) rfl rfl (by decide)) rfl ?_) | refine WC.seq ?_ | refine WC.region ?_ | refine WL.nil ?_ | refine WN.then_normal ?_))
  have hb := byte_lt ((Nod.page x).getD (s % 512) 0)
  have hb2 := byte_lt how
  (repeat (first | refine WL.step (Yl.move rfl) rfl ?_ | (refine WL.k_load ?_; refine WL.step (Yl.load (T := 5) (i := s % 512) Try.isAgg5 rfl (Rd.row (vs := bs (Nod.page x)) (T := 5) (k := 1) (cap := rc) (by repeat (first | exact .head _ | refine .tail _ ?_))) (bs_get hk)) rfl ?_) | (refine WL.k_idxa ?_; refine WL.step (Yl.indexAddr1 (t := 34) (j := s % 512) Try.underlying34 Try.sizeOf5 rfl rfl (Rd.row (vs := bs (Nod.page x)) (T := 5) (k := 1) (cap := rc) (by repeat (first | exact .head _ | refine .tail _ ?_))) (bs_ne hk) (by omega)) rfl ?_) | (refine WL.k_bin .xor ?_; refine WL.step (Yl.xorN rfl rfl rfl (by show _ < 256; omega) (by show _ < 256; omega)) rfl ?_)))
  rw [nxor_bv]
  refine WL.storeRow (T := 5) (i := s % 512) (vs := bs (Nod.page x)) Try.sizeOf5 rfl rfl rfl (by repeat (first | exact Pick.here | apply Pick.there)) (by rw [bs_length]; exact hk) ?_
  rw [← bs_set]
  generalize (Nod.page x).set (s % 512) ((Nod.page x).getD (s % 512) 0 ^^^ how) = C at *
  have hcw := Nod.dec_wf C
  have hd2 := fun w (h : CellsAt w ra (bs C)) => decode_c ra 512 rc C w hcl hq2 h
  (repeat (first | refine WL.step (Yl.move rfl) rfl ?_ | refine WC.seq ?_ | refine WC.region ?_ | refine WL.nil ?_ | refine WN.then_normal ?_))
  by_cases hg : Nod.Good C
  · rw [(Nod.dec_good hg).2] at hd2
    have hm : Nod.raw C = Nod.dec C := (Nod.dec_good hg).1.symm
    have hmo : Nod.Ok (Nod.dec C) := by rw [← hm]; exact (good_parts hg).1
    have hmp : Nod.page (Nod.dec C) = C := by rw [← hm]; exact (good_parts hg).2
    have hpd := hpc (Nod.dec C) hmp hm
    generalize Nod.dec C = m at *
    have hen2 := fun w p h => encode_c m p w hcw h
    rw [enc_page hmo, hmp] at hen2
    refine WL.call (g := 23) Try.call23 rfl (fun w s => hd2 w (Rd.row (by repeat (first | exact .head _ | refine .tail _ ?_)) w s)) rfl fun v1 B1 hv1 => ?_
    obtain ⟨p3, j1, j2, j3, rfl, rfl⟩ := hv1
    simp only [List.cons_append, List.nil_append]
    (repeat (first | refine WL.step (Yl.move rfl) rfl ?_ | refine WL.step (Yl.extract rfl rfl) rfl ?_))
    refine WL.allocA Try.zeroValue26 rfl fun b13 => ?_
    refine WL.storeWhole (T := 26) (k := 4) (us := (ndl m p3).toArray) Try.sizeOf26 rfl rfl rfl (by repeat (first | exact Pick.here | apply Pick.there)) rfl rfl ?_
    (repeat (first | refine WL.step (Yl.move rfl) rfl ?_ | refine WL.step (Yl.assign rfl) rfl ?_ | refine WL.step (Yl.neqF rfl rfl rfl) rfl ?_ | refine WC.seq ?_ | refine WC.region ?_ | refine WL.nil ?_ | refine WN.then_normal ?_))
    refine WC.cond_false rfl rfl ?_
    (repeat (first | (refine WL.k_load ?_; refine WL.step (Yl.loadAll (T := 26) (T' := 26) (b := b13) (cs := (ndl m p3).toArray) (fr := (0, 0)) Try.isAgg26 Try.sizeOf26 rfl (by repeat (first | exact .head _ | refine .tail _ ?_)) rfl) rfl ?_) | refine WC.seq ?_ | refine WC.region ?_ | refine WN.then_normal ?_ | refine WC.skip ?_))
    refine WL.callR (g := 15) Try.call15 rfl (fun w s => hen2 w p3 (NdRd.at_ ⟨Rd.row (by repeat (first | exact .head _ | refine .tail _ ?_)), Rd.row (by repeat (first | exact .head _ | refine .tail _ ?_)), Rd.row (by repeat (first | exact .head _ | refine .tail _ ?_)), j1, j2, j3⟩ s)) rfl fun q hq => ?_
    obtain ⟨ea, ec⟩ := q
    simp only [hcl] at hq ⊢
    (repeat (first | refine WL.want rfl rfl rfl ?_ | refine WL.step (Yl.move rfl) rfl ?_ | refine WL.step (Yl.assign rfl) rfl ?_ | refine WL.step (Yl.extract rfl rfl) rfl ?_ | refine WL.step (Yl.eqlT rfl rfl rfl) rfl ?_ | refine WC.seq ?_ | refine WC.region ?_ | refine WL.nil ?_ | refine WN.then_normal ?_))
    refine WL.callV (g := 21) (v := .bool true) Try.call21 rfl (fun w s => bsame_t ea ra 512 512 ec rc C w hcl hcl (by decide) (Rd.row (by repeat (first | exact .head _ | refine .tail _ ?_)) w s) (Rd.row (by repeat (first | exact .head _ | refine .tail _ ?_)) w s)) rfl ?_
    (repeat (first | refine WL.want rfl rfl rfl ?_ | refine WL.step (Yl.move rfl) rfl ?_ | (refine WL.k_load ?_; first | refine WL.step (Yl.loadAll (T := 26) (T' := 26) (b := b7) (cs := (ndl x p1).toArray) (fr := (0, 0)) Try.isAgg26 Try.sizeOf26 rfl (by repeat (first | exact .head _ | refine .tail _ ?_)) rfl) rfl ?_ | refine WL.step (Yl.loadAll (T := 26) (T' := 26) (b := b13) (cs := (ndl m p3).toArray) (fr := (0, 0)) Try.isAgg26 Try.sizeOf26 rfl (by repeat (first | exact .head _ | refine .tail _ ?_)) rfl) rfl ?_) | refine WL.step (Yl.pick_t rfl rfl rfl) rfl ?_))
    refine WL.callV (g := 30) Try.call30 rfl (fun w s => lsame_c m x p3 p1 w hcw hxw (NdRd.at_ ⟨Rd.row (by repeat (first | exact .head _ | refine .tail _ ?_)), Rd.row (by repeat (first | exact .head _ | refine .tail _ ?_)), Rd.row (by repeat (first | exact .head _ | refine .tail _ ?_)), j1, j2, j3⟩ s) (NdRd.at_ ⟨Rd.row (by repeat (first | exact .head _ | refine .tail _ ?_)), Rd.row (by repeat (first | exact .head _ | refine .tail _ ?_)), Rd.row (by repeat (first | exact .head _ | refine .tail _ ?_)), g1, g2, g3⟩ s)) rfl ?_
    (repeat (first | refine WL.want rfl rfl rfl ?_ | refine WL.step (Yl.move rfl) rfl ?_ | refine WL.step (Yl.assign rfl) rfl ?_ | refine WL.step (Yl.pick_t rfl rfl rfl) rfl ?_ | (refine WL.k_bin .eql ?_; first | refine WL.step (Yl.eql rfl rfl) rfl ?_ | refine WL.step (Yl.eqlBT (p := decide (m = x)) (q := decide ((how.toNat : Int) = 0)) Try.underlying4 rfl rfl hpd) rfl ?_) | (refine WL.k_call 13 ?_; refine WL.callV (g := 13) Try.call13 rfl (fun w s => works38_c w) rfl ?_) | refine WL.nil ?_ | refine WN.then_normal ?_ | refine WC.ret ?_))
    exact WN.ret1 rfl rfl ⟨rfl, rfl⟩ .nil
  · have hne := hbad hg
    rw [(Nod.dec_bad hg).1, (Nod.dec_bad hg).2] at hd2
    refine WL.call (g := 23) Try.call23 rfl (fun w s => hd2 w (Rd.row (by repeat (first | exact .head _ | refine .tail _ ?_)) w s)) rfl fun v1 B1 hv1 => ?_
    obtain ⟨p3, j1, j2, j3, rfl, rfl⟩ := hv1
    simp only [List.cons_append, List.nil_append]
    (repeat (first | refine WL.step (Yl.move rfl) rfl ?_ | refine WL.step (Yl.extract rfl rfl) rfl ?_))
    refine WL.allocA Try.zeroValue26 rfl fun b13 => ?_
    refine WL.storeWhole (T := 26) (k := 4) (us := (ndl Nod.zero p3).toArray) Try.sizeOf26 rfl rfl rfl (by repeat (first | exact Pick.here | apply Pick.there)) rfl rfl ?_
    (repeat (first | refine WL.step (Yl.move rfl) rfl ?_ | refine WL.step (Yl.assign rfl) rfl ?_ | (refine WL.k_bin .neq ?_; refine WL.step (Yl.neqT rfl rfl (by decide)) rfl ?_) | refine WC.seq ?_ | refine WC.region ?_ | refine WL.nil ?_ | refine WN.then_normal ?_))
    refine WC.cond_true rfl rfl ?_
    (repeat (first | refine WL.want rfl rfl rfl ?_ | refine WL.step (Yl.move rfl) rfl ?_ | refine WL.step (Yl.assign rfl) rfl ?_ | (refine WL.k_load ?_; refine WL.step (Yl.loadAll (T := 26) (T' := 26) (b := b13) (cs := (ndl Nod.zero p3).toArray) (fr := (0, 0)) Try.isAgg26 Try.sizeOf26 rfl (by repeat (first | exact .head _ | refine .tail _ ?_)) rfl) rfl ?_) | refine WL.step (Yl.pick_t rfl rfl rfl) rfl ?_ | refine WL.step (Yl.eqlT rfl rfl rfl) rfl ?_ | refine WL.step (Yl.neqT rfl rfl hne) rfl ?_ | refine WL.step (Yl.build (ps := []) rfl buildZ) rfl ?_ | (refine WL.k_call 30 ?_; refine WL.callV (g := 30) (v := .bool true) Try.call30 rfl (fun w s => lsame_t Nod.zero p3 pz w Nod.zero_wf (NdRd.at_ ⟨Rd.row (by repeat (first | exact .head _ | refine .tail _ ?_)), Rd.row (by repeat (first | exact .head _ | refine .tail _ ?_)), Rd.row (by repeat (first | exact .head _ | refine .tail _ ?_)), j1, j2, j3⟩ s) (zero_at w)) rfl ?_) | (refine WL.k_call 13 ?_; refine WL.callV (g := 13) Try.call13 rfl (fun w s => works38_c w) rfl ?_) | refine WC.seq ?_ | refine WC.region ?_ | refine WL.nil ?_ | refine WN.then_normal ?_ | refine WC.ret ?_ | refine WN.then_ret ?_))
    exact WN.ret1 rfl rfl ⟨rfl, rfl⟩ .nil
end Go.Proofs.Ytbfhdggfdhlkfaa
