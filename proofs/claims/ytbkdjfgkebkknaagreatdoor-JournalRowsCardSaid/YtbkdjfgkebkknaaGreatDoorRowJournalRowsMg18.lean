import Derived.Test.YtbkdjfgkebkknaaGreatDoorRowJournalRowsMg17
import Derived.Test.YtbkdjfgkebkknaaGreatDoorRowJournalRowsMg10
import Derived.Test.YtbkdjfgkebkknaaGreatDoorRowJournalRowsMg6
namespace Go.Proofs.YtbkdjfgkebkknaaGreatDoor
set_option linter.unusedVariables false
set_option linter.unusedSimpArgs false
open Go Go.RowKit
set_option maxRecDepth 100000
set_option maxHeartbeats 8000000
structure SS where
  at_ : Nat
  tx : Nat
  used : Nat
  F : Nat → Option Pc
  last : Int
  G : Nat → Option Pc
  k : Nat
def SS.start : SS := ⟨0, 0, 0, noG, -1, noG, 0⟩
def SS.isNext (s : SS) (o : Frm.Out) : Prop := o.err = 0 ∧ o.tx = ((s.tx + 1 : Nat) : Int)
def SS.isPage (s : SS) (o : Frm.Out) : Prop := o.kd = 1 ∧ o.ix = (s.k : Int) ∧ s.last < o.no
def SS.isComm (s : SS) (o : Frm.Out) : Prop := o.kd = 2 ∧ 0 < s.k ∧ o.no = (s.k : Int)
def SS.page (s : SS) (o : Frm.Out) : SS := { s with at_ := s.at_ + o.sec, last := o.no, G := setF s.G o.no.toNat (some ⟨s.at_, s.tx + 1, s.k⟩), k := s.k + 1 }
def SS.comm (s : SS) (o : Frm.Out) : SS := ⟨s.at_ + o.sec, s.tx + 1, s.at_ + o.sec, ovr s.F s.G, -1, noG, 0⟩
inductive Scan (fr : Nat → Frm.Out) : SS → SS → Prop
  | stop (s : SS) : ¬ (s.isNext (fr s.at_) ∧ (s.isPage (fr s.at_) ∨ s.isComm (fr s.at_))) → Scan fr s s
  | page (s t : SS) : s.isNext (fr s.at_) → s.isPage (fr s.at_) → Scan fr (s.page (fr s.at_)) t → Scan fr s t
  | comm (s t : SS) : s.isNext (fr s.at_) → s.isComm (fr s.at_) → Scan fr (s.comm (fr s.at_)) t → Scan fr s t
theorem Scan.det {fr : Nat → Frm.Out} {s t : SS} (h : Scan fr s t) : ∀ {u : SS}, Scan fr s u → t = u := by
  induction h with
  | stop s hs =>
    intro u hu
    cases hu with
    | stop => rfl
    | page _ _ h1 h2 _ => exact absurd ⟨h1, .inl h2⟩ hs
    | comm _ _ h1 h2 _ => exact absurd ⟨h1, .inr h2⟩ hs
  | page s t h1 h2 _ ih =>
    intro u hu
    cases hu with
    | stop _ hs => exact absurd ⟨h1, .inl h2⟩ hs
    | page _ _ _ _ h3 => exact ih h3
    | comm _ _ _ h3 _ => exact absurd (h2.1.symm.trans h3.1) (by decide)
  | comm s t h1 h2 _ ih =>
    intro u hu
    cases hu with
    | stop _ hs => exact absurd ⟨h1, .inr h2⟩ hs
    | page _ _ _ h3 _ => exact absurd (h2.1.symm.trans h3.1) (by decide)
    | comm _ _ _ _ h3 => exact ih h3
def frA (v : DV) (first n : Nat) (ep : Int) (at_ : Nat) : Frm.Out := Frm.dec (rowB v (first + at_) (min (at_ + 5) n - at_)) ep
theorem dec_facts {b : List UInt8} {x : Int} (h : (Frm.dec b x).err = 0) : Frm.Ok (Frm.dec b x).kd x (Frm.dec b x).tx (Frm.dec b x).ix (Frm.dec b x).no (Frm.dec b x).data.length ∧ (Frm.dec b x).sec = (Frm.secs (Frm.dec b x).kd).1 ∧ 1 ≤ (Frm.dec b x).sec ∧ 128 * (Frm.dec b x).sec ≤ b.length := by
  obtain ⟨h1, h2, h3, h4⟩ := Frm.dec_enc h
  rw [h3] at h1
  have hok : Frm.Ok (Frm.dec b x).kd x (Frm.dec b x).tx (Frm.dec b x).ix (Frm.dec b x).no (Frm.dec b x).data.length := by
    by_cases hk : Frm.Ok (Frm.dec b x).kd x (Frm.dec b x).tx (Frm.dec b x).ix (Frm.dec b x).no (Frm.dec b x).data.length
    · exact hk
    · rw [Frm.enc, if_neg hk] at h1; cases h1
  have h5 := enc_len hok
  rw [h1, List.length_take] at h5
  have h6 := secs_pos hok
  exact ⟨hok, by omega, by omega, h2⟩
structure SInv (t : SS) (n : Nat) : Prop where
  at_ : t.at_ ≤ n
  used : t.used ≤ t.at_
  tx : t.tx ≤ t.used
  k : (dirtyOf 4096 t.G).length = t.k
  lo : -1 ≤ t.last
  hi : t.last < 4096
  key : ∀ k, t.G k ≠ none → (k : Int) ≤ t.last
theorem dirty_noG (n : Nat) : (dirtyOf n noG).length = 0 := (MapIs.empty (β := Pc) n).len.symm
theorem SInv.start (n : Nat) : SInv SS.start n := ⟨Nat.zero_le _, Nat.le_refl _, Nat.le_refl _, dirty_noG 4096, by decide, by decide, fun k h => absurd rfl h⟩
theorem SInv.page {t : SS} {n : Nat} {o : Frm.Out} (h : SInv t n) (h1 : t.at_ + o.sec ≤ n) (h2 : t.last < o.no) (h3 : o.no < 4096) {M : List (Nat × Pc × Nat)} {c : Nat} (hM : MapIs 4096 t.G M c) : SInv (t.page o) n := by
  have hlo := h.lo
  have hn : t.G o.no.toNat = none := by
    cases e : t.G o.no.toNat with
    | none => rfl
    | some x => have := h.key o.no.toNat (by rw [e]; simp); omega
  refine ⟨h1, Nat.le_trans h.used (Nat.le_add_right _ _), h.tx, ?_, by show -1 ≤ o.no; omega, h3, fun k hk => ?_⟩
  · have h4 := (hM.push (v := (⟨t.at_, t.tx + 1, t.k⟩ : Pc)) hn (by omega)).len
    rw [List.length_append, List.length_singleton, hM.len, h.k] at h4
    exact h4.symm
  · show (k : Int) ≤ o.no
    by_cases e : k = o.no.toNat
    · omega
    · have : t.G k ≠ none := fun e2 => hk (by show setF t.G o.no.toNat _ k = none; rw [setF, if_neg e]; exact e2)
      have := h.key k this
      omega
theorem SInv.comm {t : SS} {n : Nat} {o : Frm.Out} (h : SInv t n) (h1 : t.at_ + o.sec ≤ n) (h2 : 1 ≤ o.sec) : SInv (t.comm o) n := by
  have := h.used
  have := h.tx
  exact ⟨h1, Nat.le_refl _, by show t.tx + 1 ≤ t.at_ + o.sec; omega, dirty_noG 4096, by show (-1 : Int) ≤ -1; decide, by show (-1 : Int) < 4096; decide, fun k h => absurd rfl h⟩
def JScanV (dp : DP) (v : DV) (first n : Nat) (ep : Int) : Value → List HA → Prop := fun u B => ∃ p js ds' t m, u = .tuple #[bptr (JP.bj p), .int .i64 0] ∧ JS.Ok js ∧ js.v = ⟨first, n, ep, t.used, t.tx, t.F⟩ ∧ Scan (frA v first n ep) SS.start t ∧ DS.Ok ds' dp ∧ ds'.v = { v with rd := v.rd + m } ∧ m ≤ 5 * (n + 1) ∧ B = jI dp.bd p js ++ drI dp ds'
theorem permS (a x y z : HA) (D : List HA) : (a :: x :: y :: z :: D).Perm ([y, z, x] ++ a :: D) := by
  classical
  rw [List.perm_iff_count]; intro u; simp only [List.count_append, List.count_cons, List.count_nil]; omega
attribute [local irreducible] WL WC WN Yl WH WQ WT WE WU WG WV
section
variable {dp : DP} {ds : DS} {S : List Nat}
theorem jscan_e (first n ep : Int) (w : World) (hd : DrAt w dp ds) (hl : ds.d.length ≤ 4096) (he : newE ds.d.length first n ep ≠ 0) : Calls Tryz.prog 18 #[bptr dp.bd, .int .i64 first, .int .i64 n, .int .i64 ep] w (Gives (Val (.tuple #[.pointer none, .int .i64 (newE ds.d.length first n ep : Int)])) w) := by
  refine enter (args := [.pointer (some ⟨dp.bd, 0, none⟩), _, _, _]) Tryz.func18 Tryz.ntmps18 rfl rfl ?_
  (repeat (first | refine WL.step (Yl.move rfl) rfl ?_ | refine WL.step (Yl.assign rfl) rfl ?_ | refine WL.step (Yl.extract rfl rfl) rfl ?_ | refine WL.callV (g := 12) Tryz.call12 rfl (fun w0 st => jnew_e first n ep w0 (hd.keep st.kept) hl he) rfl ?_ | (refine WL.k_bin .neq ?_; refine WL.step (Yl.neqT rfl rfl (by omega)) rfl ?_) | refine WC.seq ?_ | refine WC.region ?_ | refine WL.nil ?_ | refine WN.then_normal ?_ | refine WC.scope ?_))
  refine WC.cond_true rfl rfl ?_
  (repeat (first | refine WL.step (Yl.move rfl) rfl ?_ | refine WL.step (Yl.assign rfl) rfl ?_ | refine WC.seq ?_ | refine WC.region ?_ | refine WL.nil ?_ | refine WN.then_normal ?_ | refine WC.ret ?_ | refine WN.then_ret ?_ | refine WN.scope_ret ?_))
  exact WN.ret2 rfl rfl rfl ⟨rfl, rfl⟩ .nil
theorem jscan_dn (first n : Nat) (ep : Int) (w : World) (hd : DrAt w dp ds) (hl : ds.d.length ≤ 4096) (he : Frm.Ep ep) (hn : 1 ≤ n) (hr : first + n ≤ ds.d.length) (hdn : ds.down = true) : Calls Tryz.prog 18 #[bptr dp.bd, .int .i64 (first : Int), .int .i64 (n : Int), .int .i64 ep] w (Gives (Val (.tuple #[.pointer none, .int .i64 11])) w) := by
  refine enter (args := [.pointer (some ⟨dp.bd, 0, none⟩), _, _, _]) Tryz.func18 Tryz.ntmps18 rfl rfl ?_
  (repeat (first | refine WL.step (Yl.move rfl) rfl ?_ | refine WL.step (Yl.assign rfl) rfl ?_ | refine WC.seq ?_ | refine WC.region ?_ | refine WL.nil ?_ | refine WN.then_normal ?_ | refine WC.scope ?_))
  refine WL.call (g := 12) Tryz.call12 rfl (fun w0 st => jnew_c first n ep w0 (hd.keep st.kept) hl he hn hr) rfl fun v B hv => ?_
  obtain ⟨p, s, sok, hsv, rfl, rfl⟩ := hv
  (repeat (first | refine WL.step (Yl.move rfl) rfl ?_ | refine WL.step (Yl.assign rfl) rfl ?_ | refine WL.step (Yl.extract rfl rfl) rfl ?_ | refine WL.step (Yl.neqF rfl rfl rfl) rfl ?_ | refine WC.seq ?_ | refine WC.region ?_ | refine WL.nil ?_ | refine WN.then_normal ?_))
  refine WC.cond_false rfl rfl ?_
  (repeat (first | refine WL.step (Yl.move rfl) rfl ?_ | refine WL.callV (g := 27) (v := .bool ds.down) Tryz.call27 rfl (fun w0 st => ddown_c w0 (hd.keep st.kept)) rfl ?_ | refine WC.seq ?_ | refine WC.region ?_ | refine WL.nil ?_ | refine WN.then_normal ?_ | refine WC.skip ?_))
  refine WC.cond_true rfl hdn ?_
  (repeat (first | refine WL.step (Yl.assign rfl) rfl ?_ | refine WC.seq ?_ | refine WC.region ?_ | refine WL.nil ?_ | refine WN.then_normal ?_ | refine WC.ret ?_ | refine WN.then_ret ?_ | refine WN.scope_ret ?_))
  exact WN.ret2 rfl rfl rfl ⟨rfl, rfl⟩ .nil
theorem jscan_r (first n : Nat) (ep : Int) (w : World) (dok : ds.Ok dp) (he0 : Frm.Ep ep) (hn : 1 ≤ n) (hr : first + n ≤ ds.d.length) (hdn : ds.v.down = false) (hrd : ds.rd < 1152921504606846976) (hT : TabO w S) (st : St w S (drI dp ds) w) :
    Calls Tryz.prog 18 #[bptr dp.bd, .int .i64 (first : Int), .int .i64 (n : Int), .int .i64 ep] w (GivesS S (JScanV dp ds.v first n ep) w) := by
  have hle := dok.wf.le
  have hwf : BkWf ds.v.d ds.v.F := dok.wf
  refine enterS (args := [.pointer (some ⟨dp.bd, 0, none⟩), _, _, _]) Tryz.func18 Tryz.ntmps18 rfl rfl st ?_
  refine WC.seq (WC.region ?_)
  (repeat (first | refine WL.step (Yl.assign rfl) rfl ?_))
  refine WL.nil (WN.then_normal ?_)
  refine WC.scope2 (γ := SS × JS × DS × Nat × JP × List (Nat × Pc × Nat) × Nat) (δ := SS × JS × DS × JP) (l0 := 0) (l1 := 1)
    (fun g => match g with | (t, js, d1, bp, p, M2, c2) => [(10, .pointer (some ⟨p.bj, 0, none⟩)), (12, .int .i64 (t.at_ : Int)), (13, .int .i64 t.last), (14, .map (some bp))])
    (fun g => match g with | (t, js, d1, bp, p, M2, c2) => .blk bp (mobj encP M2 c2) :: (jI dp.bd p js ++ drI dp d1))
    (fun g => match g with | (t, js, d1, bp, p, M2, c2) => js.Ok ∧ js.v = ⟨first, n, ep, t.used, t.tx, t.F⟩ ∧ d1.Ok dp ∧ (∃ m, m ≤ 5 * t.at_ ∧ d1.v = { ds.v with rd := ds.v.rd + m }) ∧ MapIs 4096 t.G M2 c2 ∧ SInv t n ∧ (∀ u, Scan (frA ds.v first n ep) t u → Scan (frA ds.v first n ep) SS.start u))
    (fun g => match g with | (t, js, d1, p) => [(10, .pointer (some ⟨p.bj, 0, none⟩))])
    (fun g => match g with | (t, js, d1, p) => jI dp.bd p js ++ drI dp d1)
    (fun g => match g with | (t, js, d1, p) => js.Ok ∧ js.v = ⟨first, n, ep, t.used, t.tx, t.F⟩ ∧ d1.Ok dp ∧ (∃ m, m ≤ 5 * (n + 1) ∧ d1.v = { ds.v with rd := ds.v.rd + m }) ∧ Scan (frA ds.v first n ep) SS.start t)
    (fun g => match g with | (t, js, d1, bp, p, M2, c2) => n - t.at_) rfl rfl ?_ ?_ ?_
  · rintro ⟨t, js, d1, bp, p, M2, c2⟩ ⟨jok, hjv, d1ok, ⟨m, hm, hd1⟩, hM2, hi, hsc⟩
    simp only
    have hat := hi.at_
    have hus := hi.used
    have htu := hi.tx
    have hlo := hi.lo
    have hrow := jok.row
    have jn : js.v.n = n := by rw [hjv]
    have jf : js.v.first = first := by rw [hjv]
    have jt : js.v.tx = t.tx := by rw [hjv]
    have je : js.v.ep = ep := by rw [hjv]
    have hdl : d1.d.length = ds.d.length := by have := congrArg DV.d hd1; exact congrArg List.length this
    have hdr : d1.rd = ds.rd + m := congrArg DV.rd hd1
    (repeat (first | refine WL.step (Yl.move rfl) rfl ?_ | refine WC.seq ?_ | refine WC.region ?_))
    refine WL.callS (g := 66) (A0 := jI dp.bd p js ++ drI dp d1) (B := [_]) Tryz.call66 rfl (permA1 _ _) (fun w0 st2 s1 => jread_r t.at_ w0 d1ok jok (by rw [jf, jn, hdl]; exact hr) (by omega) (by omega) (old_out st2 (permA1 _ _) hT) s1) rfl fun v C hv => ?_
    have hjr : jrd d1.v js.v t.at_ = ({ ds.v with rd := ds.v.rd + (m + rdn js.v t.at_) }, frA ds.v first n ep t.at_) := by
      rw [hd1, jrd_up (v := { ds.v with rd := ds.v.rd + m }) hdn, jf, je, frA]
      simp only [rdn, jn, Nat.add_assoc]
      rfl
    have hrl : (rowB ds.v (first + t.at_) (min (t.at_ + 5) n - t.at_)).length = 128 * (min (t.at_ + 5) n - t.at_) := by
      rcases Nat.eq_zero_or_pos (min (t.at_ + 5) n - t.at_) with h | h
      · rw [h]; rfl
      · exact rowB_len hwf (by show _ ≤ ds.d.length; omega)
    have hrn : rdn js.v t.at_ ≤ 5 := by unfold rdn; omega
    rw [hjr] at hv
    have hfacts : (frA ds.v first n ep t.at_).err = 0 → Frm.Ok (frA ds.v first n ep t.at_).kd ep (frA ds.v first n ep t.at_).tx (frA ds.v first n ep t.at_).ix (frA ds.v first n ep t.at_).no (frA ds.v first n ep t.at_).data.length ∧ 1 ≤ (frA ds.v first n ep t.at_).sec ∧ t.at_ + (frA ds.v first n ep t.at_).sec ≤ n := fun h => by
      obtain ⟨h1, _, h2, h3⟩ := dec_facts h
      rw [hrl] at h3
      exact ⟨h1, h2, by have h4 : (frA ds.v first n ep t.at_).sec ≤ min (t.at_ + 5) n - t.at_ := Nat.le_of_mul_le_mul_left h3 (by decide); omega⟩
    obtain ⟨o, ho⟩ : ∃ o, o = frA ds.v first n ep t.at_ := ⟨_, rfl⟩
    rw [← ho] at hfacts hv
    obtain ⟨C, d2, ⟨q, uu, _, _, _, rfl, rfl⟩, d2ok, hd2, rfl⟩ := hv
    refine WL.part (Part.perm (permA1 _ _).symm) ?_
    refine WL.part (B := HA.blk bp (mobj encP M2 c2) :: (jI dp.bd p js ++ drI dp d2)) (.cons .here (.more (Part.refl _))) ?_
    simp only at hd2
    simp only [jI, List.cons_append, List.nil_append]
    (repeat (first | refine WL.step (Yl.move rfl) rfl ?_ | refine WL.step (Yl.extract rfl rfl) rfl ?_))
    refine WL.allocA Tryz.zeroValue121 rfl fun b15 => ?_
    skip
    refine WL.storeWhole (T := 121) (k := 6) Tryz.sizeOf121 rfl rfl rfl .here rfl rfl ?_
    (repeat (first | refine WL.step (Yl.assign rfl) rfl ?_ | refine WC.seq ?_ | refine WL.nil ?_ | refine WN.then_normal ?_))
    have hstop : ¬ (t.isNext o ∧ (t.isPage o ∨ t.isComm o)) → js.Ok ∧ js.v = ⟨first, n, ep, t.used, t.tx, t.F⟩ ∧ d2.Ok dp ∧ (∃ m, m ≤ 5 * (n + 1) ∧ d2.v = { ds.v with rd := ds.v.rd + m }) ∧ Scan (frA ds.v first n ep) SS.start t := fun h =>
      ⟨jok, hjv, d2ok, ⟨_, by omega, hd2⟩, hsc t (.stop t (by rw [← ho]; exact h))⟩
    refine WC.regionH [.blk b15 (.cells #[.int .i64 o.kd, .int .i64 o.ep, .int .i64 o.tx, .int .i64 o.ix, .int .i64 o.no, .slice (cutA q.1 11 q.2 1) o.data.length (q.2 - 11)] 121 (0, 0)), .blk p.bj (jO dp.bd p js.v)] (by kernel_rfl) ?_
    by_cases he : o.err = 0
    · by_cases htx : o.tx = ((t.tx + 1 : Nat) : Int)
      · (refine WH.order [0, 1, 2, 3, 4, 5, 6, 7, 8, 9, 10, 11] (by repeat (first | exact Part.nil | refine Part.cons zK ?_ | refine Part.free ?_)) (by kernel_rfl) ?_; (repeat (first | (refine WT.k_move rfl ?_; first | (refine WT.kn rfl ?_; refine WT.take rfl rfl (fun _ _ _ h => h) (Yl.move rfl) rfl (by kernel_rfl) (by kernel_rfl) ?_) | (refine WT.kg rfl ?_; refine WT.takeG rfl rfl rfl rfl (fun _ _ _ h => h) (Yl.move rfl) rfl (by kernel_rfl) (by kernel_rfl) ?_)) | (refine WT.k_load rfl ?_; (refine WT.kg rfl ?_; refine WT.takeG rfl rfl rfl rfl (fun _ _ _ h => h) (Yl.loadBlk (T := 3) Tryz.isAgg3 rfl zH (by rfl)) rfl (by kernel_rfl) (by kernel_rfl) ?_)) | (refine WT.k_fld rfl ?_; (refine WT.kg rfl ?_; first | refine WT.takeG rfl rfl rfl rfl (fun _ _ _ h => h) (Yl.fldN0 (i := 2) (o := 2) (by kernel_rfl) rfl) rfl (by kernel_rfl) (by kernel_rfl) ?_ | refine WT.takeG rfl rfl rfl rfl (fun _ _ _ h => h) (Yl.fldN0 (i := 5) (o := 5) (by kernel_rfl) rfl) rfl (by kernel_rfl) (by kernel_rfl) ?_)) | (refine WT.k_pick rfl ?_; (refine WT.kn rfl ?_; refine WT.take rfl rfl (fun _ _ _ h => h) (Yl.pick_f rfl rfl rfl) rfl (by kernel_rfl) (by kernel_rfl) ?_)) | (refine WT.k_nilc rfl ?_; (refine WT.kg rfl ?_; refine WT.takeG rfl rfl rfl rfl (fun _ _ _ h => h) (Yl.nilCheck rfl) rfl (by kernel_rfl) (by kernel_rfl) ?_)) | (refine WT.k_bin .add rfl ?_; (refine WT.kg rfl ?_; refine WT.takeG rfl rfl rfl rfl (fun _ _ _ h => h) (Yl.add64C rfl (by omega)) rfl (by kernel_rfl) (by kernel_rfl) ?_)) | (refine WT.k_bin .neq rfl ?_; first | (refine WT.kn rfl ?_; refine WT.take rfl rfl (fun _ _ _ h => h) (Yl.neqF (m := (o.err : Int)) (n := 0) rfl rfl (by omega)) rfl (by kernel_rfl) (by kernel_rfl) ?_) | (refine WT.kg rfl ?_; refine WT.takeG rfl rfl rfl rfl (fun _ _ _ h => h) (Yl.neqF (m := o.tx) (n := ((js.v.tx + 1 : Nat) : Int)) rfl rfl (by omega)) rfl (by kernel_rfl) (by kernel_rfl) ?_)))); refine WT.nil ?_)
        refine WH.done (by kernel_rfl) ?_
        (repeat (first | refine WN.then_normal ?_))
        refine WC.cond_false rfl rfl ?_
        obtain ⟨fok, fs1, fs2⟩ := hfacts he
        (repeat (first | refine WC.seq ?_ | refine WC.region ?_ | refine WN.then_normal ?_ | refine WC.block ?_ | refine WC.skip ?_))
        have hk := hi.k
        by_cases k1 : o.kd = 1
        · by_cases k2 : o.ix = (t.k : Int)
          · by_cases k3 : t.last < o.no
            · have hno : 0 ≤ o.no ∧ o.no ≤ 4095 := by
                rcases fok.2.2.2 with h | h
                · omega
                · omega
              have hnn : o.no = ((o.no.toNat : Nat) : Int) := by omega
              (repeat (first | refine WL.want rfl rfl rfl ?_ | refine WL.step (Yl.move rfl) rfl ?_ | refine WL.step (Yl.assign rfl) rfl ?_ | (refine WL.k_load ?_; refine WL.step (Yl.loadBlk (T := 3) Tryz.isAgg3 rfl zH (by rfl)) rfl ?_) | (refine WL.k_fld ?_; first | refine WL.step (Yl.fldN0 (i := 0) (o := 0) (by kernel_rfl) rfl) rfl ?_ | refine WL.step (Yl.fldN0 (i := 3) (o := 3) (by kernel_rfl) rfl) rfl ?_ | refine WL.step (Yl.fldN0 (i := 4) (o := 4) (by kernel_rfl) rfl) rfl ?_) | refine WL.step (Yl.pick_t rfl rfl rfl) rfl ?_ | refine WL.step (Yl.lenMap (b := bp) (M := M2) (c := c2) (F := t.G) Tryz.underlying77 rfl hM2 (Has.mem (.tail _ (.head _)))) rfl ?_ | (refine WL.k_bin .eql ?_; first | refine WL.step (Yl.eqlT (m := o.kd) (n := 1) rfl rfl (by omega)) rfl ?_ | refine WL.step (Yl.eqlT (m := o.ix) (n := ((dirtyOf 4096 t.G).length : Int)) rfl rfl (by omega)) rfl ?_) | (refine WL.k_bin .gtr ?_; refine WL.step (Yl.gtrT (m := o.no) (n := t.last) rfl rfl (by omega)) rfl ?_) | refine WL.nil ?_ | refine WN.then_normal ?_))
              refine WC.cond_true rfl rfl ?_
              refine WC.regionH [.blk b15 (.cells #[.int .i64 o.kd, .int .i64 o.ep, .int .i64 o.tx, .int .i64 o.ix, .int .i64 o.no, .slice (cutA q.1 11 q.2 1) o.data.length (q.2 - 11)] 121 (0, 0))] (by kernel_rfl) ?_
              (refine WH.order [0, 1, 2, 3, 4, 5, 6, 7, 8, 9, 10] (by repeat (first | exact Part.nil | refine Part.cons zK ?_ | refine Part.free ?_)) (by kernel_rfl) ?_; (repeat (first | (refine WT.k_move rfl ?_; (refine WT.kn rfl ?_; refine WT.take rfl rfl (fun _ _ _ h => h) (Yl.move rfl) rfl (by kernel_rfl) (by kernel_rfl) ?_)) | (refine WT.k_load rfl ?_; (refine WT.kn rfl ?_; refine WT.take rfl rfl (fun _ _ _ h => h) (Yl.loadBlk (T := 3) Tryz.isAgg3 rfl zH (by rfl)) rfl (by kernel_rfl) (by kernel_rfl) ?_)) | (refine WT.k_fld rfl ?_; (refine WT.kn rfl ?_; first | refine WT.take rfl rfl (fun _ _ _ h => h) (Yl.fldN0 (i := 2) (o := 2) (by kernel_rfl) rfl) rfl (by kernel_rfl) (by kernel_rfl) ?_ | refine WT.take rfl rfl (fun _ _ _ h => h) (Yl.fldN0 (i := 3) (o := 3) (by kernel_rfl) rfl) rfl (by kernel_rfl) (by kernel_rfl) ?_ | refine WT.take rfl rfl (fun _ _ _ h => h) (Yl.fldN0 (i := 4) (o := 4) (by kernel_rfl) rfl) rfl (by kernel_rfl) (by kernel_rfl) ?_)) | (refine WT.k_build rfl ?_; (refine WT.kn rfl ?_; refine WT.take rfl rfl (fun _ _ _ h => h) (Yl.build (ps := [(0, .tmp 70), (1, .tmp 72), (2, .tmp 74)]) (vs := [(0, .int .i64 (t.at_ : Int)), (1, .int .i64 o.tx), (2, .int .i64 o.ix)]) rfl (buildPc _ _ _)) rfl (by kernel_rfl) (by kernel_rfl) ?_)))); refine WT.nil ?_)
              refine WH.only (i := 11) (by kernel_rfl) rfl ?_
              refine WL.mapUpdate (u := (⟨t.at_, t.tx + 1, t.k⟩ : Pc)) (k := o.no.toNat) Tryz.underlying77 Tryz.underlying3 rfl (by rw [← hnn]; rfl) (by rw [encP, ← htx, ← k2]; rfl) hM2 (by omega) (.there .here) fun M3 c3 hM3 => ?_
              refine WL.nil (WN.nextH (.cons (.there .here) .nil) ?_)
              (refine WH.order [12] (by repeat (first | exact Part.nil | refine Part.cons zK ?_ | refine Part.free ?_)) (by kernel_rfl) ?_; (repeat (first | (refine WT.k_assign rfl ?_; (refine WT.kn rfl ?_; refine WT.take rfl rfl (fun _ _ _ h => h) (Yl.assign rfl) rfl (by kernel_rfl) (by kernel_rfl) ?_)))); refine WT.nil ?_)
              refine WH.done (by kernel_rfl) ?_
              (repeat (first | refine WL.step (Yl.move rfl) rfl ?_ | refine WL.step (Yl.assign rfl) rfl ?_ | (refine WL.k_bin .add ?_; refine WL.step (Yl.add64N (m := t.at_) (n := o.sec) rfl rfl (by omega)) rfl ?_) | refine WC.seq ?_ | refine WC.region ?_ | refine WL.nil ?_ | refine WN.then_normal ?_ | refine WN.block_normal ?_))
              refine WC.goto ?_
              (repeat (first | refine WN.then_goto ?_ | refine WN.block_goto ?_))
              refine WN.jump (Sum.inl (t.page o, js, d2, bp, p, M3, c3)) rfl (by show n - (t.at_ + o.sec) + 1 < n - t.at_ + 1; omega) ⟨jok, hjv, d2ok, ⟨_, by show _ ≤ 5 * (t.at_ + o.sec); omega, hd2⟩, hM3, hi.page fs2 k3 (by omega) hM2, fun u hu => hsc u (.page t u (by rw [← ho]; exact ⟨he, htx⟩) (by rw [← ho]; exact ⟨k1, k2, k3⟩) (by rw [← ho]; exact hu))⟩ zS (.cons .here (.more (Part.refl _)))
            · (repeat (first | refine WL.want rfl rfl rfl ?_ | refine WL.step (Yl.move rfl) rfl ?_ | refine WL.step (Yl.assign rfl) rfl ?_ | (refine WL.k_load ?_; refine WL.step (Yl.loadBlk (T := 3) Tryz.isAgg3 rfl zH (by rfl)) rfl ?_) | (refine WL.k_fld ?_; first | refine WL.step (Yl.fldN0 (i := 0) (o := 0) (by kernel_rfl) rfl) rfl ?_ | refine WL.step (Yl.fldN0 (i := 3) (o := 3) (by kernel_rfl) rfl) rfl ?_ | refine WL.step (Yl.fldN0 (i := 4) (o := 4) (by kernel_rfl) rfl) rfl ?_) | refine WL.step (Yl.pick_t rfl rfl rfl) rfl ?_ | refine WL.step (Yl.lenMap (b := bp) (M := M2) (c := c2) (F := t.G) Tryz.underlying77 rfl hM2 (Has.mem (.tail _ (.head _)))) rfl ?_ | (refine WL.k_bin .eql ?_; first | refine WL.step (Yl.eqlT (m := o.kd) (n := 1) rfl rfl (by omega)) rfl ?_ | refine WL.step (Yl.eqlT (m := o.ix) (n := ((dirtyOf 4096 t.G).length : Int)) rfl rfl (by omega)) rfl ?_) | (refine WL.k_bin .gtr ?_; refine WL.step (Yl.gtrF (m := o.no) (n := t.last) rfl rfl (by omega)) rfl ?_) | refine WL.nil ?_ | refine WN.then_normal ?_))
              refine WC.cond_false rfl rfl ?_
              (repeat (first | refine WL.pass rfl rfl rfl rfl ?_ | refine WL.step (Yl.move rfl) rfl ?_ | refine WL.step (Yl.assign rfl) rfl ?_ | (refine WL.k_load ?_; refine WL.step (Yl.loadBlk (T := 3) Tryz.isAgg3 rfl zH (by rfl)) rfl ?_) | (refine WL.k_fld ?_; refine WL.step (Yl.fldN0 (i := 0) (o := 0) (by kernel_rfl) rfl) rfl ?_) | refine WL.step (Yl.pick_f rfl rfl rfl) rfl ?_ | (refine WL.k_bin .eql ?_; refine WL.step (Yl.eqlF (m := o.kd) (n := 2) rfl rfl (by omega)) rfl ?_) | refine WC.seq ?_ | refine WC.region ?_ | refine WL.nil ?_ | refine WN.then_normal ?_))
              refine WC.cond_false rfl rfl ?_
              refine WC.goto ?_
              (repeat (first | refine WN.then_goto ?_ | refine WN.block_goto ?_))
              refine WN.jump (Sum.inr (t, js, d2, p)) rfl (Nat.succ_pos _) (hstop fun h => by rcases h.2 with h | h; exact k3 h.2.2; exact absurd (k1.symm.trans h.1) (by decide)) zS (.more (.more (Part.refl _)))
          · (repeat (first | (refine WL.kG ?_; first | refine WL.want rfl rfl rfl ?_ | refine WL.pass rfl rfl rfl rfl ?_) | refine WL.step (Yl.move rfl) rfl ?_ | refine WL.step (Yl.assign rfl) rfl ?_ | (refine WL.k_load ?_; refine WL.step (Yl.loadBlk (T := 3) Tryz.isAgg3 rfl zH (by rfl)) rfl ?_) | (refine WL.k_fld ?_; first | refine WL.step (Yl.fldN0 (i := 0) (o := 0) (by kernel_rfl) rfl) rfl ?_ | refine WL.step (Yl.fldN0 (i := 3) (o := 3) (by kernel_rfl) rfl) rfl ?_) | (refine WL.k_pick ?_; first | refine WL.step (Yl.pick_t rfl rfl rfl) rfl ?_ | refine WL.step (Yl.pick_f rfl rfl rfl) rfl ?_) | refine WL.step (Yl.lenMap (b := bp) (M := M2) (c := c2) (F := t.G) Tryz.underlying77 rfl hM2 (Has.mem (.tail _ (.head _)))) rfl ?_ | (refine WL.k_bin .eql ?_; first | refine WL.step (Yl.eqlT (m := o.kd) (n := 1) rfl rfl (by omega)) rfl ?_ | refine WL.step (Yl.eqlF (m := o.ix) (n := ((dirtyOf 4096 t.G).length : Int)) rfl rfl (by omega)) rfl ?_) | refine WL.nil ?_ | refine WN.then_normal ?_))
            refine WC.cond_false rfl rfl ?_
            (repeat (first | refine WL.pass rfl rfl rfl rfl ?_ | refine WL.step (Yl.move rfl) rfl ?_ | refine WL.step (Yl.assign rfl) rfl ?_ | (refine WL.k_load ?_; refine WL.step (Yl.loadBlk (T := 3) Tryz.isAgg3 rfl zH (by rfl)) rfl ?_) | (refine WL.k_fld ?_; refine WL.step (Yl.fldN0 (i := 0) (o := 0) (by kernel_rfl) rfl) rfl ?_) | refine WL.step (Yl.pick_f rfl rfl rfl) rfl ?_ | (refine WL.k_bin .eql ?_; refine WL.step (Yl.eqlF (m := o.kd) (n := 2) rfl rfl (by omega)) rfl ?_) | refine WC.seq ?_ | refine WC.region ?_ | refine WL.nil ?_ | refine WN.then_normal ?_))
            refine WC.cond_false rfl rfl ?_
            refine WC.goto ?_
            (repeat (first | refine WN.then_goto ?_ | refine WN.block_goto ?_))
            refine WN.jump (Sum.inr (t, js, d2, p)) rfl (Nat.succ_pos _) (hstop fun h => by rcases h.2 with h | h; exact k2 h.2.1; exact absurd (k1.symm.trans h.1) (by decide)) zS (.more (.more (Part.refl _)))
        by_cases k4 : o.kd = 2
        · by_cases k5 : 0 < t.k
          · by_cases k6 : o.no = (t.k : Int)
            · (repeat (first | refine WL.pass rfl rfl rfl rfl ?_ | refine WL.step (Yl.move rfl) rfl ?_ | refine WL.step (Yl.assign rfl) rfl ?_ | (refine WL.k_load ?_; refine WL.step (Yl.loadBlk (T := 3) Tryz.isAgg3 rfl zH (by rfl)) rfl ?_) | (refine WL.k_fld ?_; refine WL.step (Yl.fldN0 (i := 0) (o := 0) (by kernel_rfl) rfl) rfl ?_) | refine WL.step (Yl.pick_f rfl rfl rfl) rfl ?_ | (refine WL.k_bin .eql ?_; refine WL.step (Yl.eqlF (m := o.kd) (n := 1) rfl rfl (by omega)) rfl ?_) | refine WL.nil ?_ | refine WN.then_normal ?_))
              refine WC.cond_false rfl rfl ?_
              (repeat (first | refine WL.want rfl rfl rfl ?_ | refine WL.step (Yl.move rfl) rfl ?_ | refine WL.step (Yl.assign rfl) rfl ?_ | (refine WL.k_load ?_; refine WL.step (Yl.loadBlk (T := 3) Tryz.isAgg3 rfl zH (by rfl)) rfl ?_) | (refine WL.k_fld ?_; first | refine WL.step (Yl.fldN0 (i := 0) (o := 0) (by kernel_rfl) rfl) rfl ?_ | refine WL.step (Yl.fldN0 (i := 4) (o := 4) (by kernel_rfl) rfl) rfl ?_) | refine WL.step (Yl.pick_t rfl rfl rfl) rfl ?_ | refine WL.step (Yl.lenMap (b := bp) (M := M2) (c := c2) (F := t.G) Tryz.underlying77 rfl hM2 (Has.mem (.tail _ (.head _)))) rfl ?_ | (refine WL.k_bin .eql ?_; first | refine WL.step (Yl.eqlT (m := o.kd) (n := 2) rfl rfl (by omega)) rfl ?_ | refine WL.step (Yl.eqlT (m := o.no) (n := ((dirtyOf 4096 t.G).length : Int)) rfl rfl (by omega)) rfl ?_) | (refine WL.k_bin .gtr ?_; refine WL.step (Yl.gtrT (m := ((dirtyOf 4096 t.G).length : Int)) (n := 0) rfl rfl (by omega)) rfl ?_) | refine WC.seq ?_ | refine WC.region ?_ | refine WL.nil ?_ | refine WN.then_normal ?_))
              refine WC.cond_true rfl rfl ?_
              (repeat (first | refine WL.step (Yl.move rfl) rfl ?_ | (refine WL.k_bin .add ?_; refine WL.step (Yl.add64N (m := t.at_) (n := o.sec) rfl rfl (by omega)) rfl ?_) | refine WC.seq ?_ | refine WC.region ?_))
              refine WL.callS (g := 64) (A0 := jI dp.bd p js ++ [.blk bp (mobj encP M2 c2)]) (B := _ :: drI dp d2) Tryz.call64 rfl (permS _ _ _ _ _) (fun w0 st2 s1 => commit_r dp.bd p js bp (t.at_ + o.sec) t.G M2 c2 w0 jok.m (by omega) hM2 s1) rfl fun v C hv => ?_
              obtain ⟨rfl, s2, hs2, hm2, rfl⟩ := hv
              have hs2v : s2.v = ⟨first, n, ep, t.at_ + o.sec, t.tx + 1, ovr t.F t.G⟩ := by rw [hs2, JV.commit, hjv]
              simp only [jI, List.cons_append, List.nil_append]
              (repeat (first | refine WC.region ?_ | refine WL.nil ?_ | refine WN.then_normal ?_))
              refine WL.makeMap (enc := encP) rfl fun bp2 => ?_
              (repeat (first | refine WL.step (Yl.move rfl) rfl ?_ | refine WL.step (Yl.assign rfl) rfl ?_ | (refine WL.k_bin .add ?_; refine WL.step (Yl.add64N (m := t.at_) (n := o.sec) rfl rfl (by omega)) rfl ?_) | refine WC.seq ?_ | refine WC.region ?_ | refine WL.nil ?_ | refine WN.then_normal ?_ | refine WN.block_normal ?_))
              refine WC.goto ?_
              (repeat (first | refine WN.then_goto ?_ | refine WN.block_goto ?_))
              refine WN.jump (Sum.inl (t.comm o, s2, d2, bp2, p, [], 0)) rfl (by show n - (t.at_ + o.sec) + 1 < n - t.at_ + 1; omega) ⟨⟨hm2, by rw [hs2v]; exact he0, by rw [hs2v]; show first + n ≤ 4096; omega, by rw [hs2v]; exact hn, by rw [hs2v]; exact fs2, by rw [hs2v]; show t.tx + 1 ≤ t.at_ + o.sec; omega⟩, hs2v, d2ok, ⟨_, by show _ ≤ 5 * (t.at_ + o.sec); omega, hd2⟩, MapIs.empty _, hi.comm fs2 fs1, fun u hu => hsc u (.comm t u (by rw [← ho]; exact ⟨he, htx⟩) (by rw [← ho]; exact ⟨k4, k5, k6⟩) (by rw [← ho]; exact hu))⟩ zS (.cons .here (.cons .here (.cons .here (.more (.more (Part.refl _))))))
            · (repeat (first | refine WL.pass rfl rfl rfl rfl ?_ | refine WL.step (Yl.move rfl) rfl ?_ | refine WL.step (Yl.assign rfl) rfl ?_ | (refine WL.k_load ?_; refine WL.step (Yl.loadBlk (T := 3) Tryz.isAgg3 rfl zH (by rfl)) rfl ?_) | (refine WL.k_fld ?_; refine WL.step (Yl.fldN0 (i := 0) (o := 0) (by kernel_rfl) rfl) rfl ?_) | refine WL.step (Yl.pick_f rfl rfl rfl) rfl ?_ | (refine WL.k_bin .eql ?_; refine WL.step (Yl.eqlF (m := o.kd) (n := 1) rfl rfl (by omega)) rfl ?_) | refine WL.nil ?_ | refine WN.then_normal ?_))
              refine WC.cond_false rfl rfl ?_
              (repeat (first | refine WL.want rfl rfl rfl ?_ | refine WL.step (Yl.move rfl) rfl ?_ | refine WL.step (Yl.assign rfl) rfl ?_ | (refine WL.k_load ?_; refine WL.step (Yl.loadBlk (T := 3) Tryz.isAgg3 rfl zH (by rfl)) rfl ?_) | (refine WL.k_fld ?_; first | refine WL.step (Yl.fldN0 (i := 0) (o := 0) (by kernel_rfl) rfl) rfl ?_ | refine WL.step (Yl.fldN0 (i := 4) (o := 4) (by kernel_rfl) rfl) rfl ?_) | refine WL.step (Yl.pick_t rfl rfl rfl) rfl ?_ | refine WL.step (Yl.lenMap (b := bp) (M := M2) (c := c2) (F := t.G) Tryz.underlying77 rfl hM2 (Has.mem (.tail _ (.head _)))) rfl ?_ | (refine WL.k_bin .eql ?_; first | refine WL.step (Yl.eqlT (m := o.kd) (n := 2) rfl rfl (by omega)) rfl ?_ | refine WL.step (Yl.eqlF (m := o.no) (n := ((dirtyOf 4096 t.G).length : Int)) rfl rfl (by omega)) rfl ?_) | (refine WL.k_bin .gtr ?_; refine WL.step (Yl.gtrT (m := ((dirtyOf 4096 t.G).length : Int)) (n := 0) rfl rfl (by omega)) rfl ?_) | refine WC.seq ?_ | refine WC.region ?_ | refine WL.nil ?_ | refine WN.then_normal ?_))
              refine WC.cond_false rfl rfl ?_
              refine WC.goto ?_
              (repeat (first | refine WN.then_goto ?_ | refine WN.block_goto ?_))
              refine WN.jump (Sum.inr (t, js, d2, p)) rfl (Nat.succ_pos _) (hstop fun h => by rcases h.2 with h | h; exact k1 h.1; exact k6 h.2.2) zS (.more (.more (Part.refl _)))
          · (repeat (first | refine WL.pass rfl rfl rfl rfl ?_ | refine WL.step (Yl.move rfl) rfl ?_ | refine WL.step (Yl.assign rfl) rfl ?_ | (refine WL.k_load ?_; refine WL.step (Yl.loadBlk (T := 3) Tryz.isAgg3 rfl zH (by rfl)) rfl ?_) | (refine WL.k_fld ?_; refine WL.step (Yl.fldN0 (i := 0) (o := 0) (by kernel_rfl) rfl) rfl ?_) | refine WL.step (Yl.pick_f rfl rfl rfl) rfl ?_ | (refine WL.k_bin .eql ?_; refine WL.step (Yl.eqlF (m := o.kd) (n := 1) rfl rfl (by omega)) rfl ?_) | refine WL.nil ?_ | refine WN.then_normal ?_))
            refine WC.cond_false rfl rfl ?_
            (repeat (first | (refine WL.kG ?_; first | refine WL.want rfl rfl rfl ?_ | refine WL.pass rfl rfl rfl rfl ?_) | refine WL.step (Yl.move rfl) rfl ?_ | refine WL.step (Yl.assign rfl) rfl ?_ | (refine WL.k_load ?_; refine WL.step (Yl.loadBlk (T := 3) Tryz.isAgg3 rfl zH (by rfl)) rfl ?_) | (refine WL.k_fld ?_; refine WL.step (Yl.fldN0 (i := 0) (o := 0) (by kernel_rfl) rfl) rfl ?_) | (refine WL.k_pick ?_; first | refine WL.step (Yl.pick_t rfl rfl rfl) rfl ?_ | refine WL.step (Yl.pick_f rfl rfl rfl) rfl ?_) | refine WL.step (Yl.lenMap (b := bp) (M := M2) (c := c2) (F := t.G) Tryz.underlying77 rfl hM2 (Has.mem (.tail _ (.head _)))) rfl ?_ | (refine WL.k_bin .eql ?_; refine WL.step (Yl.eqlT (m := o.kd) (n := 2) rfl rfl (by omega)) rfl ?_) | (refine WL.k_bin .gtr ?_; refine WL.step (Yl.gtrF (m := ((dirtyOf 4096 t.G).length : Int)) (n := 0) rfl rfl (by omega)) rfl ?_) | refine WC.seq ?_ | refine WC.region ?_ | refine WL.nil ?_ | refine WN.then_normal ?_))
            refine WC.cond_false rfl rfl ?_
            refine WC.goto ?_
            (repeat (first | refine WN.then_goto ?_ | refine WN.block_goto ?_))
            refine WN.jump (Sum.inr (t, js, d2, p)) rfl (Nat.succ_pos _) (hstop fun h => by rcases h.2 with h | h; exact k1 h.1; exact k5 h.2.1) zS (.more (.more (Part.refl _)))
        · (repeat (first | refine WL.pass rfl rfl rfl rfl ?_ | refine WL.step (Yl.move rfl) rfl ?_ | refine WL.step (Yl.assign rfl) rfl ?_ | (refine WL.k_load ?_; refine WL.step (Yl.loadBlk (T := 3) Tryz.isAgg3 rfl zH (by rfl)) rfl ?_) | (refine WL.k_fld ?_; refine WL.step (Yl.fldN0 (i := 0) (o := 0) (by kernel_rfl) rfl) rfl ?_) | refine WL.step (Yl.pick_f rfl rfl rfl) rfl ?_ | (refine WL.k_bin .eql ?_; refine WL.step (Yl.eqlF (m := o.kd) (n := 1) rfl rfl (by omega)) rfl ?_) | refine WL.nil ?_ | refine WN.then_normal ?_))
          refine WC.cond_false rfl rfl ?_
          (repeat (first | refine WL.pass rfl rfl rfl rfl ?_ | refine WL.step (Yl.move rfl) rfl ?_ | refine WL.step (Yl.assign rfl) rfl ?_ | (refine WL.k_load ?_; refine WL.step (Yl.loadBlk (T := 3) Tryz.isAgg3 rfl zH (by rfl)) rfl ?_) | (refine WL.k_fld ?_; refine WL.step (Yl.fldN0 (i := 0) (o := 0) (by kernel_rfl) rfl) rfl ?_) | refine WL.step (Yl.pick_f rfl rfl rfl) rfl ?_ | (refine WL.k_bin .eql ?_; refine WL.step (Yl.eqlF (m := o.kd) (n := 2) rfl rfl (by omega)) rfl ?_) | refine WC.seq ?_ | refine WC.region ?_ | refine WL.nil ?_ | refine WN.then_normal ?_))
          refine WC.cond_false rfl rfl ?_
          refine WC.goto ?_
          (repeat (first | refine WN.then_goto ?_ | refine WN.block_goto ?_))
          refine WN.jump (Sum.inr (t, js, d2, p)) rfl (Nat.succ_pos _) (hstop fun h => by rcases h.2 with h | h; exact k1 h.1; exact k4 h.1) zS (.more (.more (Part.refl _)))
      · (refine WH.order [0, 1, 2, 3, 4, 5, 6, 7, 8, 9, 10, 11] (by repeat (first | exact Part.nil | refine Part.cons zK ?_ | refine Part.free ?_)) (by kernel_rfl) ?_; (repeat (first | (refine WT.k_move rfl ?_; first | (refine WT.kn rfl ?_; refine WT.take rfl rfl (fun _ _ _ h => h) (Yl.move rfl) rfl (by kernel_rfl) (by kernel_rfl) ?_) | (refine WT.kg rfl ?_; refine WT.takeG rfl rfl rfl rfl (fun _ _ _ h => h) (Yl.move rfl) rfl (by kernel_rfl) (by kernel_rfl) ?_)) | (refine WT.k_load rfl ?_; (refine WT.kg rfl ?_; refine WT.takeG rfl rfl rfl rfl (fun _ _ _ h => h) (Yl.loadBlk (T := 3) Tryz.isAgg3 rfl zH (by rfl)) rfl (by kernel_rfl) (by kernel_rfl) ?_)) | (refine WT.k_fld rfl ?_; (refine WT.kg rfl ?_; first | refine WT.takeG rfl rfl rfl rfl (fun _ _ _ h => h) (Yl.fldN0 (i := 2) (o := 2) (by kernel_rfl) rfl) rfl (by kernel_rfl) (by kernel_rfl) ?_ | refine WT.takeG rfl rfl rfl rfl (fun _ _ _ h => h) (Yl.fldN0 (i := 5) (o := 5) (by kernel_rfl) rfl) rfl (by kernel_rfl) (by kernel_rfl) ?_)) | (refine WT.k_pick rfl ?_; (refine WT.kn rfl ?_; refine WT.take rfl rfl (fun _ _ _ h => h) (Yl.pick_f rfl rfl rfl) rfl (by kernel_rfl) (by kernel_rfl) ?_)) | (refine WT.k_nilc rfl ?_; (refine WT.kg rfl ?_; refine WT.takeG rfl rfl rfl rfl (fun _ _ _ h => h) (Yl.nilCheck rfl) rfl (by kernel_rfl) (by kernel_rfl) ?_)) | (refine WT.k_bin .add rfl ?_; (refine WT.kg rfl ?_; refine WT.takeG rfl rfl rfl rfl (fun _ _ _ h => h) (Yl.add64C rfl (by omega)) rfl (by kernel_rfl) (by kernel_rfl) ?_)) | (refine WT.k_bin .neq rfl ?_; first | (refine WT.kn rfl ?_; refine WT.take rfl rfl (fun _ _ _ h => h) (Yl.neqF (m := (o.err : Int)) (n := 0) rfl rfl (by omega)) rfl (by kernel_rfl) (by kernel_rfl) ?_) | (refine WT.kg rfl ?_; refine WT.takeG rfl rfl rfl rfl (fun _ _ _ h => h) (Yl.neqT (m := o.tx) (n := ((js.v.tx + 1 : Nat) : Int)) rfl rfl (by omega)) rfl (by kernel_rfl) (by kernel_rfl) ?_)))); refine WT.nil ?_)
        refine WH.done (by kernel_rfl) ?_
        (repeat (first | refine WN.then_normal ?_))
        refine WC.cond_true rfl rfl ?_
        refine WC.goto ?_
        (repeat (first | refine WN.then_goto ?_ | refine WN.block_goto ?_))
        refine WN.jump (Sum.inr (t, js, d2, p)) rfl (Nat.succ_pos _) (hstop fun h => htx h.1.2) zS (.more (.more (Part.refl _)))
    · (refine WH.order [0, 1, 2, 3, 4, 5, 6, 7, 8, 9, 10, 11] (by repeat (first | exact Part.nil | refine Part.cons zK ?_ | refine Part.free ?_)) (by kernel_rfl) ?_; (repeat (first | refine WT.passG rfl rfl rfl rfl (fun _ _ _ h => h) rfl (by kernel_rfl) (by kernel_rfl) ?_ | (refine WT.k_move rfl ?_; (refine WT.kn rfl ?_; refine WT.take rfl rfl (fun _ _ _ h => h) (Yl.move rfl) rfl (by kernel_rfl) (by kernel_rfl) ?_)) | (refine WT.k_pick rfl ?_; (refine WT.kn rfl ?_; refine WT.take rfl rfl (fun _ _ _ h => h) (Yl.pick_t rfl rfl rfl) rfl (by kernel_rfl) (by kernel_rfl) ?_)) | (refine WT.k_bin .neq rfl ?_; (refine WT.kn rfl ?_; refine WT.take rfl rfl (fun _ _ _ h => h) (Yl.neqT (m := (o.err : Int)) (n := 0) rfl rfl (by omega)) rfl (by kernel_rfl) (by kernel_rfl) ?_)))); refine WT.nil ?_)
      refine WH.done (by kernel_rfl) ?_
      (repeat (first | refine WN.then_normal ?_))
      refine WC.cond_true rfl rfl ?_
      refine WC.goto ?_
      (repeat (first | refine WN.then_goto ?_ | refine WN.block_goto ?_))
      refine WN.jump (Sum.inr (t, js, d2, p)) rfl (Nat.succ_pos _) (hstop fun h => he h.1.1) zS (.more (.more (Part.refl _)))
  · rintro ⟨t, js, d1, p⟩ ⟨jok, hjv, d1ok, ⟨m, hm, hd1⟩, hsc⟩
    simp only
    (repeat (first | refine WL.step (Yl.move rfl) rfl ?_ | refine WL.step (Yl.assign rfl) rfl ?_ | refine WC.seq ?_ | refine WC.region ?_ | refine WL.nil ?_ | refine WN.then_normal ?_ | refine WC.ret ?_))
    refine WN.jmp_ret ?_
    skip
    exact WN.ret2S rfl rfl rfl ⟨p, js, d1, t, m, rfl, jok, hjv, hsc, d1ok, hd1, hm, rfl⟩ (Part.refl _)
  · intro hjump
    (repeat (first | refine WL.step (Yl.move rfl) rfl ?_ | refine WC.seq ?_ | refine WC.region ?_))
    refine WL.call (g := 12) Tryz.call12 rfl (fun w0 st2 => jnew_c first n ep w0 (dok.at_ st2 fun x h => h) hle he0 hn hr) rfl fun v B hv => ?_
    obtain ⟨p, s, sok, hsv, rfl, rfl⟩ := hv
    (repeat (first | refine WL.step (Yl.move rfl) rfl ?_ | refine WL.step (Yl.assign rfl) rfl ?_ | refine WL.step (Yl.extract rfl rfl) rfl ?_ | refine WL.step (Yl.neqF rfl rfl rfl) rfl ?_ | refine WC.seq ?_ | refine WC.region ?_ | refine WL.nil ?_ | refine WN.then_normal ?_))
    refine WC.cond_false rfl rfl ?_
    (repeat (first | refine WL.step (Yl.move rfl) rfl ?_ | refine WL.callV (g := 27) (v := .bool ds.v.down) Tryz.call27 rfl (fun w0 st2 => ddown_c w0 (dok.at_ st2 fun x h => List.mem_append_right _ h)) rfl ?_ | refine WC.seq ?_ | refine WC.region ?_ | refine WL.nil ?_ | refine WN.then_normal ?_ | refine WC.skip ?_))
    refine WC.cond_false rfl hdn ?_
    (repeat (first | refine WL.step (Yl.assign rfl) rfl ?_ | refine WC.seq ?_ | refine WC.region ?_ | refine WL.nil ?_ | refine WN.then_normal ?_ | refine WC.skip ?_))
    refine WL.makeMap (enc := encP) rfl fun bp => ?_
    (repeat (first | refine WL.step (Yl.assign rfl) rfl ?_))
    refine WL.nil (WN.then_normal (WC.seq (WC.label (WN.then_normal ?_))))
    refine hjump (SS.start, s, ds, bp, p, [], 0) _ _ ⟨sok, hsv, dok, ⟨0, Nat.zero_le _, rfl⟩, MapIs.empty _, SInv.start n, fun u hu => hu⟩ (by show Sub _ [_, _, _, _]; (repeat (first | exact Sub.nil | refine Sub.cons rfl rfl ?_))) (Part.refl _)
end
end Go.Proofs.YtbkdjfgkebkknaaGreatDoor
namespace Go.Proofs.YtbkdjfgkebkknaaGreatDoor
set_option linter.unusedVariables false
set_option linter.unusedSimpArgs false
open Go Go.RowKit Go.Shelf
set_option maxRecDepth 100000
set_option maxHeartbeats 4000000
def keysLP_ren : Go.Shelf.Ren := ⟨fun | 7 => 86 | 10 => 120 | n => n, fun | 23 => 77 | 26 => 3 | 3 => 123 | 28 => 94 | 0 => 0 | 27 => 93 | 33 => 68 | 4 => 4 | n => n, fun | n => n⟩
theorem keysLP : Go.Proofs.SlLaysZI.n7 Tryz.prog keysLP_ren := {
  mixed := by kernel_rfl,
  f7 := ⟨Tryz.f86.name, by decide, Tryz.func86.trans (congrArg some (by kernel_rfl))⟩,
  f10 := ⟨Tryz.f120.name, by decide, Tryz.func120.trans (congrArg some (by kernel_rfl))⟩,
  t0 := Tryz.underlying0,
  a0 := Tryz.isAgg0,
  z0 := Tryz.sizeOf0,
  v0 := Tryz.zeroValue0,
  t4 := Tryz.underlying4,
  a4 := Tryz.isAgg4,
  z4 := Tryz.sizeOf4,
  v4 := Tryz.zeroValue4,
  t23 := Tryz.underlying77,
  a23 := Tryz.isAgg77,
  z23 := Tryz.sizeOf77,
  v23 := Tryz.zeroValue77,
  t26 := Tryz.underlying3,
  a26 := Tryz.isAgg3,
  z26 := Tryz.sizeOf3,
  v26 := Tryz.zeroValue3,
  t27 := Tryz.underlying93,
  a27 := Tryz.isAgg93,
  z27 := Tryz.sizeOf93,
  v27 := Tryz.zeroValue93,
  t28 := Tryz.underlying94,
  a28 := Tryz.isAgg94,
  z28 := Tryz.sizeOf94,
  v28 := Tryz.zeroValue94,
  t33 := Tryz.underlying68,
  a33 := Tryz.isAgg68,
  z33 := Tryz.sizeOf68,
  v33 := Tryz.zeroValue68 }
def cloneLP_ren : Go.Shelf.Ren := ⟨fun | 5 => 69 | 7 => 113 | n => n, fun | 23 => 77 | 25 => 3 | 3 => 123 | 4 => 4 | 20 => 20 | n => n, fun | n => n⟩
theorem cloneLP : Go.Proofs.SlLaysW.n5 Tryz.prog cloneLP_ren := {
  mixed := by kernel_rfl,
  f5 := ⟨Tryz.f69.name, by decide, Tryz.func69.trans (congrArg some (by kernel_rfl))⟩,
  f7 := Tryz.func113.trans (congrArg some (by kernel_rfl)),
  t4 := Tryz.underlying4,
  a4 := Tryz.isAgg4,
  z4 := Tryz.sizeOf4,
  v4 := Tryz.zeroValue4,
  t20 := Tryz.underlying20,
  a20 := Tryz.isAgg20,
  z20 := Tryz.sizeOf20,
  v20 := Tryz.zeroValue20,
  t23 := Tryz.underlying77,
  a23 := Tryz.isAgg77,
  z23 := Tryz.sizeOf77,
  v23 := Tryz.zeroValue77 }
def KeysVP (mb : Nat) : Value → List HA → Prop := fun u B => ∃ bx, u = .func (.func 120) #[] #[.pointer (some ⟨bx, 0, none⟩)] ∧ B = [.blk bx (.cells #[.map (some mb)] 77 (0, 0))]
theorem keysP_c (mb : Nat) (w : World) : Calls Tryz.prog 86 #[.map (some mb)] w (Gives (KeysVP mb) w) := by
  have h : CallsIn Fence.wide 5 Tryz.prog 86 #[.map (some mb)] w fun e w' => e = .returned (.func (.func 120) #[] #[.pointer (some ⟨w.heap.size, 0, none⟩)]) ∧ w' = w.alloc (.cells #[.map (some mb)] 77) := AnyZI.keys_in keysLP Fence.wide 5 trivial rfl (some mb) w
  refine ((callsIn_wide (n := 5)).1 h).mono ?_
  rintro e w' ⟨rfl, rfl⟩
  exact ⟨_, _, rfl, ⟨_, rfl, rfl⟩, (St.start w).alloc _⟩
theorem sortedP_c {β : Type} {enc : β → Value} {n c : Nat} {F : Nat → Option β} {M : List (Nat × β × Nat)} (bx mb : Nat) (w : World) (h : MapIs n F M c) (hn : n ≤ 1000000)
    (hbx : w.heap[bx]? = some (.cells #[.map (some mb)] 77 (0, 0))) (hmb : w.heap[mb]? = some (mobj enc M c)) :
    Calls Tryz.prog 41 #[.func (.func 120) #[] #[.pointer (some ⟨bx, 0, none⟩)]] w (Gives (NewRow id 3 1 (dirtyOf n F).length (ncells (dirtyOf n F))) w) := by
  obtain ⟨D, hown, hperm, hsize⟩ := h.owns (P := Tryz.prog) (K := 3) Tryz.underlying3 hn hmb
  have hc := h.count
  have hseq : SeqGives Fence.wide 2 Tryz.prog 120 #[.pointer (some ⟨bx, 0, none⟩)] encZ (fun ss => ss.Perm (intKeys D)) (Maps.size D) w :=
    AnyZI.keys_gives (ρ := keysLP_ren) { keysLP with } Fence.wide _ trivial rfl (by omega) bx mb M.length D _ (lt_of_heap hbx) (by simp [World.cell?, hbx]) hown
  have cS := AnyZI.sorted_in sortedL Fence.wide 5 trivial trivial trivial trivial rfl (by omega) (sorts_all _) (enters_of Tryz.func57 (by kernel_rfl) rfl) 120 #[.pointer (some ⟨bx, 0, none⟩)] trivial (enters_of Tryz.func120 (by kernel_rfl) rfl) _ _ (by rw [hsize]; simp only [maxLen]; omega) (by rw [hsize]; omega) _ hseq
  refine ((callsIn_wide (n := 5)).1 cS).mono ?_
  rintro e w' ⟨v, ss, rfl, hS, hrow, _, hb⟩
  have hs := h.sorted (hS.trans hperm)
  have hl : ss.length = (dirtyOf n F).length := by
    have := congrArg List.length hs
    rwa [List.length_mergeSort, List.length_map] at this
  rw [hs, hl, List.map_map] at hrow
  exact gives_row (P := Tryz.prog) (T := 3) (xs := ncells (dirtyOf n F)) hrow hb
def MapVP (M : List (Nat × Pc × Nat)) (c : Nat) : Value → List HA → Prop := fun u B => ∃ b, u = .map (some b) ∧ B = [.blk b (mobj encP M c)]
theorem clmP_c (mb : Nat) (M : List (Nat × Pc × Nat)) (c : Nat) (w : World) (h : w.heap[mb]? = some (mobj encP M c)) :
    Calls Tryz.prog 69 #[.map (some mb)] w (Gives (MapVP M c) w) := by
  refine (AnyW.maps_Clone cloneLP mb _ _ w h).mono ?_
  rintro e w' ⟨rfl, rfl⟩
  exact ⟨_, _, rfl, ⟨_, rfl, rfl⟩, (St.start w).alloc _⟩
end Go.Proofs.YtbkdjfgkebkknaaGreatDoor
