import Derived.Test.YtbkdjfgkebkknaaGreatDoorRowJournalSpoiltMg24
import Derived.Test.YtbkdjfgkebkknaaGreatDoorRowJournalSpoiltMg6
import Derived.Test.YtbkdjfgkebkknaaGreatDoorRowJournalSpoiltMg20
namespace Go.Proofs.YtbkdjfgkebkknaaGreatDoor
set_option linter.unusedVariables false
set_option linter.unusedSimpArgs false
open Go Go.RowKit
set_option maxRecDepth 100000
set_option maxHeartbeats 8000000
theorem CellsOut.take {w : World} {S : List Nat} {a : Option Addr} {vs : List Value} (h : CellsOut w S a vs) (n : Nat) : CellsOut w S a (vs.take n) := by
  rcases h with h | ⟨b, off, h1, h2, h3⟩
  · subst h; exact .inl (by simp)
  · refine .inr ⟨b, off, h1, h2, fun i v hv => h3 i v ?_⟩
    rw [List.getElem?_take] at hv
    split at hv
    · exact hv
    · cases hv
section
variable {X : Cx} {ops : Array Oper} {Q : Exit → Act → World → Prop} {ρ : Env} {A B : List HA} {rest : List Oper}
theorem part_more : ∀ (D : List HA) {A B : List HA}, Part A B → Part (D ++ A) B
  | [], _, _, h => h
  | _ :: D, _, _, h => .more (part_more D h)
theorem part_to {A B D : List HA} (h : A.Perm (D ++ B)) : Part A B := by
  induction B generalizing A with
  | nil => exact .nil
  | cons x B ih =>
    obtain ⟨L, R, hL⟩ := List.append_of_mem (h.mem_iff.2 (List.mem_append_right D (.head _)))
    subst hL
    have hp : Pick x (L ++ x :: R) (L ++ R) := by
      clear h ih
      induction L with
      | nil => exact .here
      | cons y L ih => exact .there ih
    exact .cons hp (ih (List.Perm.cons_inv ((List.perm_middle.symm.trans h).trans List.perm_middle)))
theorem WL.drops {D : List HA} (hp : A.Perm (D ++ B)) (h : WL X ops Q rest ρ B) : WL X ops Q rest ρ A := WL.part (Part.perm hp) (WL.part (part_more D (Part.refl _)) h)
theorem WN.drops {e : Exit} {D : List HA} (hp : A.Perm (D ++ B)) (h : WN X Q e ρ B) : WN X Q e ρ A := fun a w f s => h a w f ((s.part (Part.perm hp)).part (part_more D (Part.refl _)))
theorem WC.perm {c : Code} (hp : A.Perm B) (h : WC X c Q ρ B) : WC X c Q ρ A := fun a w f s => h a w f (s.part (Part.perm hp))
end
attribute [local irreducible] WL WC WN Yl WH WQ WT WE WU WG WV
end Go.Proofs.YtbkdjfgkebkknaaGreatDoor
namespace Go.Proofs.YtbkdjfgkebkknaaGreatDoor
set_option linter.unusedVariables false
set_option linter.unusedSimpArgs false
open Go Go.RowKit
set_option maxRecDepth 100000
theorem getD_set_ne {l : List UInt8} {k i : Nat} {x : UInt8} (h : k ≠ i) : (l.set k x).getD i 0 = l.getD i 0 := by
  simp [List.getD, List.getElem?_set_ne h]
theorem dec_sec {b : List UInt8} {x : Int} (h : (Frm.dec b x).err = 0) : (Frm.dec b x).sec = (Frm.secs ((b.getD 8 0).toNat : Nat)).1 := by
  unfold Frm.dec at h ⊢
  by_cases h0 : (Frm.unst b x).1 ≠ 0
  · rw [if_pos h0] at h; exact absurd h h0
  · rw [if_neg h0] at h ⊢
    have h1 := (Frm.unst_zero (Decidable.not_not.1 h0)).2.2.1
    have h2 : Frm.kindOf (Frm.unst b x).2 = (b.getD 8 0).toNat := by
      rw [h1, Frm.kindOf]
      simp [List.getD, List.getElem?_take, List.getElem?_drop]
    by_cases hk : ¬ (Frm.kindOf (Frm.unst b x).2 = 1 ∨ Frm.kindOf (Frm.unst b x).2 = 2)
    · rw [if_pos hk] at h; cases h
    · rw [if_neg hk] at h ⊢
      by_cases hg : (Frm.gather b x (Frm.secs (Frm.kindOf (Frm.unst b x).2)).1).1 ≠ 0
      · rw [if_pos hg] at h; exact absurd h hg
      · rw [if_neg hg] at h ⊢
        rw [h2] at h ⊢
        unfold Frm.fin at h ⊢
        by_cases h3 : (Crc.opened (List.take (15 + Frm.dl (b.getD 8 0).toNat) (Frm.gather b x (Frm.secs ((b.getD 8 0).toNat : Nat)).1).2)).1 ≠ 0
        · rw [if_pos h3] at h; cases h
        · rw [if_neg h3] at h ⊢
          split at h
          · rename_i h4
            rw [if_pos h4]
          · cases h
theorem spoilt_dec {kd ep tx ix no : Int} {d : List UInt8} (hok : Frm.Ok kd ep tx ix no d.length) {k : Nat} (hk : k < (Frm.enc kd ep tx ix no d).2.length) (hk8 : k % 128 ≠ 8) {h : UInt8} (hh : h ≠ 0) (r : List UInt8) :
    (Frm.dec (Frm.chg (Frm.enc kd ep tx ix no d).2 k h ++ r) ep).err ≠ 0 := fun e => by
  have hl := enc_len hok
  have hlp := secs_pos hok
  obtain ⟨X, hX⟩ : ∃ X, X = Frm.chg (Frm.enc kd ep tx ix no d).2 k h := ⟨_, rfl⟩
  have hXl : X.length = 128 * (Frm.secs kd).1 := by rw [hX, Frm.chg_length, hl]
  rw [← hX] at e
  have e1 := dec_sec e
  have eE : Frm.dec (Frm.enc kd ep tx ix no d).2 ep = ⟨0, (Frm.secs kd).1, kd, ep, tx, ix, no, d⟩ := by have := Frm.enc_dec hok []; rwa [List.append_nil] at this
  have e2 := dec_sec (b := (Frm.enc kd ep tx ix no d).2) (x := ep) (by rw [eE])
  rw [eE] at e2
  have e3 : (X ++ r).getD 8 0 = (Frm.enc kd ep tx ix no d).2.getD 8 0 := by
    rw [getD_l (by omega), hX, Frm.chg, getD_set_ne (fun hh => hk8 (by rw [hh]))]
  rw [e3, ← e2] at e1
  obtain ⟨f1, f2, f3, f4⟩ := dec_facts e
  obtain ⟨g1, _, g3, _⟩ := Frm.dec_enc e
  rw [g3] at g1
  have e4 : (X ++ r).take (128 * (Frm.dec (X ++ r) ep).sec) = X := by rw [e1, ← hXl, List.take_left]
  rw [e4] at g1
  have e5 : Frm.dec X ep = ⟨0, (Frm.secs (Frm.dec (X ++ r) ep).kd).1, (Frm.dec (X ++ r) ep).kd, ep, (Frm.dec (X ++ r) ep).tx, (Frm.dec (X ++ r) ep).ix, (Frm.dec (X ++ r) ep).no, (Frm.dec (X ++ r) ep).data⟩ := by
    have := Frm.enc_dec f1 []
    rwa [g1, List.append_nil] at this
  have hc := Frm.dec_changed hok hk hh
  rw [← hX, e5] at hc
  obtain ⟨c1, _, _, c4⟩ := hc
  by_cases hs : k % 128 < 8 ∨ 120 ≤ k % 128
  · have := c1 hs; cases this
  · rcases c4 (fun hh => hk8 (by rw [hh])) (by omega) (by omega) with hh | hh <;> cases hh
theorem rowB_one {v : DV} (hw : BkWf v.d v.F) {a : Nat} (h : a < v.d.length) : rowB v a 1 = secV v a := by
  have := rowB_sec hw (a := a) (k := 0) h
  rw [show (1 : Nat) = 0 + 1 from rfl, rowB_succ, this]; rfl
theorem rowV_len {v : DV} (hw : BkWf v.d v.F) {a : Nat} : ∀ {m : Nat}, a + m ≤ v.d.length → (rowB v a m).length = 128 * m
  | 0, _ => rfl
  | m + 1, h => by rw [rowB_succ, List.length_append, rowV_len hw (by omega), rowB_sec hw (by omega), secV_len hw (by omega)]; omega
theorem rowB_same {v v' : DV} (hw : BkWf v.d v.F) (hw' : BkWf v'.d v'.F) (hl' : v'.d.length = v.d.length) {a : Nat} : ∀ {m : Nat}, a + m ≤ v.d.length → (∀ k, k < m → secV v' (a + k) = secV v (a + k)) → rowB v' a m = rowB v a m
  | 0, _, _ => rfl
  | m + 1, h, hs => by rw [rowB_succ, rowB_succ, rowB_same hw hw' hl' (by omega) (fun k hk => hs k (by omega)), rowB_sec hw (by omega), rowB_sec hw' (by omega), hs m (by omega)]
theorem chg_mid (A B C : List UInt8) {b : Nat} (hb : b < B.length) (x : UInt8) : Frm.chg (A ++ (B ++ C)) (A.length + b) x = A ++ (Frm.chg B b x ++ C) := by
  rw [Frm.chg, Frm.chg, getD_r (by omega), Nat.add_sub_cancel_left, getD_l hb, List.set_append_right _ _ (by omega), Nat.add_sub_cancel_left, List.set_append_left _ _ hb]
theorem rowB_chg {v v' : DV} (hw : BkWf v.d v.F) (hw' : BkWf v'.d v'.F) (hl' : v'.d.length = v.d.length) {a m q b : Nat} {x : UInt8} (hq : q < m) (ha : a + m ≤ v.d.length) (hb : b < 128) (hch : secV v' (a + q) = Frm.chg (secV v (a + q)) b x)
    (hs : ∀ k, k < v.d.length → k ≠ a + q → secV v' k = secV v k) : rowB v' a m = Frm.chg (rowB v a m) (128 * q + b) x := by
  obtain ⟨m', rfl⟩ : ∃ m', m = q + (1 + m') := ⟨m - q - 1, by omega⟩
  rw [rowB_add, rowB_add, rowB_add (v := v), rowB_add (v := v) (a + q), rowB_one hw (by omega), rowB_one hw' (by omega), rowB_same hw hw' hl' (by omega) (fun k hk => hs _ (by omega) (by omega)), rowB_same hw hw' hl' (a := a + q + 1) (by omega) (fun k hk => hs _ (by omega) (by omega)), hch]
  have := chg_mid (rowB v a q) (secV v (a + q)) (rowB v (a + q + 1) m') (b := b) (by rw [secV_len hw (by omega)]; exact hb) x
  rw [rowV_len hw (by omega)] at this
  exact this.symm
theorem frA_spoilt {v v' : DV} (hw : BkWf v.d v.F) (hw' : BkWf v'.d v'.F) (hl' : v'.d.length = v.d.length) {first n at_ : Nat} {ep : Int} {tx : Nat} {kd ix no : Int} {dt : List UInt8} (h : Frm.Ok kd ep (tx : Int) ix no dt.length) (hl : first + n ≤ v.d.length) (hf : at_ + (Frm.secs kd).1 ≤ n) (hh : Has_ v (first + at_) (frameP ep tx kd ix no dt))
    {q b : Nat} {x : UInt8} (hq : q < (Frm.secs kd).1) (hb : b < 128) (hb8 : b ≠ 8) (hx : x ≠ 0) (hch : secV v' (first + at_ + q) = Frm.chg (secV v (first + at_ + q)) b x) (hs : ∀ k, k < v.d.length → k ≠ first + at_ + q → secV v' k = secV v k) : (frA v' first n ep at_).err ≠ 0 := by
  have h5 := secs_le kd
  have e : min (at_ + 5) n - at_ = (Frm.secs kd).1 + (min (at_ + 5) n - at_ - (Frm.secs kd).1) := by omega
  have h1 := rowB_has hw hh (by rw [frameP_len]; omega)
  rw [frameP_len, frameP_flatten h] at h1
  rw [frA, e, rowB_add, rowB_chg hw hw' hl' hq (by omega) hb hch hs, h1]
  exact spoilt_dec h (by rw [enc_len h]; omega) (by omega) hx _
theorem laid_app {v : DV} : ∀ {Rs Us : List (List Pg)} {j : JV} {T : List Pg}, LaidT v j (Rs ++ T :: Us) → LaidT v j Rs ∧ TxOk v (j.adds Rs) T
  | [], _, _, _, h => ⟨trivial, h.1⟩
  | R :: Rs, Us, j, T, h => by
    obtain ⟨h1, h2⟩ := laid_app (Rs := Rs) (Us := Us) (j := j.add R) h.2
    exact ⟨⟨h.1, h1⟩, h2⟩
theorem split_used {k : Nat} : ∀ {Ts : List (List Pg)} {j : JV}, j.used ≤ k → k < (j.adds Ts).used → ∃ Rs T Us, Ts = Rs ++ T :: Us ∧ (j.adds Rs).used ≤ k ∧ k < ((j.adds Rs).add T).used
  | [], j, h1, h2 => absurd (show k < j.used from h2) (by omega)
  | T :: Ts, j, h1, h2 => by
    by_cases h : k < (j.add T).used
    · exact ⟨[], T, Ts, rfl, h1, h⟩
    · obtain ⟨Rs, U, Us, rfl, h3, h4⟩ := split_used (j := j.add T) (by omega) h2
      exact ⟨T :: Rs, U, Us, rfl, h3, h4⟩
theorem trF_app (ep : Int) (tx : Nat) : ∀ (M N : List Pg) (i : Nat), trF ep tx i (M ++ N) = trF ep tx i M ++ trF ep tx (i + M.length) N
  | [], N, i => by simp [trF]
  | q :: M, N, i => by rw [List.cons_append, trF, trF, trF_app ep tx M N (i + 1), List.append_assoc, List.length_cons, show i + (M.length + 1) = i + 1 + M.length by omega]
theorem tx_spoilt {v v' : DV} (hw : BkWf v.d v.F) (hw' : BkWf v'.d v'.F) (hl' : v'.d.length = v.d.length) {j : JV} (he : Frm.Ep j.ep) (hl : j.first + j.n ≤ v.d.length) (hn : j.n ≤ 4096) (htx : j.tx < 4294967295) {T : List Pg} (h : TxOk v j T) {k b : Nat} {x : UInt8}
    (hk1 : j.used ≤ k) (hk2 : k < j.used + 5 * T.length + 1) (hb : b < 128) (hb8 : b ≠ 8) (hx : x ≠ 0) (hch : secV v' (j.first + k) = Frm.chg (secV v (j.first + k)) b x) (hs : ∀ i, i < v.d.length → i ≠ j.first + k → secV v' i = secV v i) :
    ∃ t, Scan (frA v' j.first j.n j.ep) (SS.of j) t ∧ t.used = j.used ∧ t.tx = j.tx ∧ t.F = j.F := by
  have hf := h.fit
  obtain ⟨hh1, hh2⟩ := Has_.app.1 h.has
  rw [trF_len] at hh2
  by_cases hp : k < j.used + 5 * T.length
  · obtain ⟨c, hc⟩ : ∃ c, c = (k - j.used) / 5 := ⟨_, rfl⟩
    have hcT : c < T.length := by omega
    obtain ⟨q, hq⟩ : ∃ q, T[c]? = some q := ⟨T[c]'hcT, List.getElem?_eq_getElem hcT⟩
    have hT : T = T.take c ++ q :: T.drop (c + 1) := by rw [← getElem?_drop_cons hq, List.take_append_drop]
    have hcl : (T.take c).length = c := by rw [List.length_take]; omega
    have hh3 := hh1
    rw [hT, trF_app, hcl] at hh3
    obtain ⟨hh4, hh5⟩ := Has_.app.1 hh3
    rw [trF_len, hcl, Nat.zero_add, trF] at hh5
    obtain ⟨hh6, _⟩ := Has_.app.1 hh5
    have hqm := List.mem_of_getElem? hq
    have q0 := h.ok.low q hqm
    have q1 := h.ok.high q hqm
    have q2 := h.ok.len q hqm
    have hok : Frm.Ok 1 j.ep ((j.tx + 1 : Nat) : Int) (c : Int) q.no q.s.l.length := ⟨he, by omega, by omega, .inl ⟨rfl, by omega, by omega, q0, by omega, q2⟩⟩
    have hbad := frA_spoilt hw hw' hl' (n := j.n) (at_ := j.used + 5 * c) hok hl (by show j.used + 5 * c + 5 ≤ j.n; omega) (by rw [← Nat.add_assoc]; exact hh6) (q := k - j.used - 5 * c) (show k - j.used - 5 * c < 5 by omega) hb hb8 hx
      (by rw [show j.first + (j.used + 5 * c) + (k - j.used - 5 * c) = j.first + k by omega]; exact hch) (fun i h1 h2 => hs i h1 (by omega))
    refine ⟨⟨j.used + 5 * (0 + (T.take c).length), j.tx, j.used, j.F, (T.take c).foldl (fun _ q => q.no) (-1), plG j.used (j.tx + 1) 0 (T.take c) noG, 0 + (T.take c).length⟩, ?_, rfl, rfl, rfl⟩
    have hsub : ∀ y ∈ T.take c, y ∈ T := fun y hy => List.mem_of_mem_take hy
    have := scan_pages (v := v') hw' he (by rw [hl']; exact hl) (n := j.n) (u := j.used) (tx := j.tx) (us := j.used) (F := j.F) htx (T.take c) 0 (-1) noG ⟨j.used + 5 * (0 + (T.take c).length), j.tx, j.used, j.F, (T.take c).foldl (fun _ q => q.no) (-1), plG j.used (j.tx + 1) 0 (T.take c) noG, 0 + (T.take c).length⟩
      ⟨fun y hy => h.ok.low y (hsub y hy), fun y hy => h.ok.high y (hsub y hy), fun y hy => h.ok.len y (hsub y hy), h.ok.inc.sublist (List.take_sublist _ _)⟩ (fun y hy => by have := h.ok.low y (hsub y hy); omega) (by omega) (by omega) ?_ ?_
    · exact this
    · refine (show Has_ v (j.first + (j.used + 5 * 0)) _ from by rw [Nat.mul_zero, Nat.add_zero]; exact hh4).keep fun i i1 i2 => ?_
      rw [trF_len, hcl] at i2
      exact hs i (by omega) (by omega)
    · refine .stop _ fun hh => ?_
      have := hh.1.1
      rw [hcl, Nat.zero_add] at this
      exact hbad this
  · have hke : k = j.used + 5 * T.length := by omega
    have hok : Frm.Ok 2 j.ep ((j.tx + 1 : Nat) : Int) 0 (T.length : Int) ([] : List UInt8).length := ⟨he, by omega, by omega, .inr ⟨rfl, rfl, by have := List.length_pos_iff.2 h.ne; omega, by omega, rfl⟩⟩
    have hbad := frA_spoilt hw hw' hl' (n := j.n) (at_ := j.used + 5 * T.length) hok hl (by show j.used + 5 * T.length + 1 ≤ j.n; omega) (by rw [← Nat.add_assoc]; exact hh2) (q := 0) (show 0 < 1 by decide) hb hb8 hx
      (by rw [Nat.add_zero, ← hke]; exact hch) (fun i h1 h2 => hs i h1 (by omega))
    refine ⟨⟨j.used + 5 * (0 + T.length), j.tx, j.used, j.F, T.foldl (fun _ q => q.no) (-1), plG j.used (j.tx + 1) 0 T noG, 0 + T.length⟩, ?_, rfl, rfl, rfl⟩
    have := scan_pages (v := v') hw' he (by rw [hl']; exact hl) (n := j.n) (u := j.used) (tx := j.tx) (us := j.used) (F := j.F) htx T 0 (-1) noG ⟨j.used + 5 * (0 + T.length), j.tx, j.used, j.F, T.foldl (fun _ q => q.no) (-1), plG j.used (j.tx + 1) 0 T noG, 0 + T.length⟩ h.ok (fun y hy => by have := h.ok.low y hy; omega) (by omega) (by omega) ?_ ?_
    · exact this
    · refine (show Has_ v (j.first + (j.used + 5 * 0)) _ from by rw [Nat.mul_zero, Nat.add_zero]; exact hh1).keep fun i i1 i2 => ?_
      rw [trF_len] at i2
      exact hs i (by omega) (by omega)
    · refine .stop _ fun hh => ?_
      have := hh.1.1
      rw [Nat.zero_add] at this
      exact hbad this
theorem spoil_scan {v v' : DV} {j0 : JV} {Ts : List (List Pg)} (h : Jok v j0 Ts) (hw' : BkWf v'.d v'.F) (hl' : v'.d.length = v.d.length) {k b : Nat} {x : UInt8} (hk : k < (j0.adds Ts).used) (hb : b < 128) (hb8 : b ≠ 8) (hx : x ≠ 0)
    (hch : secV v' (j0.first + k) = Frm.chg (secV v (j0.first + k)) b x) (hs : ∀ i, i < v.d.length → i ≠ j0.first + k → secV v' i = secV v i) :
    ∃ Rs T Us, Ts = Rs ++ T :: Us ∧ (j0.adds Rs).used ≤ k ∧ k < ((j0.adds Rs).add T).used ∧ ∃ t, Scan (frA v' j0.first j0.n j0.ep) SS.start t ∧ t.used = (j0.adds Rs).used ∧ t.tx = (j0.adds Rs).tx ∧ t.F = (j0.adds Rs).F := by
  have h0 : SS.of j0 = SS.start := by rw [h.new]; rfl
  have u0 : j0.used = 0 := by rw [h.new]; rfl
  have t0 : j0.tx = 0 := by rw [h.new]; rfl
  have hrow := h.row
  have hnl := h.n_le
  obtain ⟨Rs, T, Us, hT, h1, h2⟩ := split_used (j := j0) (by omega) hk
  refine ⟨Rs, T, Us, hT, h1, h2, ?_⟩
  obtain ⟨s1, s2, s3, s4, s5⟩ := adds_same Rs j0
  have hlaid := h.laid
  rw [hT] at hlaid
  obtain ⟨l1, l2⟩ := laid_app hlaid
  have hfit := l2.fit
  rw [s2] at hfit
  have htxu : ∀ (Rs : List (List Pg)) (j : JV), j.tx ≤ j.used → (j.adds Rs).tx ≤ (j.adds Rs).used := fun Rs => by
    induction Rs with
    | nil => exact fun j h => h
    | cons R Rs ih => exact fun j h => ih (j.add R) (by show j.tx + 1 ≤ j.used + 5 * R.length + 1; omega)
  have htu := htxu Rs j0 (by omega)
  obtain ⟨t, t1, t2, t3, t4⟩ := tx_spoilt h.wf hw' hl' (j := j0.adds Rs) (by rw [s3]; exact h.ep) (by rw [s1, s2]; exact hrow) (by rw [s2]; exact hnl) (by omega) l2 h1 h2 hb hb8 hx (by rw [s1]; exact hch) (by rw [s1]; exact hs)
  rw [s1, s2, s3] at t1
  refine ⟨t, ?_, t2, t3, t4⟩
  rw [← h0]
  refine scan_all hw' h.ep (by rw [hl']; exact hrow) hnl (by omega) (by omega) (l1.keep fun i i1 i2 => hs i (by omega) (by omega)) ?_
  exact t1
end Go.Proofs.YtbkdjfgkebkknaaGreatDoor
