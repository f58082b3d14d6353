import Derived.Test.YtbkdjfgkebkknaaGreatDoorRowJournalCrashesMg25
import Derived.Test.YtbkdjfgkebkknaaGreatDoorRowJournalCrashesMg20
import Derived.Test.YtbkdjfgkebkknaaGreatDoorRowJournalCrashesMg7
namespace Go.Proofs.YtbkdjfgkebkknaaGreatDoor
set_option linter.unusedVariables false
set_option linter.unusedSimpArgs false
open Go Go.RowKit
set_option maxRecDepth 100000
def plGood (p : Option (Nat × List Int)) : Prop := ∀ c K, p = some (c, K) → 1 ≤ c ∧ keepOk K
theorem plGood.none : plGood none := fun _ _ h => by cases h
theorem op_any {v : DV} (fin : DV → DV) (h : plGood v.pl) : (∃ p, plGood p ∧ v.op fin = (fin { v with ops := v.ops + 1, pl := p }, 0)) ∨ ∃ K, keepOk K ∧ v.op fin = (({ v with ops := v.ops + 1 } : DV).crash K, 11) := by
  rw [DV.op]
  cases e : v.pl with
  | none => exact .inl ⟨v.pl, h, by simp only [e]⟩
  | some q =>
    obtain ⟨c, K⟩ := q
    have h1 := h c K e
    by_cases hc : c = 1
    · exact .inr ⟨K, h1.2, by simp only [if_pos hc]⟩
    · exact .inl ⟨some (c - 1, K), fun c' K' h' => by cases h'; exact ⟨by omega, h1.2⟩, by simp only [if_neg hc]⟩
def setFs (F : Nat → Option (List UInt8)) (a : Nat) : List (List UInt8) → (Nat → Option (List UInt8))
  | [] => F
  | x :: X => setFs (setF F a (some x)) (a + 1) X
theorem setFs_out : ∀ (X : List (List UInt8)) (F : Nat → Option (List UInt8)) (a k : Nat), (k < a ∨ a + X.length ≤ k) → setFs F a X k = F k
  | [], _, _, _, _ => rfl
  | x :: X, F, a, k, h => by
    rw [List.length_cons] at h
    rw [setFs, setFs_out X _ _ _ (by omega), setF, if_neg (by omega)]
theorem setFs_in : ∀ (X : List (List UInt8)) (F : Nat → Option (List UInt8)) (a k : Nat), k < X.length → setFs F a X (a + k) = some (X.getD k [])
  | x :: X, F, a, 0, h => by
    rw [setFs, setFs_out X _ _ _ (by omega), Nat.add_zero, setF, if_pos rfl]; rfl
  | x :: X, F, a, k + 1, h => by
    rw [List.length_cons] at h
    rw [setFs, show a + (k + 1) = a + 1 + k by omega, setFs_in X _ _ _ (by omega)]
    simp [List.getD]
theorem setFs_wf {d : List (List UInt8)} : ∀ (X : List (List UInt8)) {F : Nat → Option (List UInt8)} (a : Nat), BkWf d F → (∀ x ∈ X, x.length = 128) → BkWf d (setFs F a X)
  | [], _, _, h, _ => h
  | x :: X, F, a, h, hx => setFs_wf X (a + 1) (h.setF a (hx x (.head _))) fun y hy => hx y (.tail _ hy)
theorem wseq_any : ∀ (X : List (List UInt8)) {v : DV} (a : Nat), v.down = false → plGood v.pl → (∀ x ∈ X, x.length = 128) → a + X.length ≤ v.d.length →
    (∃ p, plGood p ∧ wseq v a X = ({ v with F := setFs v.F a X, ops := v.ops + X.length, pl := p }, 0)) ∨
    ∃ i K, 1 ≤ i ∧ i ≤ X.length ∧ keepOk K ∧ wseq v a X = (({ v with F := setFs v.F a (X.take i), ops := v.ops + i } : DV).crash K, 11)
  | [], v, a, _, hp, _, _ => .inl ⟨v.pl, hp, rfl⟩
  | x :: X, v, a, hd, hp, hx, hl => by
    rw [List.length_cons] at hl
    have hx0 := hx x (.head _)
    have hw : v.write (a : Int) x = ({ v with F := setF v.F a (some x) } : DV).op id := by rw [write_ok hd (writeE_ok (by omega) hx0), jwrite_in (by omega) hx0]
    rcases op_any (v := { v with F := setF v.F a (some x) }) id hp with ⟨p, hp1, e⟩ | ⟨K, hK, e⟩
    · rw [← hw] at e
      rcases wseq_any X (v := { v with F := setF v.F a (some x), ops := v.ops + 1, pl := p }) (a + 1) hd hp1 (fun y hy => hx y (.tail _ hy)) (by show _ ≤ v.d.length; omega) with ⟨p2, hp2, e2⟩ | ⟨i, K, h1, h2, h3, e2⟩
      · refine .inl ⟨p2, hp2, ?_⟩
        rw [wseq, e, if_pos rfl]
        show wseq _ _ _ = _
        simp only [id] at e2 ⊢
        rw [e2, List.length_cons, show v.ops + 1 + X.length = v.ops + (X.length + 1) by omega]
        rfl
      · refine .inr ⟨i + 1, K, by omega, by rw [List.length_cons]; omega, h3, ?_⟩
        rw [wseq, e, if_pos rfl]
        simp only [id] at e2 ⊢
        rw [e2, List.take_succ_cons, show v.ops + 1 + i = v.ops + (i + 1) by omega]
        rfl
    · rw [← hw] at e
      refine .inr ⟨1, K, Nat.le_refl _, by rw [List.length_cons]; omega, hK, ?_⟩
      rw [wseq, e, if_neg (by simp)]
      rfl
theorem done_law {v : DV} (hw : BkWf v.d v.F) : BkWf v.done.d v.done.F ∧ v.done.d.length = v.d.length ∧ ∀ k, k < v.d.length → v.done.F k = none ∧ secV v.done k = secV v k := by
  have hc := crash_wf [128] hw
  refine ⟨hc.1, hc.2, fun k hk => ?_⟩
  obtain ⟨c1, c2, c3⟩ := (crashK keepOne v.d v.F).2 k hk
  have hka : keepAt [128] (dpre v.F k).length = 128 := by simp [keepAt, Nat.mod_one]
  have hd2 : (crashR [128] v.d v.F).1.1.getD k [] = secV v k := by
    cases e9 : v.F k with
    | none => rw [c2 e9, secV, e9]; rfl
    | some u =>
      have hu := hw.val k u e9
      have hd := hw.len _ (blk_mem hk)
      rw [c3 u e9, hka, secV, e9, List.take_of_length_le (by omega), List.drop_eq_nil_of_le (by omega), List.append_nil]
      rfl
  refine ⟨c1, ?_⟩
  show ((crashR [128] v.d v.F).1.2 k).getD ((crashR [128] v.d v.F).1.1.getD k []) = _
  rw [c1, hd2]; rfl
theorem crash_law {v : DV} {K : List Int} (hK : keepOk K) (hw : BkWf v.d v.F) : BkWf (v.crash K).d (v.crash K).F ∧ (v.crash K).d.length = v.d.length ∧ ∀ k, k < v.d.length → (v.crash K).F k = none ∧ (v.F k = none → secV (v.crash K) k = v.d.getD k []) ∧ ∀ u, v.F k = some u → ∃ m, m ≤ 128 ∧ secV (v.crash K) k = Frm.tear (v.d.getD k []) u m := by
  have hc := crash_wf K hw
  refine ⟨hc.1, hc.2, fun k hk => ?_⟩
  obtain ⟨c1, c2, c3⟩ := (crashK hK v.d v.F).2 k hk
  have e : secV (v.crash K) k = (crashR K v.d v.F).1.1.getD k [] := by
    show ((crashR K v.d v.F).1.2 k).getD ((crashR K v.d v.F).1.1.getD k []) = _
    rw [c1]; rfl
  exact ⟨c1, fun h => by rw [e]; exact c2 h, fun u hu => ⟨_, (keepAt_le hK _).1, by rw [e]; exact c3 u hu⟩⟩
theorem japp_any {v : DV} {j : JV} {T : List Pg} (hd : v.down = false) (hp : plGood v.pl) (hw : BkWf v.d v.F) (he : Frm.Ep j.ep) (hl : j.first + j.n ≤ v.d.length) (htx : j.tx < 4294967295) (hc : pchk T = 0) (hf : j.used + 5 * T.length + 1 ≤ j.n) (hF : ∀ k, k < v.d.length → v.F k = none) :
    ∃ v', v'.d.length = v.d.length ∧ BkWf v'.d v'.F ∧ plGood v'.pl ∧ (∀ k, k < v.d.length → v'.F k = none) ∧ v'.rd = v.rd ∧ v'.ops ≤ v.ops + (5 * T.length + 2) ∧
      (∀ k, k < v.d.length → (k < j.first + j.used ∨ j.first + (j.used + 5 * T.length + 1) ≤ k) → secV v' k = secV v k) ∧
      ((japp v j T = (v', j.add T, 0) ∧ v'.down = false ∧ Has_ v' (j.first + j.used) (trP j.ep (j.tx + 1) T)) ∨
       (japp v j T = (v', j, 11) ∧ v'.down = true ∧ v'.pl = none ∧ ∀ k, k < 5 * T.length + 1 → ∃ m, m ≤ 128 ∧ secV v' (j.first + j.used + k) = Frm.tear (secV v (j.first + j.used + k)) ((trP j.ep (j.tx + 1) T).getD k []) m)) := by
  obtain ⟨h0, hpg⟩ := pchk_ok hc
  have hpos : 0 < T.length := List.length_pos_iff.2 h0
  have hle := hw.le
  have htl := trP_len j.ep (j.tx + 1) T
  have hst := trP_stamp (tx := j.tx + 1) he (by omega) (by omega) h0 hpg (by omega)
  have hx : ∀ x ∈ trP j.ep (j.tx + 1) T, x.length = 128 := fun x hx => by obtain ⟨d, hd, rfl⟩ := hst x hx; exact Frm.stamp_length hd
  have hsec : ∀ k, k < v.d.length → secV v k = v.d.getD k [] := fun k hk => by rw [secV, hF k hk]; rfl
  have ejapp : japp v j T = let r := wseq v (j.first + j.used) (trP j.ep (j.tx + 1) T)
    if r.2 ≠ 0 then (r.1, j, r.2) else if r.1.sync.2 ≠ 0 then (r.1.sync.1, j, r.1.sync.2) else (r.1.sync.1, j.add T, 0) := by
    rw [japp, if_neg (not_not_intro hc), if_neg (not_not_intro ((fitN_iff hpos).2 hf))]; rfl
  -- what a crash leaves
  have crash : ∀ (X : List (List UInt8)) (o : Nat) (p : Option (Nat × List Int)) (K : List Int), keepOk K → (∃ Y, trP j.ep (j.tx + 1) T = X ++ Y) → o ≤ v.ops + (5 * T.length + 2) →
      ∃ v', v' = ({ v with F := setFs v.F (j.first + j.used) X, ops := o, pl := p } : DV).crash K ∧ v'.d.length = v.d.length ∧ BkWf v'.d v'.F ∧ plGood v'.pl ∧ (∀ k, k < v.d.length → v'.F k = none) ∧ v'.rd = v.rd ∧ v'.ops ≤ v.ops + (5 * T.length + 2) ∧
      (∀ k, k < v.d.length → (k < j.first + j.used ∨ j.first + (j.used + 5 * T.length + 1) ≤ k) → secV v' k = secV v k) ∧
      v'.down = true ∧ v'.pl = none ∧ ∀ k, k < 5 * T.length + 1 → ∃ m, m ≤ 128 ∧ secV v' (j.first + j.used + k) = Frm.tear (secV v (j.first + j.used + k)) ((trP j.ep (j.tx + 1) T).getD k []) m := fun X o p K hK ⟨Y, hY⟩ ho => by
    have hXl : X.length ≤ 5 * T.length + 1 := by rw [← htl, hY, List.length_append]; omega
    have hw2 := setFs_wf X (j.first + j.used) hw (fun x hxx => hx x (by rw [hY]; exact List.mem_append_left _ hxx))
    obtain ⟨c1, c2, c3⟩ := crash_law (v := { v with F := setFs v.F (j.first + j.used) X, ops := o, pl := p }) hK hw2
    refine ⟨_, rfl, c2, c1, plGood.none, fun k hk => (c3 k hk).1, rfl, ho, fun k hk hk2 => ?_, rfl, rfl, fun k hk => ?_⟩
    · have := (c3 k hk).2.1 (by show setFs _ _ _ _ = _; rw [setFs_out _ _ _ _ (by omega)]; exact hF k hk)
      rw [this, hsec k hk]
    · have hkl : j.first + j.used + k < v.d.length := by omega
      rw [hsec _ hkl]
      by_cases hkX : k < X.length
      · obtain ⟨m, m1, m2⟩ := (c3 _ hkl).2.2 (X.getD k []) (setFs_in X v.F (j.first + j.used) k hkX)
        refine ⟨m, m1, ?_⟩
        rw [m2, hY, getD_l hkX]
      · refine ⟨0, by omega, ?_⟩
        have := (c3 _ hkl).2.1 (by show setFs _ _ _ _ = _; rw [setFs_out _ _ _ _ (by omega)]; exact hF _ hkl)
        rw [this]
        simp [Frm.tear]
  rcases wseq_any (trP j.ep (j.tx + 1) T) (v := v) (j.first + j.used) hd hp hx (by rw [htl]; omega) with ⟨p, hp1, e⟩ | ⟨i, K, h1, h2, h3, e⟩
  · have es : ({ v with F := setFs v.F (j.first + j.used) (trP j.ep (j.tx + 1) T), ops := v.ops + (trP j.ep (j.tx + 1) T).length, pl := p } : DV).sync = ({ v with F := setFs v.F (j.first + j.used) (trP j.ep (j.tx + 1) T), ops := v.ops + (trP j.ep (j.tx + 1) T).length, pl := p } : DV).op DV.done := by
      rw [DV.sync, if_neg (by show ¬ v.down = true; rw [hd]; decide)]
    have hw2 := setFs_wf (trP j.ep (j.tx + 1) T) (j.first + j.used) hw hx
    rcases op_any (v := { v with F := setFs v.F (j.first + j.used) (trP j.ep (j.tx + 1) T), ops := v.ops + (trP j.ep (j.tx + 1) T).length, pl := p }) DV.done hp1 with ⟨p2, hp2, e2⟩ | ⟨K, hK, e2⟩
    · rw [← es] at e2
      obtain ⟨d1, d2, d3⟩ := done_law (v := { v with F := setFs v.F (j.first + j.used) (trP j.ep (j.tx + 1) T), ops := v.ops + (trP j.ep (j.tx + 1) T).length + 1, pl := p2 }) hw2
      refine ⟨_, d2, d1, hp2, fun k hk => (d3 k hk).1, rfl, by show v.ops + (trP j.ep (j.tx + 1) T).length + 1 ≤ _; rw [htl]; omega, fun k hk hk2 => ?_, .inl ⟨?_, hd, fun k hk => ?_⟩⟩
      · rw [(d3 k hk).2]
        show (setFs _ _ _ k).getD _ = _
        rw [setFs_out _ _ _ _ (by rw [htl]; omega)]
        rfl
      · rw [ejapp]
        simp only [e, e2]
        rw [if_neg (by simp), if_neg (by simp)]
      · rw [(d3 _ (by rw [htl] at hk; show _ < v.d.length; omega)).2]
        show (setFs _ _ _ _).getD _ = _
        rw [setFs_in _ _ _ _ hk]
        rfl
    · rw [← es] at e2
      obtain ⟨v', hv', c⟩ := crash (trP j.ep (j.tx + 1) T) (v.ops + (trP j.ep (j.tx + 1) T).length + 1) p K hK ⟨[], by rw [List.append_nil]⟩ (by rw [htl]; omega)
      obtain ⟨c1, c2, c3, c4, c5, c6, c7, c8⟩ := c
      refine ⟨v', c1, c2, c3, c4, c5, c6, c7, .inr ⟨?_, c8⟩⟩
      rw [ejapp]
      simp only [e, e2]
      rw [if_neg (by simp), if_pos (by simp), hv']
  · obtain ⟨v', hv', c⟩ := crash ((trP j.ep (j.tx + 1) T).take i) (v.ops + i) v.pl K h3 ⟨_, (List.take_append_drop i _).symm⟩ (by rw [htl] at h2; omega)
    obtain ⟨c1, c2, c3, c4, c5, c6, c7, c8⟩ := c
    refine ⟨v', c1, c2, c3, c4, c5, c6, c7, .inr ⟨?_, c8⟩⟩
    rw [ejapp]
    simp only [e]
    rw [if_pos (by simp), hv']
def EndB (v : DV) (lo hi e : Nat) : Prop := ∀ k, lo ≤ k → k < hi → ∃ b, b ≤ e ∧ (secV v k).drop 120 = Big.be 8 b
theorem EndB.clean {v : DV} {first n a e : Nat} {m : Int} (hm : Frm.Ep m) (he : e < m.toNat) (he9 : e ≤ 9) (h : EndB v (first + a) (first + n) e) : Clean v first n m a := fun k k1 k2 => by
  obtain ⟨b, b1, b2⟩ := h (first + k) (by omega) (by omega)
  rw [Frm.unst_err, if_neg (not_not_intro hm), if_pos]
  · decide
  · refine .inr (.inr ?_)
    rw [b2, List.take_of_length_le (by rw [Big.be_length]; omega)]
    intro hh
    have h1 := Big.val_be 8 m.toNat (Frm.ep_lt hm)
    rw [← hh, Big.val_be 8 b (by omega)] at h1
    omega
theorem mixB : ∀ b, b ≤ 9 → ∀ e, e ≤ 9 → ∀ q, q ≤ 7 → (Big.be 8 e).take q ++ (Big.be 8 b).drop q = Big.be 8 b := by decide +kernel
theorem tear_end {old now : List UInt8} {b e m : Nat} (ho : old.length = 128) (hn : now.length = 128) (hm : m ≤ 128) (h1 : old.drop 120 = Big.be 8 b) (h2 : now.drop 120 = Big.be 8 e) (hb : b ≤ 9) (he : e ≤ 9) : (Frm.tear old now m).drop 120 = Big.be 8 b ∨ (Frm.tear old now m).drop 120 = Big.be 8 e := by
  unfold Frm.tear
  by_cases h : m = 128
  · right
    rw [List.take_of_length_le (show now.length ≤ m by omega), List.drop_append_of_le_length (by omega), List.drop_eq_nil_of_le (show old.length ≤ m by omega), List.append_nil, h2]
  · left
    by_cases h120 : m ≤ 120
    · rw [List.drop_append, List.drop_eq_nil_of_le (by rw [List.length_take]; omega), List.nil_append, List.length_take, List.drop_drop, ← h1]
      congr 1; omega
    · obtain ⟨q, rfl⟩ : ∃ q, m = 120 + q := ⟨m - 120, by omega⟩
      rw [List.drop_append_of_le_length (by rw [List.length_take]; omega), List.drop_take, h2, Nat.add_sub_cancel_left, ← List.drop_drop, h1]
      exact mixB b hb e he q (by omega)
structure Lok (v : DV) (j0 : JV) (Ts : List (List Pg)) : Prop where
  up : v.down = false
  wf : BkWf v.d v.F
  row : j0.first + j0.n ≤ v.d.length
  n1 : 1 ≤ j0.n
  ep : Frm.Ep j0.ep
  new : j0 = JV.new j0.first j0.n j0.ep
  laid : LaidT v j0 Ts
  fit : (j0.adds Ts).used ≤ j0.n
  tx : (j0.adds Ts).tx ≤ (j0.adds Ts).used
section
variable {v : DV} {j0 : JV} {Ts : List (List Pg)}
theorem Lok.n_le (h : Lok v j0 Ts) : j0.n ≤ 4096 := by have := h.wf.le; have := h.row; omega
theorem Lok.rd (h : Lok v j0 Ts) (r : Nat) : Lok { v with rd := r } j0 Ts := ⟨h.up, h.wf, h.row, h.n1, h.ep, h.new, h.laid.keep fun _ _ _ => rfl, h.fit, h.tx⟩
theorem Lok.fc (h : Lok v j0 Ts) : FC v (j0.adds Ts) (j0.adds Ts).F (noC.adds Ts) := by
  have u0 : j0.used = 0 := by rw [h.new]; rfl
  have t0 : j0.tx = 0 := by rw [h.new]; rfl
  refine FC.all h.wf h.ep h.row h.n_le (by omega) (by omega) h.laid ?_
  have : j0.F = noG := by rw [h.new]; rfl
  rw [this]; exact FC.zero _ _
theorem Lok.rowa (h : Lok v j0 Ts) : (j0.adds Ts).first + (j0.adds Ts).n ≤ v.d.length := by
  obtain ⟨s1, s2, _⟩ := adds_same Ts j0
  rw [s1, s2]; exact h.row
def Found (v : DV) (j0 : JV) (Ts : List (List Pg)) : Prop := ∃ t, Scan (frA v j0.first j0.n j0.ep) SS.start t ∧ t.used = (j0.adds Ts).used ∧ t.tx = (j0.adds Ts).tx ∧ t.F = (j0.adds Ts).F
theorem Lok.found (h : Lok v j0 Ts) {t : SS} (hs : Scan (frA v j0.first j0.n j0.ep) (SS.of (j0.adds Ts)) t) (h1 : t.used = (j0.adds Ts).used) (h2 : t.tx = (j0.adds Ts).tx) (h3 : t.F = (j0.adds Ts).F) : Found v j0 Ts := by
  have h0 : SS.of j0 = SS.start := by rw [h.new]; rfl
  have u0 : j0.used = 0 := by rw [h.new]; rfl
  have t0 : j0.tx = 0 := by rw [h.new]; rfl
  refine ⟨t, ?_, h1, h2, h3⟩
  rw [← h0]
  exact scan_all h.wf h.ep h.row h.n_le (by omega) (by omega) h.laid hs
theorem Lok.found_clean (h : Lok v j0 Ts) (hc : Clean v j0.first j0.n j0.ep (j0.adds Ts).used) : Found v j0 Ts := by
  obtain ⟨s1, s2, s3, _, _⟩ := adds_same Ts j0
  have := scan_end h.wf (j := j0.adds Ts) (by rw [s1, s2]; exact h.row) (by rw [s1, s2, s3]; exact hc)
  rw [s1, s2, s3] at this
  exact h.found this rfl rfl rfl
end
theorem frA_torn {v : DV} (hw : BkWf v.d v.F) {first n at_ : Nat} {ep : Int} {tx : Nat} {kd ix no : Int} {dt : List UInt8} (h : Frm.Ok kd ep (tx : Int) ix no dt.length) (hl : first + n ≤ v.d.length) (hf : at_ + (Frm.secs kd).1 ≤ n) {q : Nat} (hq : q < (Frm.secs kd).1)
    (hpre : ∀ i, i < q → secV v (first + at_ + i) = (frameP ep tx kd ix no dt).getD i []) (hbad : ∀ r, Frm.unst (secV v (first + at_ + q) ++ r) ep = (13, [])) : (frA v first n ep at_).err ≠ 0 := by
  have h5 := secs_le kd
  obtain ⟨m, hm⟩ : ∃ m, min (at_ + 5) n - at_ = q + (1 + m) := ⟨min (at_ + 5) n - at_ - q - 1, by omega⟩
  have hfl := frameP_len ep tx kd ix no dt
  have hh : Has_ v (first + at_) ((frameP ep tx kd ix no dt).take q) := fun i hi => by
    rw [List.length_take] at hi
    rw [hpre i (by omega), List.getD_eq_getElem?_getD, List.getD_eq_getElem?_getD, List.getElem?_take, if_pos (by omega)]
  have hql : ((frameP ep tx kd ix no dt).take q).length = q := by rw [List.length_take]; omega
  have h1 := rowB_has hw hh (by rw [hql]; omega)
  rw [hql] at h1
  have e1 : ((frameP ep tx kd ix no dt).take q).flatten = (Frm.enc kd ep (tx : Int) ix no dt).2.take (128 * q) := by
    have e2 : (frameP ep tx kd ix no dt).take q = pieces (Frm.enc kd ep (tx : Int) ix no dt).2 q := by
      rw [frameP, pieces, pieces, pcl, pcl, ← List.map_take, List.take_range, Nat.min_eq_left (by omega)]
    rw [e2, pieces_flatten]
  rw [frA, hm, rowB_add, rowB_add, h1, e1, rowB_one hw (by omega)]
  rw [Frm.dec_torn_at h hq (hbad _)]
  decide
theorem tx_torn {v : DV} (hw : BkWf v.d v.F) {j : JV} (he : Frm.Ep j.ep) (hl : j.first + j.n ≤ v.d.length) (hn : j.n ≤ 4096) (htx : j.tx < 4294967295) {T : List Pg} (hok : PgOk T) (hne : T ≠ []) (hf : j.used + 5 * T.length + 1 ≤ j.n) {k : Nat} (hk : k < 5 * T.length + 1)
    (hpre : ∀ i, i < k → secV v (j.first + j.used + i) = (trP j.ep (j.tx + 1) T).getD i []) (hbad : ∀ r, Frm.unst (secV v (j.first + j.used + k) ++ r) j.ep = (13, [])) :
    ∃ t, Scan (frA v j.first j.n j.ep) (SS.of j) t ∧ t.used = j.used ∧ t.tx = j.tx ∧ t.F = j.F := by
  have hpos : 0 < T.length := List.length_pos_iff.2 hne
  have htF : ∀ i, i < 5 * T.length → (trP j.ep (j.tx + 1) T).getD i [] = (trF j.ep (j.tx + 1) 0 T).getD i [] := fun i hi => by
    rw [trP, getD_l (by rw [trF_len]; omega)]
  by_cases hp : k < 5 * T.length
  · obtain ⟨c, hc⟩ : ∃ c, c = k / 5 := ⟨_, rfl⟩
    have hcT : c < T.length := by omega
    obtain ⟨q, hq⟩ : ∃ q, T[c]? = some q := ⟨T[c]'hcT, List.getElem?_eq_getElem hcT⟩
    have hT : T = T.take c ++ q :: T.drop (c + 1) := by rw [← getElem?_drop_cons hq, List.take_append_drop]
    have hcl : (T.take c).length = c := by rw [List.length_take]; omega
    have hsplit : trF j.ep (j.tx + 1) 0 T = trF j.ep (j.tx + 1) 0 (T.take c) ++ (frameP j.ep (j.tx + 1) 1 (c : Int) q.no q.s.l ++ trF j.ep (j.tx + 1) (c + 1) (T.drop (c + 1))) := by
      conv => lhs; rw [hT]
      rw [trF_app, hcl, Nat.zero_add, trF]
    have hfr : ∀ i, i < 5 → 5 * c + i < 5 * T.length → (trF j.ep (j.tx + 1) 0 T).getD (5 * c + i) [] = (frameP j.ep (j.tx + 1) 1 (c : Int) q.no q.s.l).getD i [] := fun i h1 h2 => by
      rw [hsplit, getD_r (by rw [trF_len, hcl]; omega), trF_len, hcl, Nat.add_sub_cancel_left, getD_l (by rw [frameP_len]; exact h1)]
    have hqm := List.mem_of_getElem? hq
    have q0 := hok.low q hqm
    have q1 := hok.high q hqm
    have q2 := hok.len q hqm
    have hko : Frm.Ok 1 j.ep ((j.tx + 1 : Nat) : Int) (c : Int) q.no q.s.l.length := ⟨he, by omega, by omega, .inl ⟨rfl, by omega, by omega, q0, by omega, q2⟩⟩
    have hbad2 := frA_torn hw hko hl (n := j.n) (at_ := j.used + 5 * c) (by show j.used + 5 * c + 5 ≤ j.n; omega) (q := k - 5 * c) (show k - 5 * c < 5 by omega)
      (fun i hi => by rw [← hfr i (by omega) (by omega), ← htF _ (by omega), ← hpre _ (by omega), show j.first + (j.used + 5 * c) + i = j.first + j.used + (5 * c + i) by omega])
      (by rw [show j.first + (j.used + 5 * c) + (k - 5 * c) = j.first + j.used + k by omega]; exact hbad)
    refine ⟨⟨j.used + 5 * (0 + (T.take c).length), j.tx, j.used, j.F, (T.take c).foldl (fun _ q => q.no) (-1), plG j.used (j.tx + 1) 0 (T.take c) noG, 0 + (T.take c).length⟩, ?_, rfl, rfl, rfl⟩
    have hsub : ∀ y ∈ T.take c, y ∈ T := fun y hy => List.mem_of_mem_take hy
    have := scan_pages (v := v) hw he hl (n := j.n) (u := j.used) (tx := j.tx) (us := j.used) (F := j.F) htx (T.take c) 0 (-1) noG ⟨j.used + 5 * (0 + (T.take c).length), j.tx, j.used, j.F, (T.take c).foldl (fun _ q => q.no) (-1), plG j.used (j.tx + 1) 0 (T.take c) noG, 0 + (T.take c).length⟩
      ⟨fun y hy => hok.low y (hsub y hy), fun y hy => hok.high y (hsub y hy), fun y hy => hok.len y (hsub y hy), hok.inc.sublist (List.take_sublist _ _)⟩ (fun y hy => by have := hok.low y (hsub y hy); omega) (by omega) (by omega) ?_ ?_
    · exact this
    · intro i hi
      rw [trF_len, hcl] at hi
      rw [show j.first + (j.used + 5 * 0) + i = j.first + j.used + i by omega, hpre i (by omega), htF i (by omega), hsplit, getD_l (by rw [trF_len, hcl]; omega)]
    · refine .stop _ fun hh => ?_
      have := hh.1.1
      rw [hcl, Nat.zero_add] at this
      exact hbad2 this
  · have hke : k = 5 * T.length := by omega
    have hko : Frm.Ok 2 j.ep ((j.tx + 1 : Nat) : Int) 0 (T.length : Int) ([] : List UInt8).length := ⟨he, by omega, by omega, .inr ⟨rfl, rfl, by omega, by omega, rfl⟩⟩
    have hbad2 := frA_torn hw hko hl (n := j.n) (at_ := j.used + 5 * T.length) (by show j.used + 5 * T.length + 1 ≤ j.n; omega) (q := 0) (show 0 < 1 by decide) (fun i hi => absurd hi (Nat.not_lt_zero _))
      (by rw [Nat.add_zero, ← Nat.add_assoc, ← hke]; exact hbad)
    refine ⟨⟨j.used + 5 * (0 + T.length), j.tx, j.used, j.F, T.foldl (fun _ q => q.no) (-1), plG j.used (j.tx + 1) 0 T noG, 0 + T.length⟩, ?_, rfl, rfl, rfl⟩
    have := scan_pages (v := v) hw he hl (n := j.n) (u := j.used) (tx := j.tx) (us := j.used) (F := j.F) htx T 0 (-1) noG ⟨j.used + 5 * (0 + T.length), j.tx, j.used, j.F, T.foldl (fun _ q => q.no) (-1), plG j.used (j.tx + 1) 0 T noG, 0 + T.length⟩ hok (fun y hy => by have := hok.low y hy; omega) (by omega) (by omega) ?_ ?_
    · exact this
    · intro i hi
      rw [trF_len] at hi
      rw [show j.first + (j.used + 5 * 0) + i = j.first + j.used + i by omega, hpre i (by omega), htF i (by omega)]
    · refine .stop _ fun hh => ?_
      have := hh.1.1
      rw [Nat.zero_add] at this
      exact hbad2 this
structure Cj (v : DV) (j0 : JV) (Ts : List (List Pg)) (e : Nat) : Prop where
  lok : Lok v j0 Ts
  pl : plGood v.pl
  no : ∀ k, k < v.d.length → v.F k = none
  e1 : 1 ≤ e
  e9 : e ≤ 9
  ep : j0.ep = (e : Int)
  all : EndB v j0.first (j0.first + j0.n) e
  rest : EndB v (j0.first + (j0.adds Ts).used) (j0.first + j0.n) (e - 1)
structure Fok (v : DV) (j0 : JV) (Ts : List (List Pg)) (e : Nat) : Prop where
  lok : Lok v j0 Ts
  pl : plGood v.pl
  no : ∀ k, k < v.d.length → v.F k = none
  all : EndB v j0.first (j0.first + j0.n) e
  found : Found v j0 Ts
theorem Cj.fok {v : DV} {j0 : JV} {Ts : List (List Pg)} {e : Nat} (h : Cj v j0 Ts e) : Fok v j0 Ts e :=
  ⟨h.lok, h.pl, h.no, h.all, h.lok.found_clean (h.rest.clean h.lok.ep (by rw [h.ep]; have := h.e1; show e - 1 < e; omega) (by have := h.e9; omega))⟩
theorem Cj.append {v : DV} {j0 : JV} {Ts : List (List Pg)} {e : Nat} (h : Cj v j0 Ts e) {T : List Pg} (hc : pchk T = 0) (hf : (j0.adds Ts).used + 5 * T.length + 1 ≤ j0.n) :
    ∃ v', v'.d.length = v.d.length ∧ v'.rd = v.rd ∧ v'.ops ≤ v.ops + (5 * T.length + 2) ∧
      ((japp v (j0.adds Ts) T = (v', j0.adds (Ts ++ [T]), 0) ∧ Cj v' j0 (Ts ++ [T]) e) ∨
       (japp v (j0.adds Ts) T = (v', j0.adds Ts, 11) ∧ v'.down = true ∧ ∃ Rs, (Rs = Ts ∨ Rs = Ts ++ [T]) ∧ Fok { v' with down := false } j0 Rs e)) := by
  obtain ⟨s1, s2, s3, s4, s5⟩ := adds_same Ts j0
  obtain ⟨h0, hp⟩ := pchk_ok hc
  have hn := h.lok.n_le
  have htx := h.lok.tx
  have hfit := h.lok.fit
  have hrow := h.lok.row
  have he1 := h.e1
  have he9 := h.e9
  have hEp := h.lok.ep
  have heN : j0.ep.toNat = e := by rw [h.ep]; rfl
  obtain ⟨v', a1, a2, a3, a4, a5, a6, a7, a8⟩ := japp_any (j := j0.adds Ts) h.lok.up h.pl h.lok.wf (by rw [s3]; exact hEp) (by rw [s1, s2]; exact hrow) (by omega) hc (by rw [s2]; exact hf) h.no
  rw [s1] at a7
  have hst := trP_stamp (tx := (j0.adds Ts).tx + 1) hEp (by omega) (by omega) h0 hp (by have := trP_len j0.ep ((j0.adds Ts).tx + 1) T; omega)
  have hstE : ∀ k, k < 5 * T.length + 1 → ∃ d : List UInt8, d.length ≤ 112 ∧ (trP j0.ep ((j0.adds Ts).tx + 1) T).getD k [] = Frm.stamp j0.ep d ∧ (Frm.stamp j0.ep d).drop 120 = Big.be 8 e := fun k hk => by
    obtain ⟨d, d1, d2⟩ := hst _ (getD_mem (d := []) (by rw [trP_len]; exact hk))
    refine ⟨d, d1, d2, ?_⟩
    obtain ⟨_, _, p3⟩ := Frm.stamp_parts j0.ep d [] d1
    rw [List.append_nil, List.take_of_length_le (by rw [List.length_drop, Frm.stamp_length d1]; omega)] at p3
    rw [p3, heN]
  have hlaid : LaidT v' j0 Ts := h.lok.laid.keep fun k k1 k2 => a7 k (by omega) (.inl k2)
  have hnof : ∀ k, k < v'.d.length → v'.F k = none := fun k hk => a4 k (by omega)
  have htxU : ∀ (R : List Pg), ((j0.adds Ts).add R).tx ≤ ((j0.adds Ts).add R).used := fun R => by
    show (j0.adds Ts).tx + 1 ≤ (j0.adds Ts).used + 5 * R.length + 1; omega
  have hrest : EndB v' (j0.first + ((j0.adds Ts).used + 5 * T.length + 1)) (j0.first + j0.n) (e - 1) := fun k k1 k2 => by
    rw [a7 k (by omega) (.inr k1)]
    exact h.rest k (by omega) k2
  refine ⟨v', a1, a5, a6, ?_⟩
  rcases a8 with ⟨b1, b2, b3⟩ | ⟨b1, b2, b4, b3⟩
  · refine .inl ⟨by rw [b1, adds_snoc], ?_⟩
    rw [s1, s3] at b3
    have hall : EndB v' j0.first (j0.first + j0.n) e := fun k k1 k2 => by
      by_cases ho : k < j0.first + (j0.adds Ts).used ∨ j0.first + ((j0.adds Ts).used + 5 * T.length + 1) ≤ k
      · rw [a7 k (by omega) ho]; exact h.all k k1 k2
      · obtain ⟨d, d1, d2, d3⟩ := hstE (k - (j0.first + (j0.adds Ts).used)) (by omega)
        refine ⟨e, Nat.le_refl _, ?_⟩
        have := b3 (k - (j0.first + (j0.adds Ts).used)) (by rw [trP_len]; omega)
        rw [show j0.first + (j0.adds Ts).used + (k - (j0.first + (j0.adds Ts).used)) = k by omega] at this
        rw [this, d2, d3]
    refine ⟨⟨b2, a2, by omega, h.lok.n1, hEp, h.lok.new, laid_snoc.2 ⟨hlaid, h0, hp, by rw [s2]; exact hf, by rw [s1, s3]; exact b3⟩, ?_, ?_⟩, a3, hnof, he1, he9, h.ep, hall, ?_⟩
    · rw [adds_snoc]; exact hf
    · rw [adds_snoc]; exact htxU T
    · rw [adds_snoc]; exact hrest
  · refine .inr ⟨b1, b2, ?_⟩
    rw [s1, s3] at b3
    -- every sector of the transaction
    have hold : ∀ k, k < 5 * T.length + 1 → (secV v (j0.first + (j0.adds Ts).used + k)).length = 128 := fun k hk => secV_len h.lok.wf (by omega)
    have hall : EndB v' j0.first (j0.first + j0.n) e := fun k k1 k2 => by
      by_cases ho : k < j0.first + (j0.adds Ts).used ∨ j0.first + ((j0.adds Ts).used + 5 * T.length + 1) ≤ k
      · rw [a7 k (by omega) ho]; exact h.all k k1 k2
      · obtain ⟨i, hi⟩ : ∃ i, i = k - (j0.first + (j0.adds Ts).used) := ⟨_, rfl⟩
        have hki : k = j0.first + (j0.adds Ts).used + i := by omega
        have hi2 : i < 5 * T.length + 1 := by omega
        obtain ⟨d, d1, d2, d3⟩ := hstE i hi2
        obtain ⟨m, m1, m2⟩ := b3 i hi2
        obtain ⟨b, c1, c2⟩ := h.all k k1 k2
        rw [hki] at c2 ⊢
        rw [m2, d2]
        rcases tear_end (hold i hi2) (Frm.stamp_length d1) m1 c2 d3 (by omega) (by omega) with h9 | h9
        · exact ⟨b, c1, h9⟩
        · exact ⟨e, Nat.le_refl _, h9⟩
    by_cases hfull : ∀ k, k < 5 * T.length + 1 → secV v' (j0.first + (j0.adds Ts).used + k) = (trP j0.ep ((j0.adds Ts).tx + 1) T).getD k []
    · refine ⟨Ts ++ [T], .inr rfl, ?_⟩
      have hh : Has_ v' (j0.first + (j0.adds Ts).used) (trP j0.ep ((j0.adds Ts).tx + 1) T) := fun k hk => hfull k (by rw [trP_len] at hk; exact hk)
      have hlk : Lok { v' with down := false } j0 (Ts ++ [T]) := ⟨rfl, a2, by show _ ≤ v'.d.length; omega, h.lok.n1, hEp, h.lok.new, laid_snoc.2 ⟨hlaid.keep fun _ _ _ => rfl, h0, hp, by rw [s2]; exact hf, by rw [s1, s3]; exact hh⟩, by rw [adds_snoc]; exact hf, by rw [adds_snoc]; exact htxU T⟩
      refine ⟨hlk, a3, hnof, hall, hlk.found_clean ?_⟩
      rw [adds_snoc]
      exact EndB.clean (v := { v' with down := false }) hEp (by rw [heN]; omega) (by omega) hrest
    · refine ⟨Ts, .inl rfl, ?_⟩
      have hlk : Lok { v' with down := false } j0 Ts := ⟨rfl, a2, by show _ ≤ v'.d.length; omega, h.lok.n1, hEp, h.lok.new, hlaid.keep fun _ _ _ => rfl, hfit, htx⟩
      -- the first sector that is not complete
      obtain ⟨k, hk, hkp, hkn⟩ : ∃ k, k < 5 * T.length + 1 ∧ (∀ i, i < k → secV v' (j0.first + (j0.adds Ts).used + i) = (trP j0.ep ((j0.adds Ts).tx + 1) T).getD i []) ∧ secV v' (j0.first + (j0.adds Ts).used + k) ≠ (trP j0.ep ((j0.adds Ts).tx + 1) T).getD k [] := by
        have key : ∀ m, m ≤ 5 * T.length + 1 → (∀ i, i < m → secV v' (j0.first + (j0.adds Ts).used + i) = (trP j0.ep ((j0.adds Ts).tx + 1) T).getD i []) ∨ ∃ k, k < m ∧ (∀ i, i < k → secV v' (j0.first + (j0.adds Ts).used + i) = (trP j0.ep ((j0.adds Ts).tx + 1) T).getD i []) ∧ secV v' (j0.first + (j0.adds Ts).used + k) ≠ (trP j0.ep ((j0.adds Ts).tx + 1) T).getD k [] := fun m => by
          induction m with
          | zero => exact fun _ => .inl fun i hi => absurd hi (Nat.not_lt_zero _)
          | succ m ih =>
            intro hm
            rcases ih (by omega) with h1 | ⟨k, h1, h2, h3⟩
            · by_cases h4 : secV v' (j0.first + (j0.adds Ts).used + m) = (trP j0.ep ((j0.adds Ts).tx + 1) T).getD m []
              · refine .inl fun i hi => ?_
                rcases Nat.lt_or_ge i m with h5 | h5
                · exact h1 i h5
                · obtain rfl : i = m := by omega
                  exact h4
              · exact .inr ⟨m, Nat.lt_succ_self _, h1, h4⟩
            · exact .inr ⟨k, by omega, h2, h3⟩
        rcases key _ (Nat.le_refl _) with h1 | ⟨k, h1, h2, h3⟩
        · exact absurd h1 hfull
        · exact ⟨k, h1, h2, h3⟩
      obtain ⟨d, d1, d2, d3⟩ := hstE k hk
      obtain ⟨m, m1, m2⟩ := b3 k hk
      obtain ⟨b, c1, c2⟩ := h.rest (j0.first + (j0.adds Ts).used + k) (by omega) (by omega)
      have hbad : ∀ r, Frm.unst (secV v' (j0.first + (j0.adds Ts).used + k) ++ r) j0.ep = (13, []) := fun r => by
        rw [m2, d2]
        refine Frm.tear_unst hEp (hold k hk) d1 m1 ?_ (by rw [← d2, ← m2]; exact hkn) r
        rw [c2, heN]
        intro hh
        have h1 := Big.val_be 8 b (by omega)
        rw [hh, Big.val_be 8 e (by omega)] at h1
        omega
      obtain ⟨t, t1, t2, t3, t4⟩ := tx_torn (v := { v' with down := false }) a2 (j := j0.adds Ts) (by rw [s3]; exact hEp) (by rw [s1, s2]; show _ ≤ v'.d.length; omega) (by rw [s2]; exact hn) (by omega) hp h0 (by rw [s2]; exact hf) hk (by rw [s1, s3]; exact hkp) (by rw [s1, s3]; exact hbad)
      rw [s1, s2, s3] at t1
      exact ⟨hlk, a3, hnof, hall, hlk.found t1 t2 t3 t4⟩
theorem Fok.next {v : DV} {j0 : JV} {Ts : List (List Pg)} {e : Nat} (h : Fok v j0 Ts e) (he : e ≤ 8) {p : Option (Nat × List Int)} (hp : plGood p) : Cj { v with pl := p } (JV.new j0.first j0.n ((e + 1 : Nat) : Int)) [] (e + 1) :=
  have hm : Frm.Ep ((e + 1 : Nat) : Int) := ⟨by omega, by omega⟩
  ⟨⟨h.lok.up, h.lok.wf, h.lok.row, h.lok.n1, hm, rfl, trivial, Nat.zero_le _, Nat.le_refl _⟩, hp, h.no, by omega, by omega, rfl, fun k k1 k2 => by obtain ⟨b, b1, b2⟩ := h.all k k1 k2; exact ⟨b, by omega, b2⟩, fun k k1 k2 => by obtain ⟨b, b1, b2⟩ := h.all k (show j0.first ≤ k from k1) k2; exact ⟨b, b1, b2⟩⟩
theorem Fok.later {v : DV} {j0 : JV} {Ts : List (List Pg)} {e : Nat} (h : Fok v j0 Ts e) (he : e ≤ 8) : Scan (frA v j0.first j0.n ((e + 1 : Nat) : Int)) SS.start SS.start := by
  have hm : Frm.Ep ((e + 1 : Nat) : Int) := ⟨by omega, by omega⟩
  exact scan_end h.lok.wf (j := JV.new j0.first j0.n ((e + 1 : Nat) : Int)) h.lok.row (EndB.clean (a := 0) hm (show e < ((e + 1 : Nat) : Int).toNat by rw [Int.toNat_natCast]; omega) (by omega) h.all)
theorem Fok.rd {v : DV} {j0 : JV} {Ts : List (List Pg)} {e : Nat} (h : Fok v j0 Ts e) (r : Nat) : Fok { v with rd := r } j0 Ts e := ⟨h.lok.rd r, h.pl, h.no, h.all, h.found⟩
theorem zeroV_end (n lo hi : Nat) (h : hi ≤ n) : EndB (zeroV n) lo hi 0 := fun k _ kn => by
  have e : secV (zeroV n) k = zblk := by
    show (none : Option (List UInt8)).getD ((List.replicate n zblk).getD k []) = _
    simp [List.getD, show k < n by omega]
  exact ⟨0, Nat.le_refl _, by rw [e]; decide +kernel⟩
theorem cj_zero {n first m : Nat} {p : Option (Nat × List Int)} (hp : plGood p) (hw : BkWf (zeroV n).d (zeroV n).F) (hr : first + m ≤ n) (hm : 1 ≤ m) : Cj { zeroV n with pl := p } (JV.new first m ((1 : Nat) : Int)) [] 1 :=
  have hm1 : Frm.Ep ((1 : Nat) : Int) := ⟨by omega, by omega⟩
  ⟨⟨rfl, hw, by show _ ≤ (List.replicate n zblk).length; rw [List.length_replicate]; exact hr, hm, hm1, rfl, trivial, Nat.zero_le _, Nat.le_refl _⟩, hp, fun _ _ => rfl, by omega, by omega, rfl, fun k k1 k2 => by obtain ⟨b, b1, b2⟩ := zeroV_end n first (first + m) hr k k1 k2; exact ⟨b, by omega, b2⟩, fun k k1 k2 => zeroV_end n _ _ hr k k1 k2⟩
end Go.Proofs.YtbkdjfgkebkknaaGreatDoor
namespace Go.Proofs.YtbkdjfgkebkknaaGreatDoor
set_option linter.unusedVariables false
set_option linter.unusedSimpArgs false
open Go Go.RowKit
set_option maxRecDepth 100000
set_option maxHeartbeats 8000000
theorem CellsOut.take {w : World} {S : List Nat} {a : Option Addr} {vs : List Value} (h : CellsOut w S a vs) (n : Nat) : CellsOut w S a (vs.take n) := by
  rcases h with h | ⟨b, off, h1, h2, h3⟩
  · subst h; exact .inl (by simp)
  · refine .inr ⟨b, off, h1, h2, fun i v hv => h3 i v ?_⟩
    rw [List.getElem?_take] at hv
    split at hv
    · exact hv
    · cases hv
section
variable {X : Cx} {ops : Array Oper} {Q : Exit → Act → World → Prop} {ρ : Env} {A B : List HA} {rest : List Oper}
theorem part_more : ∀ (D : List HA) {A B : List HA}, Part A B → Part (D ++ A) B
  | [], _, _, h => h
  | _ :: D, _, _, h => .more (part_more D h)
theorem part_to {A B D : List HA} (h : A.Perm (D ++ B)) : Part A B := by
  induction B generalizing A with
  | nil => exact .nil
  | cons x B ih =>
    obtain ⟨L, R, hL⟩ := List.append_of_mem (h.mem_iff.2 (List.mem_append_right D (.head _)))
    subst hL
    have hp : Pick x (L ++ x :: R) (L ++ R) := by
      clear h ih
      induction L with
      | nil => exact .here
      | cons y L ih => exact .there ih
    exact .cons hp (ih (List.Perm.cons_inv ((List.perm_middle.symm.trans h).trans List.perm_middle)))
theorem WL.drops {D : List HA} (hp : A.Perm (D ++ B)) (h : WL X ops Q rest ρ B) : WL X ops Q rest ρ A := WL.part (Part.perm hp) (WL.part (part_more D (Part.refl _)) h)
theorem WN.drops {e : Exit} {D : List HA} (hp : A.Perm (D ++ B)) (h : WN X Q e ρ B) : WN X Q e ρ A := fun a w f s => h a w f ((s.part (Part.perm hp)).part (part_more D (Part.refl _)))
theorem WC.perm {c : Code} (hp : A.Perm B) (h : WC X c Q ρ B) : WC X c Q ρ A := fun a w f s => h a w f (s.part (Part.perm hp))
end
attribute [local irreducible] WL WC WN Yl WH WQ WT WE WU WG WV
end Go.Proofs.YtbkdjfgkebkknaaGreatDoor
namespace Go.Proofs.YtbkdjfgkebkknaaGreatDoor
set_option linter.unusedVariables false
set_option linter.unusedSimpArgs false
open Go Go.RowKit
set_option maxRecDepth 100000
set_option maxHeartbeats 8000000
theorem Lok.get {v : DV} {j0 : JV} {Ts : List (List Pg)} (h : Lok v j0 Ts) (r : Nat) (no : Nat) (hn : no < 4096) : jget { v with rd := r } (j0.adds Ts) (no : Int) = getR (noC.adds Ts) no := by
  rw [jget_spec (h.rd r).up (h.rd r).fc, if_neg (by omega), Int.toNat_natCast]
  rfl
theorem up_same {v : DV} (h : v.down = false) : { v with down := false } = v := by
  cases v; simp only at h; subst h; rfl
section
variable {dp : DP} {ds : DS} {p : JP} {s : JS} {S : List Nat}
theorem has_q {v : DV} {j0 : JV} {Ts : List (List Pg)} (r0 b used tx : Nat) (M : List (Nat × Sl × Nat)) (c : Nat) (w : World) (h : Lok v j0 Ts) (dok : ds.Ok dp) (hv : ds.v = { v with rd := r0 }) (jok : s.Ok) (hj : s.v = j0.adds Ts) (hu : used = (j0.adds Ts).used) (ht : tx = (j0.adds Ts).tx) (hrd : r0 < 288230376151711744) (hT : TabO w S)
    (hM : MapIs 4096 (FS Ts) M c) (hb : b ∉ S ∧ w.heap[b]? = some (mobj encQ M c)) (hO : ∀ k q, FS Ts k = some q → CellsOut w S q.a (bs q.l)) (st : St w S (jI dp.bd p s ++ drI dp ds) w) :
    Calls Tryz.prog 21 #[stV b used tx, bptr p.bj] w (GivesS S (HasV dp p s { v with rd := r0 } true) w) := by
  have hc := (h.rd r0).fc
  have hd : dirtyOf 4096 s.v.F = dirtyOf 4096 (FS Ts) := by rw [hj, dirty_c, FS_c]; exact hc.dirty 4096
  have := has_r (dp := dp) (ds := ds) (p := p) (s := s) (S := S) b (FS Ts) M c w dok jok (by rw [hj, hv]; exact h.rowa) (by rw [hj]; exact hc.le) (by rw [hv]; show r0 < _; omega) hT hM hb hO hd (fun no hno r => by rw [hj, hv, FS_c]; exact h.get r no (by omega)) st
  rw [hv] at this
  rw [hu, ht, ← hj]; exact this
theorem hasno_q {v : DV} (b used tx : Nat) (w : World) (dok : ds.Ok dp) (hv : ds.v = v) (jok : s.Ok) {j : JV} (hj : s.v = j) (hne : j.used ≠ used) (st : St w S (jI dp.bd p s ++ drI dp ds) w) :
    Calls Tryz.prog 21 #[stV b used tx, bptr p.bj] w (GivesS S (HasV dp p s v false) w) := by
  subst hv hj; exact hasno_r b used tx w dok jok hne st
theorem jscan_f {v : DV} {j0 : JV} {Ts : List (List Pg)} (r : Nat) (w : World) (lok : Lok v j0 Ts) (h : Found v j0 Ts) (dok : ds.Ok dp) (hv : ds.v = { v with rd := r }) (hrd : r < 1152921504606846976) (hT : TabO w S) (st : St w S (drI dp ds) w) :
    Calls Tryz.prog 18 #[bptr dp.bd, .int .i64 (j0.first : Int), .int .i64 (j0.n : Int), .int .i64 j0.ep] w (GivesS S (JScanK dp { v with rd := r } (j0.adds Ts)) w) := by
  obtain ⟨t, t1, t2, t3, t4⟩ := h
  have e := jscan_v (v := { v with rd := r }) j0.first j0.n j0.ep t w dok hv lok.ep lok.n1 lok.row lok.up hrd t1 hT st
  obtain ⟨s1, s2, s3, _, _⟩ := adds_same Ts j0
  have : (⟨j0.first, j0.n, j0.ep, t.used, t.tx, t.F⟩ : JV) = j0.adds Ts := by
    rw [t2, t3, t4]
    conv => lhs; rw [← s1, ← s2, ← s3]
  rwa [this] at e
theorem jscan_l {v : DV} {j0 : JV} {Ts : List (List Pg)} {e : Nat} (r : Nat) (w : World) (h : Fok v j0 Ts e) (he : e ≤ 8) (dok : ds.Ok dp) (hv : ds.v = { v with rd := r }) (hrd : r < 1152921504606846976) (hT : TabO w S) (st : St w S (drI dp ds) w) :
    Calls Tryz.prog 18 #[bptr dp.bd, .int .i64 (j0.first : Int), .int .i64 (j0.n : Int), .int .i64 ((e + 1 : Nat) : Int)] w (GivesS S (JScanK dp { v with rd := r } (JV.new j0.first j0.n ((e + 1 : Nat) : Int))) w) := by
  have hm : Frm.Ep ((e + 1 : Nat) : Int) := ⟨by omega, by omega⟩
  exact jscan_v (v := { v with rd := r }) j0.first j0.n ((e + 1 : Nat) : Int) SS.start w dok hv hm h.lok.n1 h.lok.row h.lok.up hrd (h.later he) hT st
end
theorem zcells_app (K L : List Int) : zcells (K ++ L) = zcells K ++ zcells L := List.map_append
structure Eps where
  a : Option Addr
  c : Nat
  X : List Tr
def Eps.v (e : Eps) : Value := .slice e.a e.X.length e.c
structure Eps.Ok (e : Eps) (w : World) : Prop where
  c : e.X.length ≤ e.c
  m : e.c ≤ 9223372036854775807
  r : CellsAt w e.a (trs e.X)
  x : ∀ t ∈ e.X, t.Ok w
structure CrO (dp : DP) (d : DS) (N i : Nat) : Prop where
  ok : d.Ok dp
  len : d.v.d.length = N + 2
  ops : d.v.ops ≤ 200 * i
  rd : d.v.rd ≤ 2000 * i
  nx : ∀ p, plGood p → Cj { d.v with pl := p } (JV.new 1 N ((i + 1 : Nat) : Int)) [] (i + 1)
structure CrE (dp : DP) (d : DS) (N i : Nat) (cr : Bool) (Ts Os Rs : List (List Pg)) (M : List (Nat × Sl × Nat)) (c : Nat) (Mo : List (Nat × Sl × Nat)) (co uo to_ : Nat) (Z : List HA) : Prop where
  ok : d.Ok dp
  len : d.v.d.length = N + 2
  ops : d.v.ops ≤ 200 * i + 200
  rd : d.v.rd ≤ 2000 * i
  dn : d.v.down = cr
  fok : Fok { d.v with down := false } (JV.new 1 N ((i + 1 : Nat) : Int)) Rs (i + 1)
  m : MapIs 4096 (FS Ts) M c
  z : ∀ k q, FS Ts k = some q → InF Z q
  or_ : Rs = Ts ∨ (cr = true ∧ Rs = Os ∧ uo = ((JV.new 1 N ((i + 1 : Nat) : Int)).adds Os).used ∧ to_ = ((JV.new 1 N ((i + 1 : Nat) : Int)).adds Os).tx ∧ uo ≠ ((JV.new 1 N ((i + 1 : Nat) : Int)).adds Ts).used ∧ MapIs 4096 (FS Os) Mo co ∧ ∀ k q, FS Os k = some q → InF Z q)
structure CrI (dp : DP) (d : DS) (s : JS) (N i q rd : Nat) (Ts : List (List Pg)) (M : List (Nat × Sl × Nat)) (c : Nat) (Z : List HA) : Prop where
  ok : d.Ok dp
  sok : s.Ok
  sv : s.v = (JV.new 1 N ((i + 1 : Nat) : Int)).adds Ts
  len : d.v.d.length = N + 2
  ops : d.v.ops ≤ 200 * i + 22 * q
  rd_ : d.v.rd = rd
  cj : Cj d.v (JV.new 1 N ((i + 1 : Nat) : Int)) Ts (i + 1)
  m : MapIs 4096 (FS Ts) M c
  z : ∀ k q, FS Ts k = some q → InF Z q
theorem FS_in {Ts : List (List Pg)} {L : List Pg} {Z ZL Z' : List HA} (h : ∀ k q, FS Ts k = some q → InF Z q) (hL : ∀ q ∈ L, InF ZL q.s) (h1 : ∀ x ∈ Z, x ∈ Z') (h2 : ∀ x ∈ ZL, x ∈ Z') : ∀ k q, FS (Ts ++ [L]) k = some q → InF Z' q := by
  rw [FS_snoc]
  exact byS_in L (FS Ts) (fun q hq => (hL q hq).mono h2) fun k q hk => (h k q hk).mono h1
theorem arm_some {v : DV} {n : Nat} {K : List Int} (h : planOk (n : Int) K) (hn : n ≠ 0) : v.arm (n : Int) K = ({ v with pl := some (n, K) }, 0) := by
  rw [DV.arm, if_pos h, if_neg (by omega), Int.toNat_natCast]
end Go.Proofs.YtbkdjfgkebkknaaGreatDoor
