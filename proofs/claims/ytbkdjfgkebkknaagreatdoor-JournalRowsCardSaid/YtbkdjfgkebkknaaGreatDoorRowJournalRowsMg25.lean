import Derived.Test.YtbkdjfgkebkknaaGreatDoorRowJournalRowsMg20
import Derived.Test.YtbkdjfgkebkknaaGreatDoorRowJournalRowsMg21
import Derived.Test.YtbkdjfgkebkknaaGreatDoorRowJournalRowsMg7
namespace Go.Proofs.YtbkdjfgkebkknaaGreatDoor
set_option linter.unusedVariables false
set_option linter.unusedSimpArgs false
open Go Go.RowKit
set_option maxRecDepth 100000
theorem pieces_rowB {v : DV} (hw : BkWf v.d v.F) {a m k : Nat} (hk : k < m) (h : a + m ≤ v.d.length) : (pieces (rowB v a m) m).getD k [] = secV v (a + k) := by
  have e1 : (pieces (rowB v a m) m).getD k [] = ((rowB v a m).drop (128 * k)).take 128 := by
    rw [pieces, pcl, List.getD_eq_getElem?_getD, List.getElem?_map, List.getElem?_range hk]; rfl
  have hl1 : ∀ j, a + j ≤ v.d.length → (rowB v a j).length = 128 * j := fun j hj => rowB_len hw hj
  obtain ⟨r, rfl⟩ : ∃ r, m = k + (1 + r) := ⟨m - k - 1, by omega⟩
  have e2 : rowB v (a + k) 1 = secV v (a + k) := by
    have := rowB_sec hw (a := a + k) (k := 0) (by omega)
    rw [show (1 : Nat) = 0 + 1 from rfl, rowB_succ, this]; rfl
  rw [e1, rowB_add, rowB_add, e2, ← hl1 k (by omega), List.drop_left, List.take_append_of_le_length (by rw [secV_len hw (by omega)]; omega), List.take_of_length_le (by rw [secV_len hw (by omega)]; omega)]
theorem frA_lies {v : DV} (hw : BkWf v.d v.F) {first n at_ : Nat} {ep : Int} (hl : first + n ≤ v.d.length) (h : (frA v first n ep at_).err = 0) :
    Frm.Ok (frA v first n ep at_).kd ep (frA v first n ep at_).tx (frA v first n ep at_).ix (frA v first n ep at_).no (frA v first n ep at_).data.length ∧ (frA v first n ep at_).sec = (Frm.secs (frA v first n ep at_).kd).1 ∧ at_ + (frA v first n ep at_).sec ≤ n ∧
      ∀ tx : Nat, (frA v first n ep at_).tx = (tx : Int) → Has_ v (first + at_) (frameP ep tx (frA v first n ep at_).kd (frA v first n ep at_).ix (frA v first n ep at_).no (frA v first n ep at_).data) := by
  obtain ⟨f1, f2, f3, f4⟩ := dec_facts (b := rowB v (first + at_) (min (at_ + 5) n - at_)) (x := ep) h
  obtain ⟨g1, _, g3, g4⟩ := Frm.dec_enc (b := rowB v (first + at_) (min (at_ + 5) n - at_)) (x := ep) h
  rw [g3] at g1
  have f2' : (frA v first n ep at_).sec = (Frm.secs (frA v first n ep at_).kd).1 := f2
  have g1' : Frm.enc (frA v first n ep at_).kd ep (frA v first n ep at_).tx (frA v first n ep at_).ix (frA v first n ep at_).no (frA v first n ep at_).data = (0, (rowB v (first + at_) (min (at_ + 5) n - at_)).take (128 * (frA v first n ep at_).sec)) := g1
  have hro : ∀ j, first + at_ + j ≤ v.d.length → (rowB v (first + at_) j).length = 128 * j := fun j hj => rowB_len hw hj
  by_cases hat : at_ < n
  · have hrl := hro (min (at_ + 5) n - at_) (by omega)
    rw [hrl] at f4
    refine ⟨f1, f2, by show at_ + (Frm.dec _ _).sec ≤ n; omega, fun tx ht => ?_⟩
    have hP : frameP ep tx (frA v first n ep at_).kd (frA v first n ep at_).ix (frA v first n ep at_).no (frA v first n ep at_).data = pieces (rowB v (first + at_) (frA v first n ep at_).sec) (frA v first n ep at_).sec := by
      rw [frameP, ← ht, g1', ← f2']
      have e1 : (rowB v (first + at_) (min (at_ + 5) n - at_)).take (128 * (frA v first n ep at_).sec) = rowB v (first + at_) (frA v first n ep at_).sec := by
        obtain ⟨r, hr⟩ : ∃ r, min (at_ + 5) n - at_ = (frA v first n ep at_).sec + r := ⟨min (at_ + 5) n - at_ - (frA v first n ep at_).sec, by have : 128 * (frA v first n ep at_).sec ≤ 128 * (min (at_ + 5) n - at_) := f4; omega⟩
        have h9 := hro (frA v first n ep at_).sec (by have : 128 * (frA v first n ep at_).sec ≤ 128 * (min (at_ + 5) n - at_) := f4; omega)
        rw [hr, rowB_add, ← h9, List.take_left]
      show pieces ((rowB v (first + at_) (min (at_ + 5) n - at_)).take (128 * (frA v first n ep at_).sec)) (frA v first n ep at_).sec = _
      rw [e1]
    rw [hP]
    intro k hk
    rw [pieces_len] at hk
    exact (pieces_rowB hw hk (by have : 128 * (frA v first n ep at_).sec ≤ 128 * (min (at_ + 5) n - at_) := f4; omega)).symm
  · exfalso
    rw [show min (at_ + 5) n - at_ = 0 by omega] at f3 f4
    have : (rowB v (first + at_) 0).length = 0 := rfl
    omega
structure KSc (v : DV) (first n : Nat) (ep : Int) (Ts : List (List Pg)) (L : List Pg) (σ : SS) : Prop where
  reach : ∀ t, Scan (frA v first n ep) σ t → Scan (frA v first n ep) SS.start t
  laid : LaidT v (JV.new first n ep) Ts
  eq : σ = ⟨((JV.new first n ep).adds Ts).used + 5 * L.length, ((JV.new first n ep).adds Ts).tx, ((JV.new first n ep).adds Ts).used, ((JV.new first n ep).adds Ts).F, L.foldl (fun _ q => q.no) (-1), plG ((JV.new first n ep).adds Ts).used (((JV.new first n ep).adds Ts).tx + 1) 0 L noG, L.length⟩
  ok : PgOk L
  has : Has_ v (first + ((JV.new first n ep).adds Ts).used) (trF ep (((JV.new first n ep).adds Ts).tx + 1) 0 L)
  le : ((JV.new first n ep).adds Ts).used + 5 * L.length ≤ n
  txl : ((JV.new first n ep).adds Ts).tx ≤ ((JV.new first n ep).adds Ts).used
theorem KSc.start (v : DV) (first n : Nat) (ep : Int) : KSc v first n ep [] [] SS.start :=
  ⟨fun _ h => h, trivial, rfl, ⟨fun _ h => (by cases h), fun _ h => (by cases h), fun _ h => (by cases h), .nil⟩, Has_.nil _ _, Nat.zero_le _, Nat.le_refl _⟩
theorem fold_last : ∀ (L : List Pg) (a : Int), L.foldl (fun _ q => q.no) a = match L.getLast? with | none => a | some q => q.no
  | [], a => rfl
  | [q], a => rfl
  | q :: r :: L, a => by rw [List.foldl_cons, fold_last (r :: L), List.getLast?_cons_cons]; cases h : (r :: L).getLast? with
    | none => simp at h
    | some x => rfl
theorem pgok_snoc {L : List Pg} (h : PgOk L) {q : Pg} (h0 : 0 ≤ q.no) (h1 : q.no ≤ 4095) (h2 : q.s.l.length = 512) (h3 : L.foldl (fun _ q => q.no) (-1) < q.no) : PgOk (L ++ [q]) := by
  refine ⟨fun x hx => ?_, fun x hx => ?_, fun x hx => ?_, ?_⟩
  · rcases List.mem_append.1 hx with hx | hx
    · exact h.low x hx
    · simp only [List.mem_singleton] at hx; subst hx; exact h0
  · rcases List.mem_append.1 hx with hx | hx
    · exact h.high x hx
    · simp only [List.mem_singleton] at hx; subst hx; omega
  · rcases List.mem_append.1 hx with hx | hx
    · exact h.len x hx
    · simp only [List.mem_singleton] at hx; subst hx; exact h2
  · refine List.pairwise_append.2 ⟨h.inc, List.pairwise_singleton _ _, fun x hx y hy => ?_⟩
    simp only [List.mem_singleton] at hy
    subst hy
    rw [fold_last] at h3
    cases hL : L.getLast? with
    | none => rw [List.getLast?_eq_none_iff] at hL; subst hL; cases hx
    | some z =>
      rw [hL] at h3
      obtain ⟨L', rfl⟩ := List.getLast?_eq_some_iff.1 hL
      rcases List.mem_append.1 hx with hx | hx
      · have := (List.pairwise_append.1 h.inc).2.2 x hx z (.head _)
        simp only at h3
        omega
      · simp only [List.mem_singleton] at hx; subst hx; exact h3
section
variable {v : DV} {first n : Nat} {ep : Int} {Ts : List (List Pg)} {L : List Pg} {σ : SS}
theorem KSc.page (hw : BkWf v.d v.F) (hl : first + n ≤ v.d.length) (h : KSc v first n ep Ts L σ) {q : Pg} (h1 : σ.isNext (frA v first n ep σ.at_)) (h2 : σ.isPage (frA v first n ep σ.at_)) (hq : q.no = (frA v first n ep σ.at_).no) (hs : q.s.l = (frA v first n ep σ.at_).data) :
    (frA v first n ep σ.at_).sec = 5 ∧ KSc v first n ep Ts (L ++ [q]) (σ.page (frA v first n ep σ.at_)) := by
  have he := h.eq
  obtain ⟨f1, f2, f3, f4⟩ := frA_lies hw hl (at_ := σ.at_) h1.1
  have hat : σ.at_ = ((JV.new first n ep).adds Ts).used + 5 * L.length := by rw [he]
  have hk1 : (frA v first n ep σ.at_).kd = 1 := h2.1
  have hsec : (frA v first n ep σ.at_).sec = 5 := by rw [f2, hk1]; rfl
  have hix : (frA v first n ep σ.at_).ix = (L.length : Int) := by have := h2.2.1; rw [he] at this ⊢; exact this
  have hla : L.foldl (fun _ q => q.no) (-1) < q.no := by rw [hq]; have := h2.2.2; rw [he] at this ⊢; exact this
  have htx : (frA v first n ep σ.at_).tx = ((((JV.new first n ep).adds Ts).tx + 1 : Nat) : Int) := by have := h1.2; rw [he] at this ⊢; exact this
  have hfr := f4 _ htx
  rw [hk1] at f1 hfr
  have hno : 0 ≤ (frA v first n ep σ.at_).no ∧ (frA v first n ep σ.at_).no ≤ 4095 ∧ (frA v first n ep σ.at_).data.length = 512 := by
    obtain ⟨_, _, _, hh⟩ := f1
    rcases hh with hh | hh
    · exact ⟨hh.2.2.2.1, by have := hh.2.2.2.2.1; omega, hh.2.2.2.2.2⟩
    · exact absurd hh.1 (by decide)
  refine ⟨hsec, ⟨fun t ht => h.reach t (.page _ _ h1 h2 ht), h.laid, ?_, pgok_snoc h.ok (by rw [hq]; exact hno.1) (by rw [hq]; exact hno.2.1) (by rw [hs]; exact hno.2.2) hla, ?_, ?_, h.txl⟩⟩
  · have e1 : σ.page (frA v first n ep σ.at_) = { σ with at_ := σ.at_ + 5, last := q.no, G := setF σ.G q.no.toNat (some ⟨σ.at_, σ.tx + 1, σ.k⟩), k := σ.k + 1 } := by rw [SS.page, hsec, hq]
    rw [e1, plG_snoc, List.foldl_append, List.length_append, List.length_singleton, Nat.zero_add]
    rw [he]
    rfl
  · rw [trF_snoc]
    refine Has_.app.2 ⟨h.has, ?_⟩
    rw [trF_len, Nat.zero_add, hq, hs, ← hix]
    rw [show first + σ.at_ = first + ((JV.new first n ep).adds Ts).used + 5 * L.length by omega] at hfr
    exact hfr
  · rw [List.length_append, List.length_singleton]; omega
theorem KSc.comm (hw : BkWf v.d v.F) (hl : first + n ≤ v.d.length) (h : KSc v first n ep Ts L σ) (h1 : σ.isNext (frA v first n ep σ.at_)) (h2 : σ.isComm (frA v first n ep σ.at_)) :
    (frA v first n ep σ.at_).sec = 1 ∧ KSc v first n ep (Ts ++ [L]) [] (σ.comm (frA v first n ep σ.at_)) := by
  have he := h.eq
  obtain ⟨s1, s2, s3, s4, s5⟩ := adds_same Ts (JV.new first n ep)
  obtain ⟨f1, f2, f3, f4⟩ := frA_lies hw hl (at_ := σ.at_) h1.1
  have hat : σ.at_ = ((JV.new first n ep).adds Ts).used + 5 * L.length := by rw [he]
  have hk1 : (frA v first n ep σ.at_).kd = 2 := h2.1
  have hsec : (frA v first n ep σ.at_).sec = 1 := by rw [f2, hk1]; rfl
  have hL0 : 0 < L.length := by have := h2.2.1; rw [he] at this; exact this
  have hnoL : (frA v first n ep σ.at_).no = (L.length : Int) := by have := h2.2.2; rw [he] at this ⊢; exact this
  have htx : (frA v first n ep σ.at_).tx = ((((JV.new first n ep).adds Ts).tx + 1 : Nat) : Int) := by have := h1.2; rw [he] at this ⊢; exact this
  have hfr := f4 _ htx
  rw [hk1] at f1 hfr
  have hix : (frA v first n ep σ.at_).ix = 0 ∧ (frA v first n ep σ.at_).data = [] := by
    obtain ⟨_, _, _, hh⟩ := f1
    rcases hh with hh | hh
    · exact absurd hh.1 (by decide)
    · exact ⟨hh.2.1, List.eq_nil_of_length_eq_zero hh.2.2.2.2⟩
  rw [hix.1, hix.2, hnoL, hat, ← Nat.add_assoc] at hfr
  rw [hsec] at f3
  have hfit : ((JV.new first n ep).adds Ts).used + 5 * L.length + 1 ≤ n := by omega
  refine ⟨hsec, ⟨fun t ht => h.reach t (.comm _ _ h1 h2 ht), ?_, ?_, ⟨fun _ h => (by cases h), fun _ h => (by cases h), fun _ h => (by cases h), .nil⟩, Has_.nil _ _, ?_, ?_⟩⟩
  · refine laid_snoc.2 ⟨h.laid, List.length_pos_iff.1 hL0, h.ok, by rw [s2]; exact hfit, ?_⟩
    rw [s1, s3, trP]
    exact Has_.app.2 ⟨h.has, by rw [trF_len]; exact hfr⟩
  · have e1 : σ.comm (frA v first n ep σ.at_) = ⟨σ.at_ + 1, σ.tx + 1, σ.at_ + 1, ovr σ.F σ.G, -1, noG, 0⟩ := by rw [SS.comm, hsec]
    rw [e1, adds_snoc, he]
    rfl
  · rw [adds_snoc]; exact hfit
  · have := h.txl
    rw [adds_snoc]; show ((JV.new first n ep).adds Ts).tx + 1 ≤ ((JV.new first n ep).adds Ts).used + 5 * L.length + 1; omega
theorem KSc.stop (h : KSc v first n ep Ts L σ) (h1 : ¬ (σ.isNext (frA v first n ep σ.at_) ∧ (σ.isPage (frA v first n ep σ.at_) ∨ σ.isComm (frA v first n ep σ.at_)))) {t : SS} (ht : Scan (frA v first n ep) SS.start t) :
    (JV.new first n ep).adds Ts = ⟨first, n, ep, t.used, t.tx, t.F⟩ := by
  obtain ⟨s1, s2, s3, _, _⟩ := adds_same Ts (JV.new first n ep)
  have e := (h.reach _ (.stop _ h1)).det ht
  have key : ∀ j : JV, j.first = first → j.n = n → j.ep = ep → j = ⟨first, n, ep, j.used, j.tx, j.F⟩ := by
    rintro ⟨f', n', e', u', t', F'⟩ h1 h2 h3
    simp only at h1 h2 h3
    subst h1 h2 h3
    rfl
  rw [← e, h.eq]
  exact key _ s1 s2 s3
theorem KSc.tx_lt (h : KSc v first n ep Ts L σ) : ((JV.new first n ep).adds Ts).tx = Ts.length := by
  have := (adds_same Ts (JV.new first n ep)).2.2.2.2
  rw [this]; exact Nat.zero_add _
end
end Go.Proofs.YtbkdjfgkebkknaaGreatDoor
namespace Go.Proofs.YtbkdjfgkebkknaaGreatDoor
set_option linter.unusedVariables false
set_option linter.unusedSimpArgs false
open Go Go.RowKit
set_option maxRecDepth 100000
set_option maxHeartbeats 16000000
def LP : List UInt8 := List.replicate 512 112
def LQ : List UInt8 := List.replicate 512 113
theorem LP_len : LP.length = 512 := List.length_replicate
theorem LQ_len : LQ.length = 512 := List.length_replicate
def wT1 (a b : Option Addr) : List Pg := [⟨7, ⟨a, 512, LP⟩⟩, ⟨9, ⟨b, 512, LQ⟩⟩]
def wT2 (b : Option Addr) : List Pg := [⟨7, ⟨b, 512, LQ⟩⟩]
def wT3 (a b : Option Addr) : List Pg := [⟨9, ⟨a, 512, LP⟩⟩, ⟨7, ⟨b, 512, LP⟩⟩]
theorem wT1_ok (a b : Option Addr) : pchk (wT1 a b) = 0 := by simp [wT1, pchk, pchkF, LP_len, LQ_len]
theorem wT2_ok (b : Option Addr) : pchk (wT2 b) = 0 := by simp [wT2, pchk, pchkF, LQ_len]
theorem wT3_no (a b : Option Addr) : pchk (wT3 a b) = 2 := by simp [wT3, pchk, pchkF, LP_len]
theorem wT1_cs (a b : Option Addr) : flat [Value.agg #[.int .i64 7, .slice a 512 512], .agg #[.int .i64 9, .slice b 512 512]] = pgs (wT1 a b) := by
  simp only [pgs, wT1, List.flatMap_cons, List.flatMap_nil, Pg.cs, Sl.v, LP_len, LQ_len]; rfl
theorem wT2_cs (b : Option Addr) : flat [Value.agg #[.int .i64 7, .slice b 512 512]] = pgs (wT2 b) := by
  simp only [pgs, wT2, List.flatMap_cons, List.flatMap_nil, Pg.cs, Sl.v, LQ_len]; rfl
theorem wT3_cs (a b : Option Addr) : flat [Value.agg #[.int .i64 9, .slice a 512 512], .agg #[.int .i64 7, .slice b 512 512]] = pgs (wT3 a b) := by
  simp only [pgs, wT3, List.flatMap_cons, List.flatMap_nil, Pg.cs, Sl.v, LP_len]; rfl
def wj : JV := JV.new 2 16 1
def wn : JV := JV.new 2 16 2
theorem wd1 (a b : Option Addr) : dirtyOf 4096 (wj.adds [wT1 a b]).F = [7, 9] := by kernel_rfl
theorem wd2 (b : Option Addr) : dirtyOf 4096 (wn.adds [wT2 b]).F = [7] := by kernel_rfl
theorem wfit (a b : Option Addr) : fitV (wj.adds [wT1 a b]) 2 = (false, true) := by
  have h1 : ¬ fitN (wj.adds [wT1 a b]) 2 := fun h => by
    have h2 := h.2
    have hu : (wj.adds [wT1 a b]).used = 11 := rfl
    have hn : (wj.adds [wT1 a b]).n = 16 := rfl
    rw [hu, hn] at h2
    omega
  have h2 : fitS (wj.adds [wT1 a b]) 2 := by
    have hn : (wj.adds [wT1 a b]).n = 16 := rfl
    rw [fitS, hn]
    omega
  rw [fitV, if_neg (by decide), decide_eq_false h1, decide_eq_true h2]
theorem permX (A B C D : List HA) (x y : HA) : ((A ++ B) ++ x :: y :: (C ++ D)).Perm ((C ++ B) ++ (A ++ x :: y :: D)) := by
  classical
  rw [List.perm_iff_count]; intro u; simp only [List.count_append, List.count_cons]; omega
theorem elemFt : ElemT Tryz.prog 131 (.agg #[.int .i64 0, .bool false, .bool false]) 3 16 := ElemT.of (by kernel_rfl) rfl (by decide)
theorem buildFt (n : Int) (a b : Bool) (w : World) : (Instr.build 131 [(0, .int .i64 n), (1, .bool a), (2, .bool b)].toArray).run Tryz.prog w = .ok (.agg #[.int .i64 n, .bool a, .bool b]) w := by
  simp [Instr.build, Tryz.zeroValue131, run_underlying Tryz.underlying131, Tryz.sizeOf3, Tryz.sizeOf4, Value.cells, Instr.fill]
attribute [local irreducible] WL WC WN Yl WH WQ WT WE WU WG WV
theorem works35_c (w : World) (hT : Tab w) : Calls Tryz.prog 23 #[] w (Gives (Val (.bool true)) w) := by
  refine enter (args := []) Tryz.func23 Tryz.ntmps23 rfl rfl ?_
  (repeat (first | refine WL.step (Yl.assign rfl) rfl ?_ | refine WC.seq ?_ | refine WC.region ?_ | refine WL.nil ?_ | refine WN.then_normal ?_))
  refine WL.call (g := 11) Tryz.call11 rfl (fun w0 st2 => dnew_c 32 w0 (by decide) (by decide)) rfl fun v1 B1 hv1 => ?_
  obtain ⟨dp, d0, d0ok, hd0, rfl, rfl⟩ := hv1
  have hd0 : d0.v = zeroV 32 := hd0
  have hwf0 : BkWf (zeroV 32).d (zeroV 32).F := by rw [← hd0]; exact wf_v d0ok
  have hl0 : (zeroV 32).d.length = 32 := List.length_replicate
  rw [List.append_nil]
  (repeat (first | refine WL.want rfl rfl rfl ?_ | refine WL.step (Yl.move rfl) rfl ?_ | refine WL.step (Yl.assign rfl) rfl ?_ | refine WL.step (Yl.extract rfl rfl) rfl ?_ | refine WL.step (Yl.pick_f rfl rfl rfl) rfl ?_ | refine WL.step (Yl.neqF rfl rfl rfl) rfl ?_ | (refine WL.k_bin .eql ?_; refine WL.step (Yl.eqlPN (by kernel_rfl) rfl) rfl ?_) | refine WC.seq ?_ | refine WC.region ?_ | refine WL.nil ?_ | refine WN.then_normal ?_))
  refine WC.cond_false rfl rfl ?_
  (repeat (first | refine WL.step (Yl.move rfl) rfl ?_ | refine WC.seq ?_ | refine WC.region ?_ | refine WN.then_normal ?_ | refine WC.skip ?_))
  refine WL.call (g := 12) Tryz.call12 rfl (fun w0 st2 => jnew_v 2 16 1 w0 (d0ok.at_ st2 fun x h => h) hd0 (by decide) (by decide) (by rw [hl0]; decide)) rfl fun v1 B1 hv1 => ?_
  obtain ⟨p, s0, s0ok, hs0, rfl, rfl⟩ := hv1
  have hs0 : s0.v = wj := hs0
  (repeat (first | refine WL.step (Yl.move rfl) rfl ?_ | refine WL.step (Yl.assign rfl) rfl ?_ | refine WL.step (Yl.extract rfl rfl) rfl ?_ | refine WL.step (Yl.neqF rfl rfl rfl) rfl ?_ | refine WC.seq ?_ | refine WC.region ?_ | refine WL.nil ?_ | refine WN.then_normal ?_))
  refine WC.cond_false rfl rfl ?_
  rw [← List.append_nil (jI dp.bd p s0 ++ drI dp d0)]
  (repeat (first | (refine WL.k_build ?_; first | refine WL.step (Yl.build (ps := [(0, .const (.int .i64 1)), (1, .const (.bool true)), (2, .const (.bool true))]) (vs := [(0, .int .i64 1), (1, .bool true), (2, .bool true)]) rfl (buildFt _ _ _)) rfl ?_ | refine WL.step (Yl.build (ps := [(0, .const (.int .i64 3)), (1, .const (.bool true)), (2, .const (.bool true))]) (vs := [(0, .int .i64 3), (1, .bool true), (2, .bool true)]) rfl (buildFt _ _ _)) rfl ?_ | refine WL.step (Yl.build (ps := [(0, .const (.int .i64 4)), (1, .const (.bool false)), (2, .const (.bool false))]) (vs := [(0, .int .i64 4), (1, .bool false), (2, .bool false)]) rfl (buildFt _ _ _)) rfl ?_ | refine WL.step (Yl.build (ps := [(0, .const (.int .i64 0)), (1, .const (.bool false)), (2, .const (.bool false))]) (vs := [(0, .int .i64 0), (1, .bool false), (2, .bool false)]) rfl (buildFt _ _ _)) rfl ?_) | refine WC.seq ?_ | refine WC.region ?_ | refine WN.then_normal ?_ | refine WC.skip ?_))
  refine WL.lit (t := 132) (vs := [.agg #[.int .i64 1, .bool true, .bool true], .agg #[.int .i64 3, .bool true, .bool true], .agg #[.int .i64 4, .bool false, .bool false], .agg #[.int .i64 0, .bool false, .bool false]]) Tryz.underlying132 elemFt rfl rfl rfl (fun u hu => by simp at hu; rcases hu with rfl | rfl | rfl | rfl <;> rfl) rfl fun b50 => ?_
  obtain ⟨fts, hfts⟩ : ∃ l, l = flat [Value.agg #[.int .i64 1, .bool true, .bool true], .agg #[.int .i64 3, .bool true, .bool true], .agg #[.int .i64 4, .bool false, .bool false], .agg #[.int .i64 0, .bool false, .bool false]] := ⟨_, rfl⟩
  rw [← hfts]
  refine WL.mid ?_
  (repeat (first | refine WL.step (Yl.move rfl) rfl ?_ | refine WL.step (Yl.len (t := 132) Tryz.underlying132 rfl) rfl ?_ | refine WL.nil ?_ | refine WN.then_normal ?_ | refine WC.block ?_))
  refine WC.loop (α := Nat) (fun i => [(1, bptr dp.bd), (3, bptr p.bj), (50, .slice (some ⟨b50, 0, none⟩) 4 4), (51, .int .i64 4), (52, .int .i64 (i : Int))]) (fun _ => (jI dp.bd p s0 ++ drI dp d0) ++ [.row (some ⟨b50, 0, none⟩) 4 131 3 fts]) (fun i => i ≤ 4) (fun i => 4 - i) 0 zS (Part.refl _) (Nat.zero_le _) ?_
  intro i hi
  (repeat (first | refine WL.step (Yl.lss rfl rfl) rfl ?_ | refine WC.seq ?_ | refine WC.region ?_ | refine WL.nil ?_ | refine WN.then_normal ?_))
  refine WC.ite rfl (fun h1 => ?_) (fun h1 => ?_)
  · have hfl : fts.length = 12 := by rw [hfts]; rfl
    have hne : fts ≠ [] := fun h => by rw [h] at hfl; cases hfl
    rcases (by omega : i = 0 ∨ i = 1 ∨ i = 2 ∨ i = 3) with rfl | rfl | rfl | rfl
    · have e : (fts.drop (0 * 3)).take [Value.int .i64 1, .bool true, .bool true].length = [Value.int .i64 1, .bool true, .bool true] := by rw [hfts]; rfl
      (repeat (first | (refine WL.k_load ?_; refine WL.step (Yl.loadEl [.int .i64 1, .bool true, .bool true] Tryz.isAgg131 Tryz.sizeOf131 rfl (Rd.row (vs := fts) (List.mem_append_right _ (.head _))) rfl (by simp) e) rfl ?_) | (refine WL.k_idxa ?_; refine WL.step (Yl.indexAddr (t := 132) (j := 0) Tryz.underlying132 Tryz.sizeOf131 rfl rfl (Rd.row (vs := fts) (List.mem_append_right _ (.head _))) hne (by decide)) rfl ?_) | refine WC.seq ?_ | refine WC.region ?_ | refine WN.then_normal ?_ | refine WC.block ?_ | refine WC.skip ?_))
      refine WL.allocA Tryz.zeroValue131 rfl fun b5 => ?_
      refine WL.storeWhole (T := 131) (k := 3) Tryz.sizeOf131 rfl rfl rfl .here rfl rfl ?_
      (repeat (first | refine WL.want rfl rfl rfl ?_ | refine WL.step (Yl.move rfl) rfl ?_ | refine WL.step (Yl.assign rfl) rfl ?_ | refine WL.step (Yl.extract rfl rfl) rfl ?_ | (refine WL.k_load ?_; first | refine WL.step (Yl.loadBlk (T := 3) Tryz.isAgg3 rfl zH (by rfl)) rfl ?_ | refine WL.step (Yl.loadBlk (T := 4) Tryz.isAgg4 rfl zH (by rfl)) rfl ?_) | (refine WL.k_fld ?_; first | refine WL.step (Yl.fldN0 (i := 0) (o := 0) (by kernel_rfl) rfl) rfl ?_ | refine WL.step (Yl.fldN0 (i := 1) (o := 1) (by kernel_rfl) rfl) rfl ?_ | refine WL.step (Yl.fldN0 (i := 2) (o := 2) (by kernel_rfl) rfl) rfl ?_) | refine WL.step (Yl.pick_f rfl rfl rfl) rfl ?_ | (refine WL.k_call 15 ?_; refine WL.callV (g := 15) (v := .tuple #[.bool true, .bool true]) Tryz.call15 rfl (fun w0 st2 => jfits_v 1 w0 (s0ok.at_ st2 fun x h => .tail _ (List.mem_append_left _ (List.mem_append_left _ h))) hs0 (r := (true, true)) (by decide)) rfl ?_) | refine WL.step (Yl.neqB (t := 4) (p := true) (q := true) Tryz.underlying4 rfl rfl) rfl ?_ | refine WC.seq ?_ | refine WC.region ?_ | refine WL.nil ?_ | refine WN.then_normal ?_))
      refine WC.cond_false rfl rfl ?_
      (repeat (first | refine WL.step (Yl.move rfl) rfl ?_ | (refine WL.k_bin .add ?_; refine WL.step (Yl.add64C rfl (by omega)) rfl ?_) | refine WC.region ?_ | refine WL.nil ?_ | refine WN.then_normal ?_ | refine WC.skip ?_ | refine WN.block_normal ?_))
      exact WN.next 1 (by decide) (by decide) zS (.more (Part.refl _))
    · have e : (fts.drop (1 * 3)).take [Value.int .i64 3, .bool true, .bool true].length = [Value.int .i64 3, .bool true, .bool true] := by rw [hfts]; rfl
      (repeat (first | (refine WL.k_load ?_; refine WL.step (Yl.loadEl [.int .i64 3, .bool true, .bool true] Tryz.isAgg131 Tryz.sizeOf131 rfl (Rd.row (vs := fts) (List.mem_append_right _ (.head _))) rfl (by simp) e) rfl ?_) | (refine WL.k_idxa ?_; refine WL.step (Yl.indexAddr (t := 132) (j := 1) Tryz.underlying132 Tryz.sizeOf131 rfl rfl (Rd.row (vs := fts) (List.mem_append_right _ (.head _))) hne (by decide)) rfl ?_) | refine WC.seq ?_ | refine WC.region ?_ | refine WN.then_normal ?_ | refine WC.block ?_ | refine WC.skip ?_))
      refine WL.allocA Tryz.zeroValue131 rfl fun b5 => ?_
      refine WL.storeWhole (T := 131) (k := 3) Tryz.sizeOf131 rfl rfl rfl .here rfl rfl ?_
      (repeat (first | refine WL.want rfl rfl rfl ?_ | refine WL.step (Yl.move rfl) rfl ?_ | refine WL.step (Yl.assign rfl) rfl ?_ | refine WL.step (Yl.extract rfl rfl) rfl ?_ | (refine WL.k_load ?_; first | refine WL.step (Yl.loadBlk (T := 3) Tryz.isAgg3 rfl zH (by rfl)) rfl ?_ | refine WL.step (Yl.loadBlk (T := 4) Tryz.isAgg4 rfl zH (by rfl)) rfl ?_) | (refine WL.k_fld ?_; first | refine WL.step (Yl.fldN0 (i := 0) (o := 0) (by kernel_rfl) rfl) rfl ?_ | refine WL.step (Yl.fldN0 (i := 1) (o := 1) (by kernel_rfl) rfl) rfl ?_ | refine WL.step (Yl.fldN0 (i := 2) (o := 2) (by kernel_rfl) rfl) rfl ?_) | refine WL.step (Yl.pick_f rfl rfl rfl) rfl ?_ | (refine WL.k_call 15 ?_; refine WL.callV (g := 15) (v := .tuple #[.bool true, .bool true]) Tryz.call15 rfl (fun w0 st2 => jfits_v 3 w0 (s0ok.at_ st2 fun x h => .tail _ (List.mem_append_left _ (List.mem_append_left _ h))) hs0 (r := (true, true)) (by decide)) rfl ?_) | refine WL.step (Yl.neqB (t := 4) (p := true) (q := true) Tryz.underlying4 rfl rfl) rfl ?_ | refine WC.seq ?_ | refine WC.region ?_ | refine WL.nil ?_ | refine WN.then_normal ?_))
      refine WC.cond_false rfl rfl ?_
      (repeat (first | refine WL.step (Yl.move rfl) rfl ?_ | (refine WL.k_bin .add ?_; refine WL.step (Yl.add64C rfl (by omega)) rfl ?_) | refine WC.region ?_ | refine WL.nil ?_ | refine WN.then_normal ?_ | refine WC.skip ?_ | refine WN.block_normal ?_))
      exact WN.next 2 (by decide) (by decide) zS (.more (Part.refl _))
    · have e : (fts.drop (2 * 3)).take [Value.int .i64 4, .bool false, .bool false].length = [Value.int .i64 4, .bool false, .bool false] := by rw [hfts]; rfl
      (repeat (first | (refine WL.k_load ?_; refine WL.step (Yl.loadEl [.int .i64 4, .bool false, .bool false] Tryz.isAgg131 Tryz.sizeOf131 rfl (Rd.row (vs := fts) (List.mem_append_right _ (.head _))) rfl (by simp) e) rfl ?_) | (refine WL.k_idxa ?_; refine WL.step (Yl.indexAddr (t := 132) (j := 2) Tryz.underlying132 Tryz.sizeOf131 rfl rfl (Rd.row (vs := fts) (List.mem_append_right _ (.head _))) hne (by decide)) rfl ?_) | refine WC.seq ?_ | refine WC.region ?_ | refine WN.then_normal ?_ | refine WC.block ?_ | refine WC.skip ?_))
      refine WL.allocA Tryz.zeroValue131 rfl fun b5 => ?_
      refine WL.storeWhole (T := 131) (k := 3) Tryz.sizeOf131 rfl rfl rfl .here rfl rfl ?_
      (repeat (first | refine WL.want rfl rfl rfl ?_ | refine WL.step (Yl.move rfl) rfl ?_ | refine WL.step (Yl.assign rfl) rfl ?_ | refine WL.step (Yl.extract rfl rfl) rfl ?_ | (refine WL.k_load ?_; first | refine WL.step (Yl.loadBlk (T := 3) Tryz.isAgg3 rfl zH (by rfl)) rfl ?_ | refine WL.step (Yl.loadBlk (T := 4) Tryz.isAgg4 rfl zH (by rfl)) rfl ?_) | (refine WL.k_fld ?_; first | refine WL.step (Yl.fldN0 (i := 0) (o := 0) (by kernel_rfl) rfl) rfl ?_ | refine WL.step (Yl.fldN0 (i := 1) (o := 1) (by kernel_rfl) rfl) rfl ?_ | refine WL.step (Yl.fldN0 (i := 2) (o := 2) (by kernel_rfl) rfl) rfl ?_) | refine WL.step (Yl.pick_f rfl rfl rfl) rfl ?_ | (refine WL.k_call 15 ?_; refine WL.callV (g := 15) (v := .tuple #[.bool false, .bool false]) Tryz.call15 rfl (fun w0 st2 => jfits_v 4 w0 (s0ok.at_ st2 fun x h => .tail _ (List.mem_append_left _ (List.mem_append_left _ h))) hs0 (r := (false, false)) (by decide)) rfl ?_) | refine WL.step (Yl.neqB (t := 4) (p := false) (q := false) Tryz.underlying4 rfl rfl) rfl ?_ | refine WC.seq ?_ | refine WC.region ?_ | refine WL.nil ?_ | refine WN.then_normal ?_))
      refine WC.cond_false rfl rfl ?_
      (repeat (first | refine WL.step (Yl.move rfl) rfl ?_ | (refine WL.k_bin .add ?_; refine WL.step (Yl.add64C rfl (by omega)) rfl ?_) | refine WC.region ?_ | refine WL.nil ?_ | refine WN.then_normal ?_ | refine WC.skip ?_ | refine WN.block_normal ?_))
      exact WN.next 3 (by decide) (by decide) zS (.more (Part.refl _))
    · have e : (fts.drop (3 * 3)).take [Value.int .i64 0, .bool false, .bool false].length = [Value.int .i64 0, .bool false, .bool false] := by rw [hfts]; rfl
      (repeat (first | (refine WL.k_load ?_; refine WL.step (Yl.loadEl [.int .i64 0, .bool false, .bool false] Tryz.isAgg131 Tryz.sizeOf131 rfl (Rd.row (vs := fts) (List.mem_append_right _ (.head _))) rfl (by simp) e) rfl ?_) | (refine WL.k_idxa ?_; refine WL.step (Yl.indexAddr (t := 132) (j := 3) Tryz.underlying132 Tryz.sizeOf131 rfl rfl (Rd.row (vs := fts) (List.mem_append_right _ (.head _))) hne (by decide)) rfl ?_) | refine WC.seq ?_ | refine WC.region ?_ | refine WN.then_normal ?_ | refine WC.block ?_ | refine WC.skip ?_))
      refine WL.allocA Tryz.zeroValue131 rfl fun b5 => ?_
      refine WL.storeWhole (T := 131) (k := 3) Tryz.sizeOf131 rfl rfl rfl .here rfl rfl ?_
      (repeat (first | refine WL.want rfl rfl rfl ?_ | refine WL.step (Yl.move rfl) rfl ?_ | refine WL.step (Yl.assign rfl) rfl ?_ | refine WL.step (Yl.extract rfl rfl) rfl ?_ | (refine WL.k_load ?_; first | refine WL.step (Yl.loadBlk (T := 3) Tryz.isAgg3 rfl zH (by rfl)) rfl ?_ | refine WL.step (Yl.loadBlk (T := 4) Tryz.isAgg4 rfl zH (by rfl)) rfl ?_) | (refine WL.k_fld ?_; first | refine WL.step (Yl.fldN0 (i := 0) (o := 0) (by kernel_rfl) rfl) rfl ?_ | refine WL.step (Yl.fldN0 (i := 1) (o := 1) (by kernel_rfl) rfl) rfl ?_ | refine WL.step (Yl.fldN0 (i := 2) (o := 2) (by kernel_rfl) rfl) rfl ?_) | refine WL.step (Yl.pick_f rfl rfl rfl) rfl ?_ | (refine WL.k_call 15 ?_; refine WL.callV (g := 15) (v := .tuple #[.bool false, .bool false]) Tryz.call15 rfl (fun w0 st2 => jfits_v 0 w0 (s0ok.at_ st2 fun x h => .tail _ (List.mem_append_left _ (List.mem_append_left _ h))) hs0 (r := (false, false)) (by decide)) rfl ?_) | refine WL.step (Yl.neqB (t := 4) (p := false) (q := false) Tryz.underlying4 rfl rfl) rfl ?_ | refine WC.seq ?_ | refine WC.region ?_ | refine WL.nil ?_ | refine WN.then_normal ?_))
      refine WC.cond_false rfl rfl ?_
      (repeat (first | refine WL.step (Yl.move rfl) rfl ?_ | (refine WL.k_bin .add ?_; refine WL.step (Yl.add64C rfl (by omega)) rfl ?_) | refine WC.region ?_ | refine WL.nil ?_ | refine WN.then_normal ?_ | refine WC.skip ?_ | refine WN.block_normal ?_))
      exact WN.next 4 (by decide) (by decide) zS (.more (Part.refl _))
  · obtain rfl : i = 4 := by omega
    (repeat (first | refine WL.step (Yl.move rfl) rfl ?_ | refine WC.seq ?_ | refine WC.region ?_ | refine WN.then_normal ?_ | refine WC.exit ?_ | refine WN.then_exit ?_ | refine WN.block_here ?_))
    refine WL.call (g := 53) Tryz.call53 rfl (fun w0 st2 => full_w 112 w0) rfl fun v1 B1 hv1 => ?_
    obtain ⟨a1, c1, hc1, rfl, rfl⟩ := hv1
    rw [show List.replicate 512 (112 : UInt8) = LP from rfl]
    simp only [List.cons_append, List.nil_append]
    refine WL.mid ?_
    (repeat (first | refine WL.step (Yl.build (ps := [(0, .const (.int .i64 7)), (1, .tmp 75)]) (vs := [(0, .int .i64 7), (1, .slice a1 512 512)]) rfl (buildPg _ _ _ _)) rfl ?_))
    refine WL.call (g := 53) Tryz.call53 rfl (fun w0 st2 => full_w 113 w0) rfl fun v1 B1 hv1 => ?_
    obtain ⟨a2, c2, hc2, rfl, rfl⟩ := hv1
    rw [show List.replicate 512 (113 : UInt8) = LQ from rfl]
    simp only [List.cons_append, List.nil_append]
    refine WL.mid ?_
    (repeat (first | refine WL.step (Yl.build (ps := [(0, .const (.int .i64 9)), (1, .tmp 77)]) (vs := [(0, .int .i64 9), (1, .slice a2 512 512)]) rfl (buildPg _ _ _ _)) rfl ?_))
    refine WL.lit (t := 37) (vs := [.agg #[.int .i64 7, .slice a1 512 512], .agg #[.int .i64 9, .slice a2 512 512]]) Tryz.underlying37 elemPg rfl rfl rfl (fun u hu => by simp at hu; rcases hu with rfl | rfl <;> rfl) rfl fun b3 => ?_
    rw [wT1_cs]
    refine WL.mid ?_
    skip
    have k0 : Jok (zeroV 32) wj [] := jok_new ⟨rfl, rfl⟩ hwf0 (by rw [hl0]; decide) (by decide) (by decide) (zeroV_clean (by decide) (by decide))
    have cl0 : Clean (zeroV 32) 2 16 2 0 := zeroV_clean (by decide) (by decide)
    obtain ⟨v1, e1, k1, l1, o1, r1, h1, g1, n1⟩ := k0.append (wT1_ok a1 a2) (by show 0 + 5 * 2 + 1 ≤ 16; decide)
    have e1 : japp (zeroV 32) wj (wT1 a1 a2) = (v1, wj.adds [wT1 a1 a2], 0) := e1
    have k1 : Jok v1 wj [wT1 a1 a2] := k1
    have r1 : v1.rd = 0 := r1
    have o1 : v1.ops = 12 := o1
    have l1 : v1.d.length = 32 := l1.trans hl0
    have cl1 : Clean v1 2 16 2 0 := Clean.over (ep := 1) (T := wT1 a1 a2) (u := 0) (tx := 1) (by decide) (by decide) (by decide) (by decide) (by decide) (pchk_ok (wT1_ok a1 a2)).1 (pchk_ok (wT1_ok a1 a2)).2 (by show 2 ≤ 4096; decide) cl0 h1 (fun k hk hk2 => g1 (2 + k) (by rw [hl0]; omega) (by have h9 : (wj.adds []).used = 0 := rfl; have h8 : (wT1 a1 a2).length = 2 := rfl; have h7 : wj.first = 2 := rfl; omega))
    refine WL.callS (g := 16) (A0 := jI dp.bd p s0 ++ drI dp d0) Tryz.call16 rfl (List.Perm.refl _) (fun w0 st2 st1 => jappend_v (some ⟨b3, 0, none⟩) 2 2 (wT1 a1 a2) w0 _ d0ok hd0 s0ok hs0 e1 (by decide) rfl (by decide) (row_out st2 (List.Perm.refl _) (.head _)) (fun q hq => by simp only [wT1, List.mem_cons, List.not_mem_nil, or_false] at hq; rcases hq with rfl | rfl; exact row_out st2 (List.Perm.refl _) (.tail _ (.tail _ (.head _))); exact row_out st2 (List.Perm.refl _) (.tail _ (.head _))) (old_out st2 (List.Perm.refl _) hT.o) st1) rfl fun v C hv => ?_
    obtain ⟨rfl, d1, s1, d1ok, hd1, s1ok, hs1, rfl⟩ := hv
    simp only at hd1 hs1
    (repeat (first | refine WL.want rfl rfl rfl ?_ | refine WL.step (Yl.move rfl) rfl ?_ | refine WL.step (Yl.pick_f rfl rfl rfl) rfl ?_ | refine WL.step (Yl.neqF rfl rfl rfl) rfl ?_ | refine WL.callV (g := 36) (v := .int .i64 11) Tryz.call36 rfl (fun w0 st2 => jused_v 11 w0 (s1ok.at_ st2 (fun x h => List.mem_append_left _ (List.mem_append_left _ h))) hs1 rfl) rfl ?_ | refine WL.callV (g := 35) (v := .int .i64 1) Tryz.call35 rfl (fun w0 st2 => jtx_v 1 w0 (s1ok.at_ st2 (fun x h => List.mem_append_left _ (List.mem_append_left _ h))) hs1 rfl) rfl ?_))
    refine WL.callR (g := 34) Tryz.call34 rfl (fun w0 st2 => jpages_v [7, 9] w0 (s1ok.at_ st2 (fun x h => List.mem_append_left _ (List.mem_append_left _ h))) hs1 (wd1 a1 a2)) rfl fun q1 hq1 => ?_
    rw [ncells_z]
    refine WL.mid ?_
    (repeat (first | refine WL.want rfl rfl rfl ?_))
    refine WL.lit (t := 61) (vs := [.int .i64 7, .int .i64 9]) Tryz.underlying61 elemZ rfl rfl rfl (fun u hu => by simp at hu; rcases hu with rfl | rfl <;> rfl) rfl fun b4 => ?_
    rw [show flat [Value.int .i64 7, Value.int .i64 9] = zcells [7, 9] from rfl]
    refine WL.mid ?_
    (repeat (first | refine WL.want rfl rfl rfl ?_ | refine WL.step (Yl.move rfl) rfl ?_ | refine WL.step (Yl.pick_f rfl rfl rfl) rfl ?_ | (refine WL.k_call 40 ?_; refine WL.callV (g := 40) (v := .bool true) Tryz.call40 rfl (fun w0 st2 => by have := iequal_c q1.1 (some ⟨b4, 0, none⟩) 2 2 q1.2 2 [7, 9] [7, 9] w0 rfl rfl (by decide) (Rd.row (List.mem_append_right _ (.tail _ (.head _))) w0 st2) (Rd.row (List.mem_append_right _ (.head _)) w0 st2); exact this) rfl ?_) | refine WL.step (Yl.not rfl) rfl ?_))
    skip
    refine WL.call (g := 53) Tryz.call53 rfl (fun w0 st2 => full_w 113 w0) rfl fun v1 B1 hv1 => ?_
    obtain ⟨a3, c3, hc3, rfl, rfl⟩ := hv1
    rw [show List.replicate 512 (113 : UInt8) = LQ from rfl]
    simp only [List.cons_append, List.nil_append]
    refine WL.mid ?_
    (repeat (first | refine WL.want rfl rfl rfl ?_ | refine WL.step (Yl.build (ps := [(0, .const (.int .i64 7)), (1, .tmp 101)]) (vs := [(0, .int .i64 7), (1, .slice a3 512 512)]) rfl (buildPg _ _ _ _)) rfl ?_))
    refine WL.lit (t := 37) (vs := [.agg #[.int .i64 7, .slice a3 512 512]]) Tryz.underlying37 elemPg rfl rfl rfl (fun u hu => by simp at hu; subst hu; rfl) rfl fun b5 => ?_
    rw [wT2_cs]
    refine WL.mid ?_
    (repeat (first | refine WL.want rfl rfl rfl ?_))
    have ef : japp v1 (wj.adds [wT1 a1 a2]) (wT2 a3) = (v1, wj.adds [wT1 a1 a2], 4) := japp_full (wT2_ok a3) (by rw [show ((wT2 a3).length : Int) = ((1 : Nat) : Int) from rfl, fitN_iff (by decide)]; show ¬ (11 + 5 * 1 + 1 ≤ 16); decide)
    refine WL.callS (g := 16) (A0 := jI dp.bd p s1 ++ drI dp d1) Tryz.call16 rfl (List.Perm.refl _) (fun w0 st2 st1 => jappend_v (some ⟨b5, 0, none⟩) 1 1 (wT2 a3) w0 _ d1ok hd1 s1ok hs1 ef (by rw [o1]; decide) rfl (by decide) (row_out st2 (List.Perm.refl _) (.head _)) (fun q hq => by simp only [wT2, List.mem_cons, List.not_mem_nil, or_false] at hq; subst hq; exact row_out st2 (List.Perm.refl _) (.tail _ (.head _))) (old_out st2 (List.Perm.refl _) hT.o) st1) rfl fun v C hv => ?_
    obtain ⟨rfl, d2, s2, d2ok, hd2, s2ok, hs2, rfl⟩ := hv
    simp only at hd2 hs2
    (repeat (first | refine WL.want rfl rfl rfl ?_ | refine WL.step (Yl.pick_f rfl rfl rfl) rfl ?_ | refine WL.step (Yl.neqF rfl rfl rfl) rfl ?_ | refine WL.nil ?_ | refine WN.then_normal ?_))
    refine WC.cond_false rfl rfl ?_
    (repeat (first | refine WL.step (Yl.move rfl) rfl ?_ | refine WL.step (Yl.assign rfl) rfl ?_ | refine WL.step (Yl.extract rfl rfl) rfl ?_ | refine WL.callV (g := 15) (v := .tuple #[.bool false, .bool true]) Tryz.call15 rfl (fun w0 st2 => jfits_v 2 w0 (s2ok.at_ st2 (fun x h => List.mem_append_left _ (List.mem_append_left _ h))) hs2 (r := (false, true)) (wfit a1 a2)) rfl ?_ | refine WC.seq ?_ | refine WC.region ?_ | refine WL.nil ?_ | refine WN.then_normal ?_ | refine WC.skip ?_))
    have hd2 : d2.v = { v1 with rd := 0 } := by rw [hd2, ← r1]
    have eg0 : jget { v1 with rd := 0 } (wj.adds [wT1 a1 a2]) 7 = (LP, true, 0) := by rw [jget_spec (k1.rd 0).calm.up (k1.rd 0).fc]; rfl
    refine WL.callS (g := 33) (A0 := jI dp.bd p s2 ++ drI dp d2) Tryz.call33 rfl (List.Perm.refl _) (fun w0 st2 st1 => jget_v 7 w0 _ d2ok hd2 s2ok hs2 eg0 (k1.rd 0).row (k1.rd 0).fc.le (by show 0 < _; omega) (old_out st2 (List.Perm.refl _) hT.o) st1) rfl fun v C hv => ?_
    obtain ⟨q7, u7, d3, m, hu71, hu72, rfl, d3ok, hd3, hm, rfl⟩ := hv
    obtain ⟨d3', hrd3, hd3⟩ : ∃ r, r ≤ 5 ∧ d3.v = { v1 with rd := r } := ⟨_, by show 0 + m ≤ 5; omega, hd3⟩
    simp only [List.cons_append]
    refine WL.mid ?_
    (repeat (first | refine WL.step (Yl.move rfl) rfl ?_ | refine WL.step (Yl.assign rfl) rfl ?_ | refine WL.step (Yl.extract rfl rfl) rfl ?_ | refine WC.seq ?_ | refine WC.region ?_ | refine WL.nil ?_ | refine WN.then_normal ?_))
    have eg1 : jget { v1 with rd := d3' } (wj.adds [wT1 a1 a2]) 8 = ([], false, 0) := by rw [jget_spec (k1.rd d3').calm.up (k1.rd d3').fc]; rfl
    refine WL.callS (g := 33) (A0 := jI dp.bd p s2 ++ drI dp d3) Tryz.call33 rfl (List.Perm.refl _) (fun w0 st2 st1 => jget_v 8 w0 _ d3ok hd3 s2ok hs2 eg1 (k1.rd d3').row (k1.rd d3').fc.le (by show d3' < _; omega) (old_out st2 (List.Perm.refl _) hT.o) st1) rfl fun v C hv => ?_
    obtain ⟨q8, u8, d4, m, hu81, hu82, rfl, d4ok, hd4, hm, rfl⟩ := hv
    obtain ⟨d4', hrd4, hd4⟩ : ∃ r, r ≤ 10 ∧ d4.v = { v1 with rd := r } := ⟨_, by show d3' + m ≤ 10; omega, hd4⟩
    simp only [List.cons_append]
    refine WL.mid ?_
    (repeat (first | refine WL.step (Yl.move rfl) rfl ?_ | refine WL.step (Yl.assign rfl) rfl ?_ | refine WL.step (Yl.extract rfl rfl) rfl ?_ | refine WC.seq ?_ | refine WC.region ?_ | refine WL.nil ?_ | refine WN.then_normal ?_))
    have eg2 : jget { v1 with rd := d4' } (wj.adds [wT1 a1 a2]) 4096 = ([], false, 3) := by rw [jget_spec (k1.rd d4').calm.up (k1.rd d4').fc]; rfl
    refine WL.callS (g := 33) (A0 := jI dp.bd p s2 ++ drI dp d4) Tryz.call33 rfl (List.Perm.refl _) (fun w0 st2 st1 => jget_v 4096 w0 _ d4ok hd4 s2ok hs2 eg2 (k1.rd d4').row (k1.rd d4').fc.le (by show d4' < _; omega) (old_out st2 (List.Perm.refl _) hT.o) st1) rfl fun v C hv => ?_
    obtain ⟨q9, u9, d5, m, hu91, hu92, rfl, d5ok, hd5, hm, rfl⟩ := hv
    obtain ⟨d5', hrd5, hd5⟩ : ∃ r, r ≤ 15 ∧ d5.v = { v1 with rd := r } := ⟨_, by show d4' + m ≤ 15; omega, hd5⟩
    simp only [List.cons_append]
    refine WL.mid ?_
    (repeat (first | refine WL.step (Yl.move rfl) rfl ?_ | refine WL.step (Yl.assign rfl) rfl ?_ | refine WL.step (Yl.extract rfl rfl) rfl ?_ | refine WC.seq ?_ | refine WC.region ?_ | refine WL.nil ?_ | refine WN.then_normal ?_))
    refine WL.callS (g := 18) (A0 := drI dp d5) (vs := [bptr dp.bd, .int .i64 ((2 : Nat) : Int), .int .i64 ((16 : Nat) : Int), .int .i64 1]) (R := JScanK dp { v1 with rd := d5' } (wj.adds [wT1 a1 a2])) Tryz.call18 rfl (permSc _ _ _) (fun w0 st2 st1 => jscan_k w0 (k1.rd d5') d5ok hd5 (by show d5' < _; omega) (old_out st2 (permSc _ _ _) hT.o) st1) rfl fun v C hv => ?_
    obtain ⟨p2, s3, d6, m, rfl, s3ok, hs3, d6ok, hd6, hm, rfl⟩ := hv
    have hm : m ≤ 85 := hm
    obtain ⟨d6', hrd6, hd6⟩ : ∃ r, r ≤ 100 ∧ d6.v = { v1 with rd := r } := ⟨_, by show d5' + m ≤ 100; omega, hd6⟩
    (repeat (first | refine WL.step (Yl.move rfl) rfl ?_ | refine WL.step (Yl.assign rfl) rfl ?_ | refine WL.step (Yl.extract rfl rfl) rfl ?_ | refine WC.seq ?_ | refine WC.region ?_ | refine WL.nil ?_ | refine WN.then_normal ?_))
    have k2 : Jok { v1 with rd := d6' } wn [] := jok_new ⟨k1.calm.up, k1.calm.pl⟩ k1.wf (by rw [l1]; decide) (by decide) (by decide) cl1
    refine WL.callS (g := 18) (A0 := drI dp d6) (vs := [bptr dp.bd, .int .i64 ((2 : Nat) : Int), .int .i64 ((16 : Nat) : Int), .int .i64 2]) (R := JScanK dp { v1 with rd := d6' } wn) Tryz.call18 rfl (permSc _ _ _) (fun w0 st2 st1 => jscan_k w0 k2 d6ok hd6 (by show d6' < _; omega) (old_out st2 (permSc _ _ _) hT.o) st1) rfl fun v C hv => ?_
    obtain ⟨p3, s4, d7, m, rfl, s4ok, hs4, d7ok, hd7, hm, rfl⟩ := hv
    have hm : m ≤ 85 := hm
    obtain ⟨d7', hrd7, hd7⟩ : ∃ r, r ≤ 200 ∧ d7.v = { v1 with rd := r } := ⟨_, by show d6' + m ≤ 200; omega, hd7⟩
    (repeat (first | refine WL.want rfl rfl rfl ?_ | refine WL.step (Yl.move rfl) rfl ?_ | refine WL.step (Yl.assign rfl) rfl ?_ | refine WL.step (Yl.extract rfl rfl) rfl ?_ | refine WL.step (Yl.pick_f rfl rfl rfl) rfl ?_ | refine WL.step (Yl.not rfl) rfl ?_ | refine WC.seq ?_ | refine WC.region ?_ | refine WL.nil ?_ | refine WN.then_normal ?_))
    refine WL.call (g := 53) Tryz.call53 rfl (fun w0 st2 => full_w 112 w0) rfl fun v1 B1 hv1 => ?_
    obtain ⟨a6, c6, hc6, rfl, rfl⟩ := hv1
    rw [show List.replicate 512 (112 : UInt8) = LP from rfl]
    simp only [List.cons_append, List.nil_append]
    refine WL.mid ?_
    (repeat (first | refine WL.want rfl rfl rfl ?_ | refine WL.step (Yl.move rfl) rfl ?_ | refine WL.step (Yl.pick_f rfl rfl rfl) rfl ?_ | (refine WL.k_call 47 ?_; refine WL.callV (g := 47) (v := .bool true) Tryz.call47 rfl (fun w0 st2 => by have := bequal_c (cutA q7.1 11 q7.2 1) a6 LP.length 512 (q7.2 - 11) 512 LP LP w0 rfl LP_len (by have h9 := (CellsOut.cutd (CellsAt.out (Rd.row (List.mem_append_right _ (.tail _ (List.mem_append_right _ (List.mem_append_right _ (.tail _ (.tail _ (.head _))))))) w0 st2)) 11 hu72).at_; rw [hu71] at h9; exact h9) (Rd.row (List.mem_append_right _ (.head _)) w0 st2); rw [decide_eq_true rfl] at this; exact this) rfl ?_) | refine WL.step (Yl.neqF rfl rfl rfl) rfl ?_ | refine WL.step (Yl.not rfl) rfl ?_))
    refine WL.callR (g := 34) Tryz.call34 rfl (fun w0 st2 => jpages_v [7, 9] w0 (s3ok.at_ st2 (fun x h => (List.mem_append_right _ (.tail _ (List.mem_append_left _ h))))) hs3 (wd1 a1 a2)) rfl fun q2 hq2 => ?_
    rw [ncells_z]
    refine WL.mid ?_
    (repeat (first | refine WL.want rfl rfl rfl ?_))
    refine WL.lit (t := 61) (vs := [.int .i64 7, .int .i64 9]) Tryz.underlying61 elemZ rfl rfl rfl (fun u hu => by simp at hu; rcases hu with rfl | rfl <;> rfl) rfl fun b6 => ?_
    rw [show flat [Value.int .i64 7, Value.int .i64 9] = zcells [7, 9] from rfl]
    refine WL.mid ?_
    (repeat (first | refine WL.want rfl rfl rfl ?_ | refine WL.step (Yl.move rfl) rfl ?_ | refine WL.step (Yl.pick_f rfl rfl rfl) rfl ?_ | (refine WL.k_call 40 ?_; refine WL.callV (g := 40) (v := .bool true) Tryz.call40 rfl (fun w0 st2 => by have := iequal_c q2.1 (some ⟨b6, 0, none⟩) 2 2 q2.2 2 [7, 9] [7, 9] w0 rfl rfl (by decide) (Rd.row (List.mem_append_right _ (.tail _ (.head _))) w0 st2) (Rd.row (List.mem_append_right _ (.head _)) w0 st2); exact this) rfl ?_) | refine WL.step (Yl.neq rfl rfl) rfl ?_ | refine WL.step (Yl.not rfl) rfl ?_))
    (repeat (first | refine WL.want rfl rfl rfl ?_ | refine WL.step (Yl.pick_f rfl rfl rfl) rfl ?_ | refine WL.step (Yl.neqF rfl rfl rfl) rfl ?_ | refine WL.callV (g := 35) (v := .int .i64 0) Tryz.call35 rfl (fun w0 st2 => jtx_v 0 w0 (s4ok.at_ st2 (fun x h => List.mem_append_left _ (List.mem_append_left _ h))) hs4 rfl) rfl ?_ | refine WL.nil ?_ | refine WN.then_normal ?_))
    refine WC.cond_false rfl rfl ?_
    (repeat (first | refine WL.step (Yl.move rfl) rfl ?_ | refine WC.seq ?_ | refine WC.region ?_ | refine WN.then_normal ?_ | refine WC.skip ?_))
    refine WL.call (g := 12) Tryz.call12 rfl (fun w0 st2 => jnew_v 2 16 2 w0 (d7ok.at_ st2 (fun x h => List.mem_append_left _ (List.mem_append_right _ h))) hd7 (by decide) (by decide) (by show 2 + 16 ≤ v1.d.length; rw [l1]; decide)) rfl fun v1 B1 hv1 => ?_
    obtain ⟨p4, s5, s5ok, hs5, rfl, rfl⟩ := hv1
    have hs5 : s5.v = wn := hs5
    refine WL.part (Part.perm (permSw _ _ _ _)) ?_
    (repeat (first | refine WL.want rfl rfl rfl ?_ | refine WL.step (Yl.move rfl) rfl ?_ | refine WL.step (Yl.assign rfl) rfl ?_ | refine WL.step (Yl.extract rfl rfl) rfl ?_ | refine WL.step (Yl.neqF rfl rfl rfl) rfl ?_ | refine WC.seq ?_ | refine WC.region ?_ | refine WL.nil ?_ | refine WN.then_normal ?_))
    refine WL.call (g := 53) Tryz.call53 rfl (fun w0 st2 => full_w 113 w0) rfl fun v1 B1 hv1 => ?_
    obtain ⟨a7, c7, hc7, rfl, rfl⟩ := hv1
    rw [show List.replicate 512 (113 : UInt8) = LQ from rfl]
    simp only [List.cons_append, List.nil_append]
    refine WL.mid ?_
    (repeat (first | refine WL.want rfl rfl rfl ?_ | refine WL.step (Yl.build (ps := [(0, .const (.int .i64 7)), (1, .tmp 199)]) (vs := [(0, .int .i64 7), (1, .slice a7 512 512)]) rfl (buildPg _ _ _ _)) rfl ?_))
    refine WL.lit (t := 37) (vs := [.agg #[.int .i64 7, .slice a7 512 512]]) Tryz.underlying37 elemPg rfl rfl rfl (fun u hu => by simp at hu; subst hu; rfl) rfl fun b7 => ?_
    rw [wT2_cs]
    refine WL.mid ?_
    (repeat (first | refine WL.want rfl rfl rfl ?_))
    have k3 : Jok { v1 with rd := d7' } wn [] := jok_new ⟨k1.calm.up, k1.calm.pl⟩ k1.wf (by rw [l1]; decide) (by decide) (by decide) cl1
    obtain ⟨v2, e2, k4, l2, o2, r2, _, _, _⟩ := k3.append (wT2_ok a7) (by show 0 + 5 * 1 + 1 ≤ 16; decide)
    have e2 : japp { v1 with rd := d7' } wn (wT2 a7) = (v2, wn.adds [wT2 a7], 0) := e2
    have k4 : Jok v2 wn [wT2 a7] := k4
    have r2 : v2.rd = d7' := r2
    have l2 : v2.d.length = 32 := l2.trans l1
    have o2 : v2.ops = 19 := by rw [o2]; show v1.ops + 7 = 19; rw [o1]
    refine WL.callS (g := 16) (A0 := jI dp.bd p4 s5 ++ drI dp d7) Tryz.call16 rfl (List.Perm.refl _) (fun w0 st2 st1 => jappend_v (some ⟨b7, 0, none⟩) 1 1 (wT2 a7) w0 _ d7ok hd7 s5ok hs5 e2 (by show v1.ops < _; rw [o1]; decide) rfl (by decide) (row_out st2 (List.Perm.refl _) (.head _)) (fun q hq => by simp only [wT2, List.mem_cons, List.not_mem_nil, or_false] at hq; subst hq; exact row_out st2 (List.Perm.refl _) (.tail _ (.head _))) (old_out st2 (List.Perm.refl _) hT.o) st1) rfl fun v C hv => ?_
    obtain ⟨rfl, d8, s6, d8ok, hd8, s6ok, hs6, rfl⟩ := hv
    simp only at hd8 hs6
    (repeat (first | refine WL.want rfl rfl rfl ?_ | refine WL.step (Yl.pick_f rfl rfl rfl) rfl ?_ | refine WL.step (Yl.neqF rfl rfl rfl) rfl ?_ | refine WL.nil ?_ | refine WN.then_normal ?_))
    refine WC.cond_false rfl rfl ?_
    (repeat (first | refine WL.step (Yl.move rfl) rfl ?_ | refine WC.seq ?_ | refine WC.region ?_ | refine WN.then_normal ?_ | refine WC.skip ?_))
    refine WL.callS (g := 18) (A0 := drI dp d8) (vs := [bptr dp.bd, .int .i64 ((2 : Nat) : Int), .int .i64 ((16 : Nat) : Int), .int .i64 2]) (R := JScanK dp v2 (wn.adds [wT2 a7])) Tryz.call18 rfl (permSc _ _ _) (fun w0 st2 st1 => jscan_k w0 k4 d8ok hd8 (by rw [r2]; omega) (old_out st2 (permSc _ _ _) hT.o) st1) rfl fun v C hv => ?_
    obtain ⟨p5, s7, d9, m, rfl, s7ok, hs7, d9ok, hd9, hm, rfl⟩ := hv
    have hl9 : d9.v.d.length = 32 := by rw [hd9]; exact l2
    (repeat (first | refine WL.step (Yl.move rfl) rfl ?_ | refine WL.step (Yl.assign rfl) rfl ?_ | refine WL.step (Yl.extract rfl rfl) rfl ?_ | refine WC.seq ?_ | refine WC.region ?_ | refine WL.nil ?_ | refine WN.then_normal ?_))
    refine WL.callV (g := 12) (v := .tuple #[.pointer none, .int .i64 ((3 : Nat) : Int)]) (vs := [bptr dp.bd, .int .i64 20, .int .i64 16, .int .i64 2]) Tryz.call12 rfl (fun w0 st2 => jnew_ve 20 16 2 3 w0 (d9ok.at_ st2 (fun x h => List.mem_append_left _ (List.mem_append_right _ h))) rfl (by rw [hl9]; decide) (by decide)) rfl ?_
    (repeat (first | refine WL.step (Yl.move rfl) rfl ?_ | refine WL.step (Yl.assign rfl) rfl ?_ | refine WL.step (Yl.extract rfl rfl) rfl ?_ | refine WC.seq ?_ | refine WC.region ?_ | refine WL.nil ?_ | refine WN.then_normal ?_))
    refine WL.callV (g := 12) (v := .tuple #[.pointer none, .int .i64 ((2 : Nat) : Int)]) (vs := [bptr dp.bd, .int .i64 2, .int .i64 16, .int .i64 0]) Tryz.call12 rfl (fun w0 st2 => jnew_ve 2 16 0 2 w0 (d9ok.at_ st2 (fun x h => List.mem_append_left _ (List.mem_append_right _ h))) rfl (by rw [hl9]; decide) (by decide)) rfl ?_
    (repeat (first | refine WL.want rfl rfl rfl ?_ | refine WL.step (Yl.move rfl) rfl ?_ | refine WL.step (Yl.assign rfl) rfl ?_ | refine WL.step (Yl.extract rfl rfl) rfl ?_ | refine WL.step (Yl.eqlT rfl rfl rfl) rfl ?_ | refine WC.seq ?_ | refine WC.region ?_ | refine WL.nil ?_ | refine WN.then_normal ?_))
    refine WL.callR (g := 34) Tryz.call34 rfl (fun w0 st2 => jpages_v [7] w0 (s7ok.at_ st2 (fun x h => List.mem_append_left _ (List.mem_append_left _ h))) hs7 (wd2 a7)) rfl fun q3 hq3 => ?_
    rw [ncells_z]
    refine WL.mid ?_
    (repeat (first | refine WL.want rfl rfl rfl ?_))
    refine WL.lit (t := 61) (vs := [.int .i64 7]) Tryz.underlying61 elemZ rfl rfl rfl (fun u hu => by simp at hu; subst hu; rfl) rfl fun b8 => ?_
    rw [show flat [Value.int .i64 7] = zcells [7] from rfl]
    refine WL.mid ?_
    (repeat (first | refine WL.want rfl rfl rfl ?_ | refine WL.step (Yl.move rfl) rfl ?_ | refine WL.step (Yl.pick_t rfl rfl rfl) rfl ?_ | (refine WL.k_call 40 ?_; refine WL.callV (g := 40) (v := .bool true) Tryz.call40 rfl (fun w0 st2 => by have := iequal_c q3.1 (some ⟨b8, 0, none⟩) 1 1 q3.2 1 [7] [7] w0 rfl rfl (by decide) (Rd.row (List.mem_append_right _ (.tail _ (.head _))) w0 st2) (Rd.row (List.mem_append_right _ (.head _)) w0 st2); exact this) rfl ?_) | refine WL.callV (g := 36) (v := .int .i64 6) Tryz.call36 rfl (fun w0 st2 => jused_v 6 w0 (s7ok.at_ st2 (fun x h => List.mem_append_left _ (List.mem_append_left _ h))) hs7 rfl) rfl ?_ | refine WL.step (Yl.eqlT rfl rfl rfl) rfl ?_))
    refine WL.part (Part.perm (permX _ _ _ _ _ _)) ?_
    refine WL.callS (g := 16) (A0 := jI dp.bd p4 s6 ++ drI dp d9) (vs := [bptr p4.bj, .slice none 0 0]) (R := JAppV dp p4 (d9.v, wn.adds [wT2 a7], 2)) Tryz.call16 rfl (List.Perm.refl _) (fun w0 st2 st1 => jappend_v none 0 0 [] w0 _ d9ok rfl s6ok hs6 (japp_arg (by decide)) (by rw [hd9]; show v2.ops < _; rw [o2]; decide) rfl (by decide) (.inl rfl) (fun q hq => by cases hq) (old_out st2 (List.Perm.refl _) hT.o) st1) rfl fun v C hv => ?_
    obtain ⟨rfl, d10, s8, d10ok, hd10, s8ok, hs8, rfl⟩ := hv
    simp only at hd10 hs8
    (repeat (first | refine WL.want rfl rfl rfl ?_ | refine WL.step (Yl.move rfl) rfl ?_ | refine WL.step (Yl.pick_t rfl rfl rfl) rfl ?_ | refine WL.step (Yl.eqlT rfl rfl rfl) rfl ?_))
    refine WL.call (g := 53) Tryz.call53 rfl (fun w0 st2 => full_w 112 w0) rfl fun v1 B1 hv1 => ?_
    obtain ⟨a8, c8, hc8, rfl, rfl⟩ := hv1
    rw [show List.replicate 512 (112 : UInt8) = LP from rfl]
    simp only [List.cons_append, List.nil_append]
    refine WL.mid ?_
    (repeat (first | refine WL.want rfl rfl rfl ?_ | refine WL.step (Yl.build (ps := [(0, .const (.int .i64 9)), (1, .tmp 248)]) (vs := [(0, .int .i64 9), (1, .slice a8 512 512)]) rfl (buildPg _ _ _ _)) rfl ?_))
    refine WL.call (g := 53) Tryz.call53 rfl (fun w0 st2 => full_w 112 w0) rfl fun v1 B1 hv1 => ?_
    obtain ⟨a9, c9, hc9, rfl, rfl⟩ := hv1
    rw [show List.replicate 512 (112 : UInt8) = LP from rfl]
    simp only [List.cons_append, List.nil_append]
    refine WL.mid ?_
    (repeat (first | refine WL.want rfl rfl rfl ?_ | refine WL.step (Yl.build (ps := [(0, .const (.int .i64 7)), (1, .tmp 250)]) (vs := [(0, .int .i64 7), (1, .slice a9 512 512)]) rfl (buildPg _ _ _ _)) rfl ?_))
    refine WL.lit (t := 37) (vs := [.agg #[.int .i64 9, .slice a8 512 512], .agg #[.int .i64 7, .slice a9 512 512]]) Tryz.underlying37 elemPg rfl rfl rfl (fun u hu => by simp at hu; rcases hu with rfl | rfl <;> rfl) rfl fun b9 => ?_
    rw [wT3_cs]
    refine WL.mid ?_
    (repeat (first | refine WL.want rfl rfl rfl ?_))
    refine WL.callS (g := 16) (A0 := jI dp.bd p4 s8 ++ drI dp d10) (vs := [bptr p4.bj, .slice (some ⟨b9, 0, none⟩) 2 2]) (R := JAppV dp p4 (d9.v, wn.adds [wT2 a7], 2)) Tryz.call16 rfl (List.Perm.refl _) (fun w0 st2 st1 => jappend_v (some ⟨b9, 0, none⟩) 2 2 (wT3 a8 a9) w0 _ d10ok hd10 s8ok hs8 (japp_arg (by rw [wT3_no]; decide)) (by rw [hd9]; show v2.ops < _; rw [o2]; decide) rfl (by decide) (row_out st2 (List.Perm.refl _) (.head _)) (fun q hq => by simp only [wT3, List.mem_cons, List.not_mem_nil, or_false] at hq; rcases hq with rfl | rfl; exact row_out st2 (List.Perm.refl _) (.tail _ (.tail _ (.head _))); exact row_out st2 (List.Perm.refl _) (.tail _ (.head _))) (old_out st2 (List.Perm.refl _) hT.o) st1) rfl fun v C hv => ?_
    obtain ⟨rfl, d11, s9, d11ok, hd11, s9ok, hs9, rfl⟩ := hv
    (repeat (first | refine WL.want rfl rfl rfl ?_ | refine WL.step (Yl.assign rfl) rfl ?_ | refine WL.step (Yl.pick_t rfl rfl rfl) rfl ?_ | refine WL.step (Yl.eqlT rfl rfl rfl) rfl ?_ | refine WL.nil ?_ | refine WN.then_normal ?_ | refine WC.ret ?_))
    exact WN.ret1 rfl rfl ⟨rfl, rfl⟩ .nil
end Go.Proofs.YtbkdjfgkebkknaaGreatDoor
namespace Go.Proofs.YtbkdjfgkebkknaaGreatDoor
set_option linter.unusedVariables false
set_option linter.unusedSimpArgs false
open Go Go.RowKit
set_option maxRecDepth 100000
set_option maxHeartbeats 8000000
theorem permU {A B : List HA} (h : ∀ [BEq HA] [LawfulBEq HA] (u : HA), A.count u = B.count u) : A.Perm B := by
  classical
  exact List.perm_iff_count.2 fun u => h u
structure Tr where
  a : Option Addr
  c : Nat
  nos : List UInt8
  fill : UInt8
def Tr.cs (t : Tr) : List Value := [.slice t.a t.nos.length t.c, bv t.fill]
def Tr.v (t : Tr) : Value := .agg #[.slice t.a t.nos.length t.c, bv t.fill]
structure Tr.Ok (t : Tr) (w : World) : Prop where
  c : t.nos.length ≤ t.c
  m : t.c ≤ 9223372036854775807
  r : CellsAt w t.a (bs t.nos)
theorem Tr.Ok.keep {t : Tr} {w w' : World} (h : t.Ok w) (k : Kept w [] w') : t.Ok w' := ⟨h.c, h.m, h.r.keep k⟩
theorem Jok.get {v : DV} {j0 : JV} {Ts : List (List Pg)} (h : Jok v j0 Ts) (r : Nat) (no : Nat) (hn : no < 4096) : jget { v with rd := r } (j0.adds Ts) (no : Int) = getR (noC.adds Ts) no := by
  rw [jget_spec (h.rd r).calm.up (h.rd r).fc, if_neg (by omega), Int.toNat_natCast]
  rfl
theorem inf_out {w0 w : World} {S : List Nat} {A A0 B Z : List HA} {s : Sl} (h : InF Z s) (hz : ∀ x ∈ Z, x ∈ B) (st : St w0 S A w) (hp : A.Perm (A0 ++ B)) : CellsOut w (A0.filterMap HA.foot) s.a (bs s.l) := (h.mono hz).out st hp
section
variable {dp : DP} {ds : DS} {p : JP} {s : JS} {S : List Nat}
end
end Go.Proofs.YtbkdjfgkebkknaaGreatDoor
namespace Go.Proofs.YtbkdjfgkebkknaaGreatDoor
set_option linter.unusedVariables false
set_option linter.unusedSimpArgs false
open Go Go.RowKit
set_option maxRecDepth 100000
set_option maxHeartbeats 8000000
theorem CellsOut.take {w : World} {S : List Nat} {a : Option Addr} {vs : List Value} (h : CellsOut w S a vs) (n : Nat) : CellsOut w S a (vs.take n) := by
  rcases h with h | ⟨b, off, h1, h2, h3⟩
  · subst h; exact .inl (by simp)
  · refine .inr ⟨b, off, h1, h2, fun i v hv => h3 i v ?_⟩
    rw [List.getElem?_take] at hv
    split at hv
    · exact hv
    · cases hv
section
variable {X : Cx} {ops : Array Oper} {Q : Exit → Act → World → Prop} {ρ : Env} {A B : List HA} {rest : List Oper}
theorem part_to {A B D : List HA} (h : A.Perm (D ++ B)) : Part A B := by
  induction B generalizing A with
  | nil => exact .nil
  | cons x B ih =>
    obtain ⟨L, R, hL⟩ := List.append_of_mem (h.mem_iff.2 (List.mem_append_right D (.head _)))
    subst hL
    have hp : Pick x (L ++ x :: R) (L ++ R) := by
      clear h ih
      induction L with
      | nil => exact .here
      | cons y L ih => exact .there ih
    exact .cons hp (ih (List.Perm.cons_inv ((List.perm_middle.symm.trans h).trans List.perm_middle)))
theorem WC.perm {c : Code} (hp : A.Perm B) (h : WC X c Q ρ B) : WC X c Q ρ A := fun a w f s => h a w f (s.part (Part.perm hp))
end
attribute [local irreducible] WL WC WN Yl WH WQ WT WE WU WG WV
theorem pgs_one (L : List Pg) : ∀ u ∈ pgs L, u.oneCell' = true := fun u h => by
  obtain ⟨q, _, hq⟩ := List.mem_flatMap.1 h
  simp only [Pg.cs, List.mem_cons, List.not_mem_nil, or_false] at hq
  rcases hq with rfl | rfl <;> rfl
end Go.Proofs.YtbkdjfgkebkknaaGreatDoor
