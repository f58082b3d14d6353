import Derived.Test.YtbkdjfgkebkknaaGreatDoorRowJournalRowsMg14
import Derived.Test.YtbkdjfgkebkknaaGreatDoorRowJournalRowsMg5
import Derived.Test.YtbkdjfgkebkknaaGreatDoorRowJournalRowsMg8
import Derived.Test.YtbkdjfgkebkknaaGreatDoorRowJournalRowsMg7
namespace Go.Proofs.YtbkdjfgkebkknaaGreatDoor
set_option linter.unusedVariables false
set_option linter.unusedSimpArgs false
open Go Go.RowKit
set_option maxRecDepth 100000
set_option maxHeartbeats 8000000
theorem jrd_up {v : DV} {j : JV} {at_ : Nat} (h : v.down = false) : jrd v j at_ = ({ v with rd := v.rd + rdn j at_ }, Frm.dec (rowB v (j.first + at_) (rdn j at_)) j.ep) := by
  rw [jrd, if_neg (by rw [h]; simp)]
theorem rd_view (v : DV) (i : Nat) (h : v.down = false) (hw : BkWf v.d v.F) {k : Nat} (hk : k < v.d.length) : (({ v with rd := v.rd + i } : DV).read (k : Int)) = ({ v with rd := v.rd + (i + 1) }, readR v.d v.F (k : Int)) := by
  rw [DV.read, if_neg (by simp [h])]
  simp only
  rw [if_pos (readR_at hw hk).2.1]
  rfl
theorem permJ4 (x y z t : HA) (D : List HA) : (x :: y :: z :: t :: D).Perm (D ++ [x, y, z, t]) := List.perm_append_comm (l₁ := [x, y, z, t])
theorem permJ5 (g x y z t : HA) (D : List HA) : ((g :: D) ++ [x, y, z, t]).Perm (x :: y :: z :: t :: g :: D) := by
  classical
  rw [List.perm_iff_count]; intro u; simp only [List.count_append, List.count_cons, List.count_nil]; omega
attribute [local irreducible] WL WC WN Yl WH WQ WT WE WU WG WV
section
variable {dp : DP} {ds : DS} {p : JP} {s : JS} {S : List Nat}
theorem jread_r (at_ : Nat) (w : World) (dok : ds.Ok dp) (jok : s.Ok) (hrow : s.v.first + s.v.n ≤ ds.d.length) (hat : at_ ≤ 100000) (hrd : ds.rd < 2305843009213693952) (hT : TabO w S) (st : St w S (jI dp.bd p s ++ drI dp ds) w) :
    Calls Tryz.prog 66 #[bptr p.bj, .int .i64 (at_ : Int)] w (GivesS S (JReadV dp p s (jrd ds.v s.v at_)) w) := by
  have hwf : BkWf ds.v.d ds.v.F := dok.wf
  have hle := dok.wf.le
  have hrow2 := jok.row
  have hrd5 : ds.v.rd + 5 < 4611686018427387904 := by show ds.rd + 5 < _; omega
  refine enterS (args := [.pointer (some ⟨p.bj, 0, none⟩), _]) Tryz.func66 Tryz.ntmps66 rfl rfl st ?_
  simp only [jI, List.cons_append, List.nil_append]
  (repeat (first | refine WC.seq ?_ | refine WC.region ?_))
  refine WL.allocA Tryz.zeroValue121 rfl fun b4 => ?_
  (repeat (first | refine WL.step (Yl.move rfl) rfl ?_ | refine WL.step (Yl.assign rfl) rfl ?_ | refine WC.seq ?_ | refine WC.region ?_ | refine WL.nil ?_ | refine WN.then_normal ?_ | refine WC.block ?_))
  refine WC.loop (α := Nat × DS × (Option Addr × Nat)) (fun g => [(0, .pointer (some ⟨p.bj, 0, none⟩)), (1, .int .i64 (at_ : Int)), (4, .pointer (some ⟨b4, 0, none⟩)), (5, .int .i64 0), (6, .int .i64 0), (7, .slice g.2.2.1 (128 * g.1) g.2.2.2), (8, .int .i64 ((at_ + g.1 : Nat) : Int))])
    (fun g => .blk p.bj (jO dp.bd p s.v) :: .blk p.bm (mobj encP s.M s.c) :: .blk b4 (.cells #[.int .i64 0, .int .i64 0, .int .i64 0, .int .i64 0, .int .i64 0, .slice none 0 0] 121 (0, 0)) :: .row g.2.2.1 g.2.2.2 5 1 (bs (rowB ds.v (s.v.first + at_) g.1)) :: drI dp g.2.1)
    (fun g => g.1 ≤ rdn s.v at_ ∧ g.2.1.Ok dp ∧ g.2.1.v = { ds.v with rd := ds.v.rd + g.1 } ∧ 128 * g.1 ≤ g.2.2.2 ∧ (ds.v.down = true → g.1 = 0)) (fun g => rdn s.v at_ - g.1) (0, ds, (none, 0)) zS (.cons (.there .here) (.cons (.there .here) (.cons .here (.free (Part.refl _))))) ⟨Nat.zero_le _, dok, rfl, Nat.le_refl _, fun _ => rfl⟩ ?_
  rintro ⟨i, d1, r⟩ ⟨hi, d1ok, hd1, hr, hdn⟩
  simp only at hi d1ok hd1 hr hdn ⊢
  have hi2 := hi
  unfold rdn at hi
  (repeat (first | refine WL.step (Yl.move rfl) rfl ?_ | (refine WL.k_load ?_; refine WL.step (Yl.loadBlk (T := 3) Tryz.isAgg3 rfl zH (by rfl)) rfl ?_) | (refine WL.k_fld ?_; refine WL.step (Yl.fldN0 (i := 2) (o := 2) (by kernel_rfl) rfl) rfl ?_) | refine WL.step (Yl.nilCheck rfl) rfl ?_ | refine WL.step (Yl.min2N rfl rfl) rfl ?_ | refine WL.step (Yl.lss rfl rfl) rfl ?_ | (refine WL.k_bin .add ?_; refine WL.step (Yl.add64C rfl (by omega)) rfl ?_) | refine WC.seq ?_ | refine WC.region ?_ | refine WL.nil ?_ | refine WN.then_normal ?_))
  refine WC.ite rfl (fun h1 => ?_) (fun h1 => ?_)
  · have him : at_ + i < min (at_ + 5) s.v.n := by omega
    have hk : s.v.first + at_ + i < ds.v.d.length := by show _ < ds.d.length; omega
    have hrd2 : (({ ds.v with rd := ds.v.rd + i } : DV)).rd < 4611686018427387904 := by show ds.v.rd + i < _; omega
    (repeat (first | refine WC.seq ?_ | refine WN.then_normal ?_ | refine WC.block ?_ | refine WC.skip ?_))
    refine WC.regionH [.blk p.bj (jO dp.bd p s.v)] (by kernel_rfl) ?_
    (refine WH.order [0, 1, 2, 3, 4, 5, 6, 7, 8, 9] (by repeat (first | exact Part.nil | refine Part.cons zK ?_ | refine Part.free ?_)) (by kernel_rfl) ?_; (repeat (first | (refine WT.k_move rfl ?_; refine WT.take rfl rfl (fun _ _ _ h => h) (Yl.move rfl) rfl (by kernel_rfl) (by kernel_rfl) ?_) | (refine WT.k_load rfl ?_; first | refine WT.take rfl rfl (fun _ _ _ h => h) (Yl.loadBlk (T := 26) Tryz.isAgg26 rfl zH (by rfl)) rfl (by kernel_rfl) (by kernel_rfl) ?_ | refine WT.take rfl rfl (fun _ _ _ h => h) (Yl.loadBlk (T := 3) Tryz.isAgg3 rfl zH (by rfl)) rfl (by kernel_rfl) (by kernel_rfl) ?_) | (refine WT.k_fld rfl ?_; first | refine WT.take rfl rfl (fun _ _ _ h => h) (Yl.fldN0 (i := 0) (o := 0) (by kernel_rfl) rfl) rfl (by kernel_rfl) (by kernel_rfl) ?_ | refine WT.take rfl rfl (fun _ _ _ h => h) (Yl.fldN0 (i := 1) (o := 1) (by kernel_rfl) rfl) rfl (by kernel_rfl) (by kernel_rfl) ?_) | (refine WT.k_nilc rfl ?_; refine WT.take rfl rfl (fun _ _ _ h => h) (Yl.nilCheck rfl) rfl (by kernel_rfl) (by kernel_rfl) ?_) | (refine WT.k_bin .add rfl ?_; refine WT.take rfl rfl (fun _ _ _ h => h) (Yl.add64N rfl rfl (by omega)) rfl (by kernel_rfl) (by kernel_rfl) ?_))); refine WT.nil ?_)
    refine WH.only (i := 10) (by kernel_rfl) rfl ?_
    rw [show ((s.v.first + (at_ + i) : Nat) : Int) = ((s.v.first + at_ + i : Nat) : Int) by omega]
    refine WL.callS (g := 37) (A0 := drI dp d1) (B := [_, _, _, _]) Tryz.call37 rfl (permJ4 _ _ _ _ _) (fun w0 st2 st1 => dread_v ((s.v.first + at_ + i : Nat) : Int) w0 d1ok hd1 hrd2 st1) rfl fun v C hv => ?_
    obtain ⟨ra, rc, hrc, rfl, d2, d2ok, hd2, rfl⟩ := hv
    refine WL.part (Part.perm (permJ5 _ _ _ _ _ _)) ?_
    refine WL.nil (WN.nextH (.cons .here .nil) ?_)
    (refine WH.order [11, 12, 13, 14, 15] (by repeat (first | exact Part.nil | refine Part.cons zK ?_ | refine Part.free ?_)) (by kernel_rfl) ?_; (repeat (first | (refine WT.k_move rfl ?_; refine WT.take rfl rfl (fun _ _ _ h => h) (Yl.move rfl) rfl (by kernel_rfl) (by kernel_rfl) ?_) | (refine WT.k_assign rfl ?_; refine WT.take rfl rfl (fun _ _ _ h => h) (Yl.assign rfl) rfl (by kernel_rfl) (by kernel_rfl) ?_) | (refine WT.k_extract rfl ?_; refine WT.take rfl rfl (fun _ _ _ h => h) (Yl.extract rfl rfl) rfl (by kernel_rfl) (by kernel_rfl) ?_))); refine WT.nil ?_)
    refine WH.done (by kernel_rfl) ?_
    by_cases e : ds.v.down = true
    · have hi0 := hdn e
      subst hi0
      have hv : (({ ds.v with rd := ds.v.rd + 0 } : DV)).read ((s.v.first + at_ + 0 : Nat) : Int) = (ds.v, ([], 11)) := by rw [DV.read, if_pos (by exact e)]; rfl
      rw [hv] at hd2 hrc ⊢
      (repeat (first | refine WL.step (Yl.move rfl) rfl ?_ | refine WL.step (Yl.neq rfl rfl) rfl ?_ | refine WC.seq ?_ | refine WC.region ?_ | refine WL.nil ?_ | refine WN.then_normal ?_))
      refine WC.cond_true rfl rfl ?_
      (repeat (first | refine WL.step (Yl.move rfl) rfl ?_ | refine WL.step (Yl.build (ps := []) (vs := []) rfl buildF0) rfl ?_ | refine WC.seq ?_ | refine WC.region ?_))
      refine WL.storeWhole (T := 121) (k := 6) Tryz.sizeOf121 rfl rfl rfl (.there (.there .here)) rfl rfl ?_
      (repeat (first | refine WL.step (Yl.assign rfl) rfl ?_ | refine WL.nil ?_ | refine WN.then_normal ?_ | refine WC.ret ?_ | refine WN.then_ret ?_ | refine WN.block_ret ?_))
      refine WN.ret3CS rfl Tryz.isAgg121 Tryz.sizeOf121 rfl rfl rfl zH rfl ⟨[.row none 0 5 1 []], d2, ?_, d2ok, ?_, rfl⟩ ?_
      · rw [jrd, if_pos ⟨e, by unfold rdn; omega⟩]
        exact Decoded.bad 11
      · rw [hd2, jrd, if_pos ⟨e, by unfold rdn; omega⟩]
      · exact .free (.cons (.there .here) (.cons (.there .here) (.more (.more (.more (Part.refl _))))))
    · have e : ds.v.down = false := by simpa using e
      have hv := rd_view ds.v i e hwf hk
      have hrl := (readR_at hwf hk).2.2
      have hro := (readR_at hwf hk).2.1
      rw [hv] at hd2 hrc ⊢
      rw [hro]
      (repeat (first | refine WL.step (Yl.move rfl) rfl ?_ | refine WL.step (Yl.neqF rfl rfl rfl) rfl ?_ | refine WC.seq ?_ | refine WC.region ?_ | refine WL.nil ?_ | refine WN.then_normal ?_))
      refine WC.cond_false rfl rfl ?_
      (repeat (first | refine WL.step (Yl.move rfl) rfl ?_ | refine WC.region ?_ | refine WN.then_normal ?_ | refine WC.skip ?_))
      have hrb := rowB_len hwf (a := s.v.first + at_) (k := i) (by omega)
      refine WL.appendRow (n := 128 * i) (m := 128) (olds := bs (rowB ds.v (s.v.first + at_) i)) (news := bs (readR ds.v.d ds.v.F ((s.v.first + at_ + i : Nat) : Int)).1) Tryz.underlying23 elemU8 rfl (by rw [← hrl]; rfl) (.there (.there (.there .here))) (by rw [bs_length, hrb, Nat.mul_one]) hr (Rd.row (a := ra) (cap := rc) (T := 151) (k := 1) (.tail _ (.tail _ (.tail _ (.tail _ (.head _)))))) (by rw [bs_length, hrl]) (bs_one _) (by omega) (by simp only [maxLen]; omega) rfl fun q hq => ?_
      rw [show bs (rowB ds.v (s.v.first + at_) i) ++ bs (readR ds.v.d ds.v.F ((s.v.first + at_ + i : Nat) : Int)).1 = bs (rowB ds.v (s.v.first + at_) (i + 1)) by rw [rowB_succ, bs_append]]
      rw [show 128 * i + 128 = 128 * (i + 1) by omega] at hq ⊢
      (repeat (first | refine WL.step (Yl.move rfl) rfl ?_ | refine WL.step (Yl.assign rfl) rfl ?_ | (refine WL.k_bin .add ?_; refine WL.step (Yl.add64C rfl (by omega)) rfl ?_) | refine WC.region ?_ | refine WL.nil ?_ | refine WN.then_normal ?_ | refine WN.block_normal ?_))
      refine WN.next (i + 1, d2, q) ⟨by simp only [rdn]; omega, d2ok, hd2, hq, fun h => by rw [e] at h; cases h⟩ (by simp only [rdn]; omega) zS (.cons (.there .here) (.cons (.there .here) (.cons (.there .here) (.cons .here (.more (Part.refl _))))))
  · have hin : i = rdn s.v at_ := by unfold rdn; omega
    have hrb : (rowB ds.v (s.v.first + at_) i).length = 128 * i := by
      rcases Nat.eq_zero_or_pos i with h | h
      · subst h; rfl
      · exact rowB_len hwf (by show _ ≤ ds.d.length; omega)
    have hjr : jrd ds.v s.v at_ = ({ ds.v with rd := ds.v.rd + i }, Frm.dec (rowB ds.v (s.v.first + at_) i) s.v.ep) := by
      rw [jrd, if_neg (fun ⟨h, h2⟩ => by have := hdn h; omega), ← hin]
    rw [hjr]
    (repeat (first | refine WL.step (Yl.move rfl) rfl ?_ | (refine WL.k_load ?_; refine WL.step (Yl.loadBlk (T := 2) Tryz.isAgg2 rfl zH (by rfl)) rfl ?_) | (refine WL.k_fld ?_; refine WL.step (Yl.fldN0 (i := 3) (o := 3) (by kernel_rfl) rfl) rfl ?_) | refine WL.step (Yl.nilCheck rfl) rfl ?_ | refine WC.seq ?_ | refine WC.region ?_ | refine WN.then_normal ?_ | refine WC.exit ?_ | refine WN.then_exit ?_ | refine WN.block_here ?_))
    refine WL.call (g := 114) Tryz.call114 rfl (fun w0 st2 => decode_c s.v.ep r.1 (128 * i) r.2 (rowB ds.v (s.v.first + at_) i) w0 (Rd.out hT w0 st2) hrb hr (by omega) (Rd.row (.tail _ (.tail _ (.tail _ (.head _)))) w0 st2)) rfl fun v B hv => ?_
    obtain ⟨q, uu, h1u, h2u, h3u, rfl, rfl⟩ := hv
    rw [List.singleton_append]
    (repeat (first | refine WL.step (Yl.extract rfl rfl) rfl ?_))
    refine WL.storeWhole (T := 121) (k := 6) Tryz.sizeOf121 rfl rfl rfl (.there (.there (.there .here))) rfl rfl ?_
    (repeat (first | refine WL.step (Yl.assign rfl) rfl ?_ | refine WL.nil ?_ | refine WN.then_normal ?_ | refine WC.ret ?_))
    refine WN.ret3CS rfl Tryz.isAgg121 Tryz.sizeOf121 rfl rfl rfl zH rfl ⟨_, d1, ⟨q, uu, h1u, h2u, h3u, rfl, rfl⟩, d1ok, hd1, rfl⟩ (.cons (.there .here) (.cons (.there .here) (.cons (.there .here) (.more (.more (Part.refl _))))))
end
end Go.Proofs.YtbkdjfgkebkknaaGreatDoor
namespace Go.Proofs.YtbkdjfgkebkknaaGreatDoor
set_option linter.unusedVariables false
set_option linter.unusedSimpArgs false
open Go Go.RowKit
set_option maxRecDepth 100000
set_option maxHeartbeats 8000000
def ovr {β : Type} (F G : Nat → Option β) : Nat → Option β := fun k => match G k with | some v => some v | none => F k
theorem inj_of {α β : Type} {f : α → β} : ∀ {L : List α}, (L.map f).Nodup → ∀ {x y : α}, x ∈ L → y ∈ L → f x = f y → x = y
  | [], _, _, _, h, _, _ => by cases h
  | a :: L, hn, x, y, hx, hy, e => by
    rw [List.map_cons, List.nodup_cons] at hn
    rcases List.mem_cons.1 hx with rfl | hx
    · rcases List.mem_cons.1 hy with rfl | hy
      · rfl
      · exact absurd (List.mem_map.2 ⟨y, hy, e.symm⟩) hn.1
    · rcases List.mem_cons.1 hy with h2 | hy
      · exact absurd (List.mem_map.2 ⟨x, hx, by rw [e, h2]⟩) hn.1
      · exact inj_of hn.2 hx hy e
theorem filter_lt {α : Type} {p q : α → Bool} (hpq : ∀ x, q x = true → p x = true) : ∀ {L : List α} {a : α}, a ∈ L → p a = true → q a = false → (L.filter q).length < (L.filter p).length
  | [], _, h, _, _ => by cases h
  | b :: L, a, h, h1, h2 => by
    have hle : (L.filter q).length ≤ (L.filter p).length := by
      clear h
      induction L with
      | nil => exact Nat.le_refl _
      | cons c L ih =>
        rw [List.filter_cons, List.filter_cons]
        cases hq : q c with
        | true => rw [if_pos rfl, if_pos (hpq c hq)]; simp only [List.length_cons]; omega
        | false =>
          rw [if_neg (by simp)]
          split
          · simp only [List.length_cons]; omega
          · exact ih
    rcases List.mem_cons.1 h with rfl | h
    · rw [List.filter_cons, List.filter_cons, if_neg (by simp [h2]), if_pos h1, List.length_cons]; omega
    · have ih := filter_lt hpq h h1 h2
      rw [List.filter_cons, List.filter_cons]
      cases hq : q b with
      | true => rw [if_pos rfl, if_pos (hpq b hq)]; simp only [List.length_cons]; omega
      | false =>
        rw [if_neg (by simp)]
        split
        · simp only [List.length_cons]; omega
        · exact ih
structure Laid {β : Type} (F : Nat → Option β) (M2 : List (Nat × β × Nat)) (seen : Array Nat) (F' : Nat → Option β) : Prop where
  new : ∀ e ∈ M2, seen.contains e.2.2 = true → F' e.1 = some e.2.1
  old : ∀ k, (∀ e ∈ M2, e.1 = k → seen.contains e.2.2 = false) → F' k = F k
theorem Laid.step {β : Type} {n c : Nat} {F G F' : Nat → Option β} {M2 : List (Nat × β × Nat)} {seen : Array Nat} (hM : MapIs n G M2 c) (h : Laid F M2 seen F') {e : Nat × β × Nat} (he : e ∈ M2) (hs : seen.contains e.2.2 = false) : Laid F M2 (seen.push e.2.2) (setF F' e.1 (some e.2.1)) := by
  refine ⟨fun e2 he2 h2 => ?_, fun k hk => ?_⟩
  · by_cases e3 : e2 = e
    · subst e3; simp [setF]
    · have h4 : e2.1 ≠ e.1 := fun h5 => e3 (inj_of hM.keys he2 he h5)
      have h6 : e2.2.2 ≠ e.2.2 := fun h5 => e3 (inj_of hM.borns he2 he h5)
      rw [setF, if_neg h4]
      refine h.new e2 he2 ?_
      simp only [Array.contains_eq_mem, Array.mem_push, decide_eq_true_eq] at h2 ⊢
      rcases h2 with h2 | h2
      · exact h2
      · exact absurd h2 h6
  · have h4 : k ≠ e.1 := fun h5 => by
      have := hk e he h5.symm
      simp at this
    rw [setF, if_neg h4]
    refine h.old k fun e2 he2 h5 => ?_
    have := hk e2 he2 h5
    simp only [Array.contains_eq_mem, Array.mem_push, decide_eq_false_iff_not, not_or] at this ⊢
    exact this.1
theorem Laid.all {β : Type} {n c : Nat} {F G F' : Nat → Option β} {M2 : List (Nat × β × Nat)} {seen : Array Nat} (hM : MapIs n G M2 c) (h : Laid F M2 seen F') (ha : ∀ e ∈ M2, seen.contains e.2.2 = true) : F' = ovr F G := by
  funext k
  unfold ovr
  cases hg : G k with
  | some v =>
    obtain ⟨b, hb⟩ := (hM.get k v).1 hg
    exact h.new _ hb (ha _ hb)
  | none =>
    refine h.old k fun e he h2 => ?_
    have := (hM.get e.1 e.2.1).2 ⟨e.2.2, he⟩
    rw [h2, hg] at this; cases this
def CopyMV (bm bp : Nat) (F G : Nat → Option Pc) (M2 : List (Nat × Pc × Nat)) (c2 : Nat) : Value → List HA → Prop := fun u B => u = .tuple #[] ∧ ∃ M' c', MapIs 4096 (ovr F G) M' c' ∧ B = [.blk bm (mobj encP M' c'), .blk bp (mobj encP M2 c2)]
def JV.commit (v : JV) (G : Nat → Option Pc) (e : Nat) : JV := { v with F := ovr v.F G, tx := v.tx + 1, used := e }
def CommV (bd : Nat) (p : JP) (bp : Nat) (v : JV) (M2 : List (Nat × Pc × Nat)) (c2 : Nat) : Value → List HA → Prop := fun u B => u = .tuple #[] ∧ ∃ s' : JS, s'.v = v ∧ MapIs 4096 s'.v.F s'.M s'.c ∧ B = jI bd p s' ++ [.blk bp (mobj encP M2 c2)]
attribute [local irreducible] WL WC WN Yl WH WQ WT WE WU WG WV
section
variable {S : List Nat}
theorem mcopy_r (bm bp : Nat) (F G : Nat → Option Pc) (M M2 : List (Nat × Pc × Nat)) (c c2 : Nat) (w : World) (hM : MapIs 4096 F M c) (hM2 : MapIs 4096 G M2 c2) (st : St w S [.blk bm (mobj encP M c), .blk bp (mobj encP M2 c2)] w) :
    Calls Tryz.prog 112 #[.map (some bm), .map (some bp)] w (GivesS S (CopyMV bm bp F G M2 c2) w) := by
  refine enterS (args := [_, _]) Tryz.func112 Tryz.ntmps112 rfl rfl st ?_
  (repeat (first | refine WL.step (Yl.move rfl) rfl ?_ | refine WC.seq ?_ | refine WC.region ?_))
  refine WL.rangeMap (enc := encP) (M := M2) (c := c2) (b := bp) Tryz.underlying77 rfl (Has.mem (.tail _ (.head _))) rfl fun r => ?_
  (repeat (first | refine WL.nil ?_ | refine WN.then_normal ?_ | refine WC.block ?_))
  refine WC.loop (α := Array Nat × List (Nat × Pc × Nat) × Nat × (Nat → Option Pc)) (fun _ => [(0, .map (some bm)), (7, .pointer (some ⟨r, 0, none⟩))]) (fun g => [.blk r (iter bp c2 g.1), .blk bm (mobj encP g.2.1 g.2.2.1), .blk bp (mobj encP M2 c2)])
    (fun g => MapIs 4096 g.2.2.2 g.2.1 g.2.2.1 ∧ Laid F M2 g.1 g.2.2.2) (fun g => (M2.filter fun e => !g.1.contains e.2.2).length) (#[], M, c, F) zS (Part.refl _) ⟨hM, ⟨fun e _ h => by simp at h, fun _ _ => rfl⟩⟩ ?_
  rintro ⟨seen, M1, c1, F1⟩ ⟨hM1, hL⟩
  simp only at hM1 hL ⊢
  (repeat (first | refine WC.seq ?_ | refine WC.region ?_))
  refine WL.nextMap (M := M2) (c := c2) (b := bp) (seen := seen) rfl hM2 .here (.tail _ (.head _)) rfl (fun h0 => ?_) (fun e he hs => ?_)
  · (repeat (first | refine WL.step (Yl.extract rfl rfl) rfl ?_ | refine WC.seq ?_ | refine WL.nil ?_ | refine WN.then_normal ?_))
    refine WC.cond_false rfl rfl ?_
    (repeat (first | refine WC.exit ?_ | refine WN.then_exit ?_ | refine WN.block_here ?_))
    refine WN.end0S rfl ⟨rfl, M1, c1, ?_, rfl⟩ (.more (Part.refl _))
    rw [← hL.all hM2 h0]; exact hM1
  · (repeat (first | refine WL.step (Yl.extract rfl rfl) rfl ?_ | refine WC.seq ?_ | refine WL.nil ?_ | refine WN.then_normal ?_))
    refine WC.cond_true rfl rfl ?_
    (repeat (first | refine WL.step (Yl.entryMap (M := M2) (c := c2) (b := bp) (seen := seen) (e := e) rfl hM2 he (Has.mem (.head _)) (Has.mem (.tail _ (.tail _ (.head _))))) rfl ?_ | refine WL.step (Yl.extract rfl rfl) rfl ?_ | refine WC.seq ?_ | refine WC.region ?_ | refine WN.then_normal ?_ | refine WC.block ?_ | refine WC.skip ?_))
    refine WL.allocA Tryz.zeroValue123 rfl fun b5 => ?_
    (repeat (first | refine WL.step (Yl.assign rfl) rfl ?_))
    refine WL.storeWhole (T := 123) (k := 3) Tryz.sizeOf123 rfl rfl rfl .here rfl rfl ?_
    (repeat (first | refine WL.step (Yl.move rfl) rfl ?_ | (refine WL.k_load ?_; refine WL.step (Yl.loadAll (T := 123) (T' := 123) Tryz.isAgg123 Tryz.sizeOf123 rfl zH rfl) rfl ?_) | refine WC.region ?_ | refine WL.nil ?_ | refine WN.then_normal ?_))
    refine WL.mapUpdate (u := e.2.1) (k := e.1) Tryz.underlying77 Tryz.underlying3 rfl rfl rfl hM1 (hM2.low e he) (.there (.there .here)) fun M3 c3 hM3 => ?_
    (repeat (first | refine WL.nil ?_ | refine WN.block_normal ?_))
    refine WN.next (seen.push e.2.2, M3, c3, setF F1 e.1 (some e.2.1)) ⟨hM3, hL.step hM2 he hs⟩ ?_ zS (.cons (.there (.there .here)) (.cons .here (.more (Part.refl _))))
    simp only
    refine filter_lt (fun x hx => ?_) he (by rw [hs]; rfl) (by simp)
    simp only [Bool.not_eq_true', Array.contains_eq_mem, Array.mem_push, decide_eq_false_iff_not, not_or] at hx ⊢
    exact hx.1
theorem commit_r (bd : Nat) (p : JP) (s : JS) (bp e : Nat) (G : Nat → Option Pc) (M2 : List (Nat × Pc × Nat)) (c2 : Nat) (w : World) (hM : MapIs 4096 s.v.F s.M s.c) (htx : s.v.tx ≤ 100000) (hM2 : MapIs 4096 G M2 c2) (st : St w S (jI bd p s ++ [.blk bp (mobj encP M2 c2)]) w) :
    Calls Tryz.prog 64 #[bptr p.bj, .map (some bp), .int .i64 (e : Int)] w (GivesS S (CommV bd p bp (s.v.commit G e) M2 c2) w) := by
  refine enterS (args := [.pointer (some ⟨p.bj, 0, none⟩), _, _]) Tryz.func64 Tryz.ntmps64 rfl rfl st ?_
  simp only [jI, jO, List.cons_append, List.nil_append]
  (repeat (first | refine WL.step (Yl.move rfl) rfl ?_ | (refine WL.k_load ?_; refine WL.step (Yl.loadBlk (T := 77) Tryz.isAgg77 rfl zH (by rfl)) rfl ?_) | (refine WL.k_fld ?_; refine WL.step (Yl.fldN0 (i := 6) (o := 6) (by kernel_rfl) rfl) rfl ?_) | refine WL.step (Yl.nilCheck rfl) rfl ?_ | refine WC.seq ?_ | refine WC.region ?_))
  refine WL.callS (g := 112) (A0 := [.blk p.bm (mobj encP s.M s.c), .blk bp (mobj encP M2 c2)]) (B := [_]) Tryz.call112 rfl (List.perm_append_comm (l₁ := [_])) (fun w0 st2 st1 => mcopy_r p.bm bp s.v.F G s.M M2 s.c c2 w0 hM hM2 st1) rfl fun v C hv => ?_
  obtain ⟨rfl, M', c', hM', rfl⟩ := hv
  refine WL.part (Part.perm (List.perm_append_comm (l₂ := [_]))) ?_
  simp only [List.cons_append, List.nil_append]
  (repeat (first | refine WL.step (Yl.move rfl) rfl ?_ | (refine WL.k_load ?_; refine WL.step (Yl.loadBlk (T := 3) Tryz.isAgg3 rfl zH (by rfl)) rfl ?_) | (refine WL.k_fld ?_; refine WL.step (Yl.fldN0 (i := 5) (o := 5) (by kernel_rfl) rfl) rfl ?_) | refine WL.step (Yl.nilCheck rfl) rfl ?_ | (refine WL.k_bin .add ?_; refine WL.step (Yl.add64C rfl (by omega)) rfl ?_) | refine WC.seq ?_ | refine WC.region ?_ | refine WL.nil ?_ | refine WN.then_normal ?_))
  refine WL.storeAt (T := 3) Tryz.sizeOf3 rfl rfl rfl .here rfl ?_
  (repeat (first | refine WL.step (Yl.move rfl) rfl ?_ | (refine WL.k_fld ?_; refine WL.step (Yl.fldN0 (i := 4) (o := 4) (by kernel_rfl) rfl) rfl ?_) | refine WL.step (Yl.nilCheck rfl) rfl ?_ | refine WC.region ?_ | refine WL.nil ?_ | refine WN.then_normal ?_))
  refine WL.storeAt (T := 3) Tryz.sizeOf3 rfl rfl rfl .here rfl ?_
  (repeat (first | refine WL.nil ?_))
  exact WN.end0S rfl ⟨rfl, ⟨s.v.commit G e, M', c'⟩, rfl, hM', rfl⟩ (Part.refl _)
end
end Go.Proofs.YtbkdjfgkebkknaaGreatDoor
namespace Go.Proofs.YtbkdjfgkebkknaaGreatDoor
set_option linter.unusedVariables false
set_option linter.unusedSimpArgs false
open Go Go.RowKit
set_option maxRecDepth 100000
set_option maxHeartbeats 8000000
def RPostG {α γ : Type} (w : World) (S : List Nat) (H : γ → List α → Prop) (B : γ → List HA) (Hx : γ → Code → List α → Prop) (Bx : γ → List HA) (xs : List α) : Exit → Act → World → Prop
  | .normal, _, W => ∃ g, H g xs ∧ St w S (B g) W
  | .ret, _, W => ∃ g, Hx g .ret xs ∧ St w S (Bx g) W
  | .exit id, _, W => ∃ g, Hx g (.exit id) xs ∧ St w S (Bx g) W
  | _, _, _ => False
section
variable {α γ : Type} {P : Program} {n : Nat} {w : World} {S : List Nat} {ρ : Env} {A : List HA} {ds : List Deferred} {H : γ → List α → Prop} {B : γ → List HA} {Hx : γ → Code → List α → Prop} {Bx : γ → List HA} {xs : List α}
theorem WN.gnext (g : γ) (h : H g xs) (hp : Part A (B g)) : WN ⟨P, n, w, S⟩ (Post ds (RPostG w S H B Hx Bx xs)) .normal ρ A := fun _ _ _ s => ⟨g, h, s.part hp⟩
theorem WN.gret (g : γ) (h : Hx g .ret xs) (hp : Part A (Bx g)) : WN ⟨P, n, w, S⟩ (Post ds (RPostG w S H B Hx Bx xs)) .ret ρ A := fun _ _ _ s => ⟨g, h, s.part hp⟩
end
structure Kq (M : List Nat) (W W' : World) : Prop where
  size : W.heap.size ≤ W'.heap.size
  cells : ∀ k ∈ M, ∀ o, W.heap[k]? = some o → o.isCells = true → W'.heap[k]? = some o
theorem Kq.trans {M : List Nat} {U V W : World} (h : Kq M U V) (k : Kq M V W) : Kq M U W := ⟨Nat.le_trans h.size k.size, fun i hi o h1 ho => k.cells i hi o (h.cells i hi o h1 ho) ho⟩
theorem Kq.put {M : List Nat} (W : World) (l : Nat) (o o' : Obj) (hl : W.heap[l]? = some o) (ho : o.isCells = false) : Kq M W (W.putObj l o') :=
  ⟨by simp [World.putObj], fun k _ x hk hx => by
    have hne : k ≠ l := fun e => by subst e; rw [hl] at hk; cases hk; rw [ho] at hx; cases hx
    rw [World.putObj_heap_other hne]; exact hk⟩
theorem Kept.kq {w w' : World} (k : Kept w [] w') (M : List Nat) : Kq M w w' := ⟨k.size, fun b _ o hb _ => (k.block b (lt_of_heap hb) (by simp)).trans hb⟩
theorem Part.behind : ∀ (Y : List HA) {A : List HA}, Part (Y ++ A) A
  | Y, A => by
    have h : ∀ A : List HA, Part A A := fun A => by induction A with | nil => exact .nil | cons x A ih => exact .cons .here ih
    induction Y with
    | nil => exact h A
    | cons y Y ih =>
      have m : ∀ {A B : List HA}, Part A B → Part (y :: A) B := fun h => by
        induction h with
        | nil => exact .nil
        | cons p _ ih => exact .cons (.there p) ih
        | free _ ih => exact .free ih
      exact m ih
section
variable {X : Cx} {Q : Exit → Act → World → Prop} {ρ : Env} {A : List HA}
theorem WG.rangeG {α γ : Type} {g : Operand} {p t : Tmp} {id : Nat} {ty : TypeId} {ps : String} {af : Array Edge} {body : Code} {gf : Nat} {lb : List Value} {enc : α → Value} {S Sp : List α → Prop} {N : Nat}
    (hg : ev ρ g = some (.func (.func gf) #[] lb.toArray)) (eg : ∀ args w, (callFunc gf args).run X.P w = .ok (.enter gf args) w)
    (hpn : Nat.blt p X.n = true) (htn : Nat.blt t X.n = true)
    (B : γ → List HA) (Bx : γ → List HA) (H : γ → List α → Prop) (Hx : γ → Code → List α → Prop) (g0 : γ) (Mi : List HA) (hB0 : Part A (Mi ++ B g0)) (hH0 : H g0 [])
    (hseq : ∀ w, St X.w0 X.S (Mi ++ B g0) w → SeqStopsK (fence none) 1 X.P gf lb.toArray (fun x => #[enc x]) (Kq (Mi.filterMap HA.foot)) S Sp N w)
    (hft : ∀ g pre, H g pre → ∀ b ∈ (B g).filterMap HA.foot, b ∈ (B g0).filterMap HA.foot) (hfx : ∀ g c pre, Hx g c pre → ∀ b ∈ (Bx g).filterMap HA.foot, b ∈ (B g0).filterMap HA.foot)
    (hbody : ∀ (l : Nat) (pre : List α) (x : α) (w : World) (g : γ), H g pre → pre.length < N → St X.w0 X.S (B g) w →
      WG ⟨X.P, X.n, w, (B g0).filterMap HA.foot⟩ (some l) [] body (RPostG w ((B g0).filterMap HA.foot) H B Hx Bx (pre ++ [x])) ((t, enc x) :: (p, enc x) :: ρ) (B g))
    (hdone : ∀ D xs g, S xs → H g xs → WN X (Post [mark D] Q) .normal ρ (.blk D (.deferred (some [])) :: B g))
    (hstop : ∀ D c pre g, Sp pre → Hx g c pre → WG X none [mark D] c Q ρ (.blk D (.deferred (some [])) :: Bx g)) :
    WG X none [] (.rangeFunc g #[p] (.region id [⟨some t, .assign (.tmp p), ty, ps, af, none⟩].toArray false) body) Q ρ A := fun a w f s => by
  have ea : sd [] a = a := sd_nil f.defers
  rw [ea]
  have hfd := f.defers
  have s0m := s.part hB0
  have hdis : ∀ k ∈ Mi.filterMap HA.foot, k ∉ (B g0).filterMap HA.foot := fun k hk hm => by
    have := s0m.apart
    rw [List.filterMap_append, List.nodup_append] at this
    exact this.2.2 k hk k hm rfl
  have s0 := s0m.part (Part.behind Mi)
  have hlow : ∀ b ∈ (B g0).filterMap HA.foot, b < w.heap.size := fun b hb => by
    obtain ⟨x, hx, hf⟩ := feet_mem.1 hb
    exact HA.lt (s0.holds x hx) hf
  have hmine : ∀ b ∈ (B g0).filterMap HA.foot, b ∈ X.S ∨ X.w0.heap.size ≤ b := fun b hb => by
    obtain ⟨x, hx, hf⟩ := feet_mem.1 hb
    exact s0.mine x hx b hf
  have hw0 := s.kept.size
  have hown : ∀ {C : List HA}, (∀ b ∈ C.filterMap HA.foot, b ∈ (B g0).filterMap HA.foot) → ∀ x ∈ C, ∀ b, x.foot = some b → b < w.heap.size := fun hC x hx b hb => hlow b (hC b (feet_mem.2 ⟨x, hx, hb⟩))
  have f1 : ∀ x, Fr X.n ((t, enc x) :: (p, enc x) :: ρ) ((a.put (some p) (enc x)).put (some t) (enc x)) := fun x => (f.put (blt_lt hpn) (enc x)).put (blt_lt htn) (enc x)
  refine wpIn_any (n := 2) (wpIn_rangeFunc_ownG (F := fence none) (n := 2) rfl (by omega) (gf := gf) (lb := lb.toArray) (f.ev hg) trivial eg (hseq w s0m) (fun h k => h.trans k) (fun W l o o' _ hl ho _ => Kq.put W l o o' hl ho) (Below.refl _ _) (fun _ => rfl)
    (fun pre W => ∃ g, H g pre ∧ St X.w0 X.S (B g) W) (fun c pre W => ∃ g, Hx g c pre ∧ St X.w0 X.S (Bx g) W)
    (fun pre W W' row hs hg hr => by obtain ⟨g, h1, h2⟩ := hs; exact ⟨g, h1, h2.grownBy hg (fun r e => (hr r e).1) hw0 (hown (hft g pre h1))⟩) (fun c pre W W' row hs hg hr => by obtain ⟨g, h1, h2⟩ := hs; exact ⟨g, h1, h2.grownBy hg (fun r e => (hr r e).1) hw0 (hown (hfx g c pre h1))⟩)
    ⟨g0, hH0, s0⟩ (fun x => (a.put (some p) (enc x)).put (some t) (enc x)) ?_ ?_ ?_ ?_)
  · intro l x W K hK
    refine wpIn_region_lit ?_
    have fp : Fr X.n ((p, enc x) :: ρ) (a.put (some p) (enc x)) := f.put (blt_lt hpn) (enc x)
    have e1 : ({ tmps := (#[p].zip #[enc x]).foldl (fun t (p, v) => t.setIfInBounds p v) a.tmps, defers := [] } : Act) = a.put (some p) (enc x) := by
      obtain ⟨tm, df⟩ := a
      simp only at hfd
      subst hfd
      simp [Act.put]
    rw [e1]
    have hv := fp.get p (enc x) (by simp [lk, Nat.beq_refl])
    refine wpListIn_plain rfl fun K' hK' => ⟨fun _ _ => trivial, ?_⟩
    rw [Oper.semAt_eq _ _ _ (fun c e => by cases e)]
    have hx : (a.put (some p) (enc x)).eval (.tmp p) = enc x := hv
    simp only [execOp, hx, Sem.run_pure]
    rw [Oper.uponIn_value]
    exact hK' _ _ hK
  · intro l pre x W ⟨g, hi, hs⟩ hlen
    have sW : St W ((B g0).filterMap HA.foot) (B g) W := ⟨⟨rfl, rfl, rfl, Nat.le_refl _, fun _ _ _ => rfl⟩, hs.holds, hs.apart, fun x hx b hb => .inl (hft g pre hi b (feet_mem.2 ⟨x, hx, hb⟩))⟩
    have hb := hbody l pre x W g hi hlen hs _ W (f1 x) sW
    have e2 : sd [] ((a.put (some p) (enc x)).put (some t) (enc x)) = (a.put (some p) (enc x)).put (some t) (enc x) := sd_nil (f1 x).defers
    rw [e2] at hb
    have kf : ∀ {C : List HA} {W' : World}, St W ((B g0).filterMap HA.foot) C W' → KeepsFrom w.heap.size W W' ∧ Kq (Mi.filterMap HA.foot) W W' := fun s' =>
      have hk : ∀ k o, w.heap.size ≤ k → W.heap[k]? = some o → _ := fun k o hB hk => (s'.kept.block k (lt_of_heap hk) (fun hm => by have := hlow k hm; omega)).trans hk
      ⟨⟨s'.kept.size, fun k o hB h _ => hk k o hB h⟩, ⟨s'.kept.size, fun k hm o h _ => (s'.kept.block k (lt_of_heap h) (hdis k hm)).trans h⟩⟩
    have bk : ∀ {C : List HA} {W' : World}, St W ((B g0).filterMap HA.foot) C W' → (∀ b ∈ C.filterMap HA.foot, b ∈ (B g0).filterMap HA.foot) → St X.w0 X.S C W' := fun s' hC =>
      ⟨hs.kept.trans s'.kept hmine, s'.holds, s'.apart, fun x hx b hb => hmine b (hC b (feet_mem.2 ⟨x, hx, hb⟩))⟩
    refine wpIn_mono (wpIn_any hb) fun e a' W' hq => ?_
    cases e with
    | normal => obtain ⟨g', h1, h2⟩ := hq; exact ⟨(kf h2).1, (kf h2).2, g', h1, bk h2 (hft g' _ h1)⟩
    | ret => obtain ⟨g', h1, h2⟩ := hq; exact ⟨(kf h2).1, g', h1, bk h2 (hfx g' _ _ h1)⟩
    | exit id => obtain ⟨g', h1, h2⟩ := hq; exact ⟨(kf h2).1, g', h1, bk h2 (hfx g' _ _ h1)⟩
    | goto l => exact hq.elim
    | panic ch => exact hq.elim
    | outgrown => exact hq.elim
  all_goals
    have mk : ∀ {C : List HA} {W : World} {D : Nat}, (∀ b ∈ C.filterMap HA.foot, b ∈ (B g0).filterMap HA.foot) → w.heap.size ≤ D → W.heap[D]? = some (.deferred (some [])) → St X.w0 X.S C W → St X.w0 X.S (.blk D (.deferred (some [])) :: C) W := fun hC hD hK sC =>
      ⟨sC.kept, fun x hx => by rcases List.mem_cons.1 hx with rfl | hx; exact hK; exact sC.holds x hx, by
        simp only [List.filterMap_cons, HA.foot]
        exact List.nodup_cons.2 ⟨fun hm => by have := hlow _ (hC _ hm); omega, sC.apart⟩, fun x hx b hb => by
        rcases List.mem_cons.1 hx with rfl | hx
        · simp only [HA.foot, Option.some.injEq] at hb; subst hb; exact .inr (by omega)
        · exact sC.mine x hx b hb⟩
    have e3 : ∀ D, ({ a with defers := { target := .collected D, args := #[] } :: a.defers } : Act) = sd [mark D] a := fun D => by simp [sd, hfd, mark]
  · intro D xs W hD hS ⟨g, hi, hs⟩ hK
    rw [e3]
    exact hdone D xs g hS hi a W f (mk (hft g xs hi) hD hK hs)
  · intro D c pre W hD hS ⟨g, hi, hs⟩ hK
    rw [e3]
    exact wpIn_any (hstop D c pre g hS hi a W f (mk (hfx g c pre hi) hD hK hs))
end
end Go.Proofs.YtbkdjfgkebkknaaGreatDoor
namespace Go.Proofs.YtbkdjfgkebkknaaGreatDoor
set_option linter.unusedVariables false
set_option linter.unusedSimpArgs false
open Go Go.RowKit
set_option maxRecDepth 100000
set_option maxHeartbeats 8000000
def LI (X : Cx) (ds : List Deferred) (ops : Array Oper) (Q : Exit → Act → World → Prop) (l : List Oper) (ρ : Env) (A : List HA) : Prop := ∀ a w, Fr X.n ρ a → St X.w0 X.S A w → wpListIn (fence none) 0 X.P ops Q l (sd ds a) w
section
variable {X : Cx} {Q : Exit → Act → World → Prop} {ρ : Env} {A : List HA} {ds : List Deferred} {ops : Array Oper} {rest : List Oper} {d : Tmp} {op : Op} {ty : TypeId} {ps : String} {af : Array Edge} {v : Value}
theorem WG.regionI {id : Nat} {l : List Oper} (h : LI X ds l.toArray Q l ρ A) : WG X none ds (.region id l.toArray false) Q ρ A := fun a w f s => wpIn_region_lit (h a w f s)
theorem LI.step (hy : Yl X op ty ρ A v) (hnd : ∀ c, op ≠ .defer c) (hd : Nat.blt d X.n = true) (h : LI X ds ops Q rest ((d, v) :: ρ) A) : LI X ds ops Q (⟨some d, op, ty, ps, af, none⟩ :: rest) ρ A := fun a w f s => by
  refine wpListIn_plain rfl fun K hK => ⟨fun _ _ => trivial, ?_⟩
  have q0 : (Oper.semAt (fence none).round (sd ds a).eval ⟨some d, op, ty, ps, af, none⟩).run X.P w = .ok (.value v) w := by
    rw [Oper.semAt_eq _ _ _ (fun c e => hnd c e)]
    exact hy ⟨some d, op, ty, ps, af, none⟩ rfl rfl a w f s
  rw [q0, Oper.uponIn_value, ← sd_put]
  exact hK _ _ (h _ _ (f.put (blt_lt hd) v) s)
theorem LI.yield {l m : Nat} {t0 t1 t2 t3 ty2 ty3 tb : Nat} {p2 p3 : String} {a2 a3 : Array Edge} {ts : Array TypeId} {R : Ending → World → Prop}
    (h0 : lk ρ t0 = some (.func (.yield l) #[] #[])) (h1 : lk ρ t1 = some v) (d2 : Nat.blt t2 X.n = true) (d3 : Nat.blt t3 X.n = true)
    (hy : ∀ w, St X.w0 X.S A w → YieldAt (fence none) m X.P l #[v] w R) (hR : ∀ e w, R e w → ∃ b, e = .returned (.bool b))
    (h : ∀ b a w, R (.returned (.bool b)) w → Fr X.n ((t3, .bool (!b)) :: (t2, .bool b) :: ρ) a → Q .normal (sd ds a) w) :
    LI X ds ops Q [⟨some t2, .call { callee := .value (.tmp t0), args := [Operand.tmp t1].toArray, argTypes := ts }, ty2, p2, a2, none⟩, ⟨some t3, .unOp .not tb (.tmp t2), ty3, p3, a3, none⟩] ρ A := fun a w f s => by
  have l0 : a.eval (.tmp t0) = .func (.yield l) #[] #[] := f.ev (x := .tmp t0) h0
  have l1 : a.eval (.tmp t1) = v := f.ev (x := .tmp t1) h1
  obtain ⟨fn, tmps, assign, body, hrun, hround⟩ := hy w s
  refine wpListIn_plain rfl fun K hK => ⟨fun _ _ => trivial, ?_⟩
  have q2 : (Oper.semAt (fence none).round (sd ds a).eval ⟨some t2, .call { callee := .value (.tmp t0), args := [Operand.tmp t1].toArray, argTypes := ts }, ty2, p2, a2, none⟩).run X.P w = .ok (.round l fn tmps assign body) w := by
    rw [Oper.semAt_eq _ _ _ (fun c e => by cases e)]
    show (execOp a.eval _).run X.P w = _
    simp [execOp, resolve, Deferred.ofValue, l0, l1, invoke, hrun]
  rw [q2, Oper.uponIn_round]
  refine ⟨fun hd => (by cases hd), ?_⟩
  have hround' : RoundIn (fence none) (0 - 1) X.P l fn tmps assign body w R := ⟨hround.1, fun c cs _ => hround.2 c cs (room_fence _ _)⟩
  refine hround'.mono fun e w' hr => ?_
  obtain ⟨b, rfl⟩ := hR e w' hr
  simp only
  rw [← sd_put]
  have f3 := f.put (blt_lt d2) (Value.bool b)
  refine hK _ _ (wpListIn_plain rfl fun K hK => ⟨fun _ _ => trivial, ?_⟩)
  have l2 : (a.put (some t2) (.bool b)).eval (.tmp t2) = .bool b := f3.ev (x := .tmp t2) (by show lk _ t2 = _; simp only [lk, Nat.beq_refl]; rfl)
  have q3 : (Oper.semAt (fence none).round (sd ds (a.put (some t2) (.bool b))).eval ⟨some t3, .unOp .not tb (.tmp t2), ty3, p3, a3, none⟩).run X.P w' = .ok (.value (.bool (!b))) w' := by
    rw [Oper.semAt_eq _ _ _ (fun c e => by cases e)]
    show (execOp (a.put (some t2) (.bool b)).eval _).run X.P w' = _
    have hn : (Op.unary .not (.bool b)).run X.P w' = .ok (.bool (!b)) w' := by simp [Op.unary]
    simp [execOp, l2, hn]
  rw [q3, Oper.uponIn_value, ← sd_put]
  exact hK _ _ (wpListIn_nil (h b _ w' hr (f3.put (blt_lt d3) (.bool (!b)))))
end
def piece (a : Option Addr) (i : Nat) : Value := .slice (cutA a (128 * i) (128 * (i + 1)) 1) 128 128
theorem Yl.piece {X : Cx} {A : List HA} {ρ : Env} {ty : TypeId} {x l h m : Operand} {t e : TypeId} {a : Option Addr} {n cap i : Nat} (hu : X.P.underlying t = some (.slice e)) (hs : ∀ w, (sizeOf e).run X.P w = .ok 1 w) (hx : ev ρ x = some (.slice a n cap))
    (hl : ev ρ l = some (.int .i64 ((128 * i : Nat) : Int))) (hh : ev ρ h = some (.int .i64 ((128 * i + 128 : Nat) : Int))) (hm : ev ρ m = some (.int .i64 ((128 * i + 128 : Nat) : Int))) (hc : 128 * i + 128 ≤ cap) : Yl X (.slice t x (some l) (some h) (some m)) ty ρ A (piece a i) := by
  have := Yl.cutAll (X := X) (A := A) (ty := ty) hu hs hx hl hh hm (by omega) (Nat.le_refl _) hc
  rw [show 128 * i + 128 - 128 * i = 128 by omega] at this
  exact this
def ChunkV (a : Option Addr) (k c : Nat) : Value → List HA → Prop := fun u B => ∃ b2 b3, u = .func (.func 149) #[] #[.pointer (some ⟨b2, 0, none⟩), .pointer (some ⟨b3, 0, none⟩)] ∧
  B = [.blk b3 (.cells #[.int .i64 128] 3 (0, 0)), .blk b2 (.cells #[.slice a (128 * k) c] 23 (0, 0))]
attribute [local irreducible] WL WC WN Yl WH WQ WT WE WU WG
theorem chunk_c (a : Option Addr) (k c : Nat) (w : World) : Calls Tryz.prog 111 #[.slice a (128 * k) c, .int .i64 128] w (Gives (ChunkV a k c) w) := by
  refine enter (args := [_, _]) Tryz.func111 Tryz.ntmps111 rfl rfl ?_
  (repeat (first | refine WC.seq ?_ | refine WC.region ?_))
  refine WL.box rfl rfl fun b2 => ?_
  refine WL.box rfl rfl fun b3 => ?_
  (repeat (first | refine WL.step (Yl.assign rfl) rfl ?_ | (refine WL.k_load ?_; refine WL.step (Yl.loadBlk (T := 3) Tryz.isAgg3 rfl zH (by rfl)) rfl ?_) | (refine WL.k_bin .lss ?_; refine WL.step (Yl.lssF rfl rfl (by decide)) rfl ?_) | refine WC.seq ?_ | refine WC.region ?_ | refine WL.nil ?_ | refine WN.then_normal ?_))
  refine WC.cond_false rfl rfl ?_
  (repeat (first | refine WL.step (Yl.assign rfl) rfl ?_ | refine WL.step (Yl.capFunc (vs := [.pointer (some ⟨b2, 0, none⟩), .pointer (some ⟨b3, 0, none⟩)]) rfl) rfl ?_ | refine WC.seq ?_ | refine WC.region ?_ | refine WL.nil ?_ | refine WN.then_normal ?_ | refine WC.skip ?_ | refine WC.ret ?_))
  exact WN.ret1 rfl rfl ⟨b2, b3, rfl, rfl⟩ (Part.refl _)
theorem chunk_seq (a : Option Addr) (k c b2 b3 : Nat) (w : World) (M : List Nat) (hk : k ≤ 5) (hc : 128 * k ≤ c) (hb2 : w.heap[b2]? = some (.cells #[.slice a (128 * k) c] 23 (0, 0))) (hb3 : w.heap[b3]? = some (.cells #[.int .i64 128] 3 (0, 0))) (h2M : b2 ∈ M) (h3M : b3 ∈ M) :
    SeqStopsK (fence none) 1 Tryz.prog 149 #[.pointer (some ⟨b2, 0, none⟩), .pointer (some ⟨b3, 0, none⟩)] (fun i : Sec k => #[piece a i.1]) (Kq M) (fun xs => xs.map (·.1) = List.range k) (fun pre => ∃ j, j ≤ k ∧ pre.map (·.1) = List.range j) k w := by
  intro l J Jx W hW hJ hJx hY h0
  have kW := Kept.of_below hW
  have x2 := (kW.block b2 (lt_of_heap hb2) (by simp)).trans hb2
  have x3 := (kW.block b3 (lt_of_heap hb3) (by simp)).trans hb3
  have hk0 : ∀ w', Kept W [] w' → J [] w' := fun w' k => hJ [] W w' none h0 k.grown (fun r e => by cases e)
  have e : (#[Value.func (.yield l) #[] #[]] ++ #[Value.pointer (some ⟨b2, 0, none⟩), Value.pointer (some ⟨b3, 0, none⟩)] : Array Value) = [Value.func (.yield l) #[] #[], .pointer (some ⟨b2, 0, none⟩), .pointer (some ⟨b3, 0, none⟩)].toArray := by simp
  rw [e]
  refine enterI (args := [_, _, _]) Tryz.func149 Tryz.ntmps149 rfl rfl ?_
  (repeat (first | refine WL.step (Yl.assign rfl) rfl ?_ | refine WG.seq ?_ | refine WG.region (fun _ _ h => h) rfl ?_ | refine WL.nil ?_ | refine WN.g_then ?_ | refine WG.block ?_))
  refine WG.intro fun a0 w2 f s => ?_
  have hJ0 := hk0 w2 s.kept
  have y2 := (s.kept.block b2 (lt_of_heap x2) (by simp)).trans x2
  have y3 := (s.kept.block b3 (lt_of_heap x3) (by simp)).trans x3
  refine wpIn_loop_ghost (a := sd [] a0) (fun m a1 w => ∃ pre : List (Sec k), m + pre.length = k ∧ pre.map (·.1) = List.range pre.length ∧ J pre w ∧ w.heap[b2]? = some (.cells #[.slice a (128 * k) c] 23 (0, 0)) ∧ w.heap[b3]? = some (.cells #[.int .i64 128] 3 (0, 0)) ∧ ∃ b, a1 = sd [] b ∧
    Fr 31 [(0, .func (.yield l) #[] #[]), (1, .pointer (some ⟨b2, 0, none⟩)), (2, .pointer (some ⟨b3, 0, none⟩)), (4, .int .i64 ((128 * pre.length : Nat) : Int))] b) k ⟨[], rfl, rfl, hJ0, y2, y3, a0, rfl, f.of_sub zS⟩ ?_
  rintro m _ w ⟨pre, hm, hp, hj, z2, z3, b, rfl, f⟩
  obtain ⟨i, hi⟩ : ∃ i, i = pre.length := ⟨_, rfl⟩
  rw [← hi] at hm hp f
  refine WG.elim (X := ⟨Tryz.prog, 31, w, []⟩) (A := []) ?_ b w f (St.start w)
  have hkJ : ∀ w', Kept w [] w' → J pre w' := fun w' k => hJ _ w w' none hj k.grown (fun r e => by cases e)
  (repeat (first | refine WL.step (Yl.move rfl) rfl ?_ | refine WL.step (Yl.loadH Tryz.isAgg23 rfl (Has.old z2) rfl) rfl ?_ | refine WL.step (Yl.len (t := 23) Tryz.underlying23 rfl) rfl ?_ | refine WL.step (Yl.lss rfl rfl) rfl ?_ | refine WG.seq ?_ | refine WG.region (fun _ _ h => h) rfl ?_ | refine WL.nil ?_ | refine WN.g_then ?_))
  refine WG.ite rfl (fun h1 => ?_) (fun h1 => ?_)
  · have hik : i < k := by omega
    have hnext : (pre ++ [(⟨i, hik⟩ : Sec k)]).map (·.1) = List.range (i + 1) := by
      rw [List.map_append, hp, List.range_succ]; rfl
    have hnl : (pre ++ [(⟨i, hik⟩ : Sec k)]).length = i + 1 := by simp [hi]
    generalize hpn : pre ++ [(⟨i, hik⟩ : Sec k)] = pn at hnext hnl
    refine WG.skip (WN.g_then (WG.seq (WG.block (WG.seq (WG.regionH [] (by kernel_rfl) (fun _ _ h => h) rfl ?_)))))
    (refine WH.order [0, 1, 2, 3, 4, 5, 6] (by repeat (first | exact Part.nil | refine Part.cons zK ?_ | refine Part.free ?_)) (by kernel_rfl) ?_; (repeat (first | (refine WT.k_move rfl ?_; refine WT.take rfl rfl (fun _ _ _ h => h) (Yl.move rfl) rfl (by kernel_rfl) (by kernel_rfl) ?_) | (refine WT.k_assign rfl ?_; refine WT.take rfl rfl (fun _ _ _ h => h) (Yl.assign rfl) rfl (by kernel_rfl) (by kernel_rfl) ?_) | (refine WT.k_load rfl ?_; first | refine WT.take rfl rfl (fun _ _ _ h => h) (Yl.loadH Tryz.isAgg23 rfl (Has.old z2) rfl) rfl (by kernel_rfl) (by kernel_rfl) ?_ | refine WT.take rfl rfl (fun _ _ _ h => h) (Yl.loadH Tryz.isAgg3 rfl (Has.old z3) rfl) rfl (by kernel_rfl) (by kernel_rfl) ?_) | (refine WT.k_slice rfl ?_; refine WT.take rfl rfl (fun _ _ _ h => h) (Yl.cutFrom (t := 23) (n := 128 * k) (lo := 128 * i) Tryz.underlying23 Tryz.sizeOf5 rfl rfl (by omega)) rfl (by kernel_rfl) (by kernel_rfl) ?_) | (refine WT.k_bi .len rfl ?_; refine WT.take rfl rfl (fun _ _ _ h => h) (Yl.len (t := 23) Tryz.underlying23 rfl) rfl (by kernel_rfl) (by kernel_rfl) ?_) | (refine WT.k_bi .min rfl ?_; refine WT.take rfl rfl (fun _ _ _ h => h) (Yl.min2N rfl rfl) rfl (by kernel_rfl) (by kernel_rfl) ?_))); refine WT.nil ?_)
    refine WH.done (by kernel_rfl) ?_
    rw [show min 128 (128 * k - 128 * i) = 128 by omega]
    refine WN.g_then (WG.seq ?_)
    refine WG.regionI ?_
    refine LI.step (Yl.move rfl) (fun c e => by cases e) rfl ?_
    refine LI.step (Yl.loadH Tryz.isAgg23 rfl (Has.old z2) (by rfl)) (fun c e => by cases e) rfl ?_
    refine LI.step (Yl.move rfl) (fun c e => by cases e) rfl ?_
    refine LI.step (Yl.move rfl) (fun c e => by cases e) rfl ?_
    refine LI.step (Yl.move rfl) (fun c e => by cases e) rfl ?_
    refine LI.step (Yl.add64N (m := 128 * i) (n := 128) rfl rfl (by omega)) (fun c e => by cases e) rfl ?_
    refine LI.step (Yl.move rfl) (fun c e => by cases e) rfl ?_
    refine LI.step (Yl.move rfl) (fun c e => by cases e) rfl ?_
    refine LI.step (Yl.add64N (m := 128 * i) (n := 128) rfl rfl (by omega)) (fun c e => by cases e) rfl ?_
    refine LI.step (Yl.piece (i := i) Tryz.underlying23 Tryz.sizeOf5 rfl rfl rfl rfl (by omega)) (fun c e => by cases e) rfl ?_
    refine LI.yield (l := l) (m := 1 - 1) (R := fun e W' => (e = .returned (.bool true) ∧ J pn W' ∧ Kq M w W') ∨ (e = .returned (.bool false) ∧ Jx pn W')) rfl rfl rfl rfl (fun w' s' => ?_) (fun e w' hq => ?_) (fun bb a' w' hR f' => ?_)
    · rw [← hpn]
      refine YieldAt.mono (hY pre ⟨i, hik⟩ w' (hkJ w' s'.kept) (by omega)) fun e W' hq => ?_
      rcases hq with ⟨h1, h2, h3⟩ | h2
      · exact .inl ⟨h1, h2, (s'.kept.kq M).trans h3⟩
      · exact .inr h2
    · rcases hq with h | h
      · exact ⟨true, h.1⟩
      · exact ⟨false, h.1⟩
    rcases hR with ⟨hb1, hJ', hK'⟩ | ⟨hb1, hJ'⟩
    · obtain rfl : bb = true := by simpa using hb1
      have q2 := hK'.cells b2 h2M _ z2 rfl
      have q3 := hK'.cells b3 h3M _ z3 rfl
      refine WG.elim (X := ⟨Tryz.prog, 31, w', []⟩) (A := []) ?_ a' w' f' (St.start w')
      refine WG.cond_false rfl rfl ?_
      (repeat (first | refine WL.step (Yl.move rfl) rfl ?_ | refine WL.step (Yl.assign rfl) rfl ?_ | refine WL.step (Yl.loadH Tryz.isAgg3 rfl (Has.old q3) rfl) rfl ?_ | (refine WL.k_bin .add ?_; refine WL.step (Yl.add64N (m := 128 * i) (n := 128) rfl rfl (by omega)) rfl ?_) | refine WG.region (fun _ _ h => h) rfl ?_ | refine WL.nil ?_ | refine WN.g_then ?_ | refine WG.skip ?_ | refine WN.g_bnormal ?_))
      refine WN.g_done fun a3 w3 f3 s3 => ⟨m - 1, by omega, pn, by omega, by rw [hnl]; exact hnext, hJ _ w' w3 none hJ' s3.kept.grown (fun r e => by cases e), (s3.kept.block b2 (lt_of_heap q2) (by simp)).trans q2, (s3.kept.block b3 (lt_of_heap q3) (by simp)).trans q3, a3, rfl, f3.of_sub (by rw [hnl]; exact zS)⟩
    · obtain rfl : bb = false := by simpa using hb1
      refine WG.elim (X := ⟨Tryz.prog, 31, w', []⟩) (A := []) ?_ a' w' f' (St.start w')
      refine WG.cond_true rfl rfl ?_
      (repeat (first | refine WG.ret ?_ | refine WN.g_ret ?_ | refine WN.g_bret ?_))
      exact WN.iret rfl (fun w3 s3 => ⟨⟨_, rfl⟩, .inr ⟨_, ⟨i + 1, by omega, hnext⟩, hJx _ w' w3 none hJ' s3.kept.grown (fun r e => by cases e)⟩⟩)
  · have hN : i = k := by omega
    (repeat (first | refine WG.exit ?_ | refine WN.g_exit ?_ | refine WN.g_bhere ?_))
    exact WN.iend rfl (fun w s => ⟨⟨_, rfl⟩, .inl ⟨pre, (by show pre.map (·.1) = List.range k; rw [hp, hN]), hkJ w s.kept⟩⟩)
end Go.Proofs.YtbkdjfgkebkknaaGreatDoor
