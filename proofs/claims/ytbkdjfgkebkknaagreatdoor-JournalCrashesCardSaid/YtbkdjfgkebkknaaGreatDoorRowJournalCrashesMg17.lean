import Derived.Test.YtbkdjfgkebkknaaGreatDoorRowJournalCrashesMg15
import Derived.Test.YtbkdjfgkebkknaaGreatDoorRowJournalCrashesMg16
namespace Go.Proofs.YtbkdjfgkebkknaaGreatDoor
set_option linter.unusedVariables false
set_option linter.unusedSimpArgs false
open Go Go.RowKit
set_option maxRecDepth 100000
set_option maxHeartbeats 8000000
def wseq (v : DV) (a : Nat) : List (List UInt8) → DV × Nat
  | [] => (v, 0)
  | x :: L => if (v.write (a : Int) x).2 = 0 then wseq (v.write (a : Int) x).1 (a + 1) L else v.write (a : Int) x
theorem wseq_append : ∀ (L M : List (List UInt8)) (v : DV) (a : Nat), wseq v a (L ++ M) = if (wseq v a L).2 = 0 then wseq (wseq v a L).1 (a + L.length) M else wseq v a L
  | [], M, v, a => by simp [wseq]
  | x :: L, M, v, a => by
    rw [List.cons_append, wseq, wseq]
    by_cases h : (v.write (a : Int) x).2 = 0
    · rw [if_pos h, if_pos h, wseq_append L M, List.length_cons, show a + 1 + L.length = a + (L.length + 1) by omega]
    · rw [if_neg h, if_neg h, if_neg h]
theorem wseq_one (v : DV) (a : Nat) (x : List UInt8) : wseq v a [x] = v.write (a : Int) x := by
  rw [wseq]
  split
  · rename_i h
    rw [wseq, ← h]
  · rfl
theorem op_ops (v : DV) (f : DV → DV) (hf : ∀ u, (f u).ops = u.ops) : (v.op f).1.ops = v.ops + 1 := by
  unfold DV.op
  cases v.pl with
  | none => simp only [hf]
  | some q => simp only; split <;> simp only [hf, DV.crash]
theorem write_ops (v : DV) (s : Int) (x : List UInt8) : (v.write s x).1.ops ≤ v.ops + 1 := by
  unfold DV.write
  split
  · simp only; omega
  · split
    · simp only; omega
    · rw [op_ops _ id (fun _ => rfl)]; exact Nat.le_refl _
theorem wseq_ops : ∀ (L : List (List UInt8)) (v : DV) (a : Nat), (wseq v a L).1.ops ≤ v.ops + L.length
  | [], v, a => Nat.le_refl _
  | x :: L, v, a => by
    have h1 := write_ops v (a : Int) x
    rw [wseq]
    split
    · have := wseq_ops L (v.write (a : Int) x).1 (a + 1)
      simp only [List.length_cons]; omega
    · simp only [List.length_cons]; omega
def pcl (b : List UInt8) (l : List Nat) : List (List UInt8) := l.map fun i => (b.drop (128 * i)).take 128
def pieces (b : List UInt8) (k : Nat) : List (List UInt8) := pcl b (List.range k)
theorem pieces_len (b : List UInt8) (k : Nat) : (pieces b k).length = k := by simp [pieces, pcl]
theorem pieces_succ (b : List UInt8) (k : Nat) : pieces b (k + 1) = pieces b k ++ [(b.drop (128 * k)).take 128] := by simp [pieces, pcl, List.range_succ]
theorem pieces_more (b : List UInt8) (i : Nat) : ∀ m, ∃ M, pieces b (i + m) = pieces b i ++ M
  | 0 => ⟨[], by simp⟩
  | m + 1 => by
    obtain ⟨M, hM⟩ := pieces_more b i m
    exact ⟨M ++ [(b.drop (128 * (i + m))).take 128], by rw [← Nat.add_assoc, pieces_succ, hM, List.append_assoc]⟩
theorem wseq_stop {v : DV} {a : Nat} {b : List UInt8} {i k : Nat} {r : DV × Nat} (h : wseq v a (pieces b i) = r) (hr : r.2 ≠ 0) (hi : i ≤ k) : wseq v a (pieces b k) = r := by
  obtain ⟨M, hM⟩ := pieces_more b i (k - i)
  rw [show i + (k - i) = k by omega] at hM
  rw [hM, wseq_append, h, if_neg hr]
theorem wseq_next {v : DV} {a : Nat} {b : List UInt8} {l : List Nat} {i : Nat} {u : DV} (h : wseq v a (pcl b l) = (u, 0)) : wseq v a (pcl b (l ++ [i])) = u.write ((a + l.length : Nat) : Int) ((b.drop (128 * i)).take 128) := by
  rw [pcl, List.map_append, wseq_append]
  rw [pcl] at h
  rw [h, if_pos rfl, List.length_map]
  exact wseq_one _ _ _
theorem permJ7 (x1 x2 x3 x4 x5 x6 x7 : HA) (D : List HA) : (x1 :: x2 :: x3 :: x4 :: x5 :: x6 :: x7 :: D).Perm (D ++ [x1, x2, x3, x4, x5, x6, x7]) := List.perm_append_comm (l₁ := [x1, x2, x3, x4, x5, x6, x7])
theorem drive_k {p : DP} {S : List Nat} {v : DV} {s : DS} (sec : Int) (a : Option Addr) (n c2 : Nat) (x : List UInt8) (w : World) (ok : s.Ok p) (hv : s.v = v) (hops : v.ops < 4611686018427387904) (hl : x.length = n) (hr : CellsOut w S a (bs x)) (st : St w S (drI p s) w) :
    Calls Tryz.prog 38 #[bptr p.bd, .int .i64 sec, .slice a n c2] w (GivesS S (DrK p s.pl (v.write sec x).1 (v.write sec x).2) w) := by
  subst hv; exact dwrite_k sec a n c2 x s w ok hops hl hr st
theorem cutA_ne {a : Option Addr} {lo c1 c2 : Nat} (h1 : c1 ≠ lo) (h2 : c2 ≠ lo) : cutA a lo c1 1 = cutA a lo c2 1 := by simp [cutA, h1, h2]
section
variable {P : Program} {fn : Func} {R : Value → List HA → Prop} {ρ : Env} {A A' B : List HA} {n : Nat} {w0 : World} {S : List Nat}
theorem results_cell2 {t t2 : Tmp} {T T' T2 T2' : TypeId} {b b2 : Nat} {cs cs2 : Array Value} {fr fr2 : Nat × Nat} {w : World} {a : Act} {v v2 : Value} (hr : fn.results = #[.cell t T, .cell t2 T2]) (hg : ∀ w, (isAgg T).run P w = .ok false w) (hg2 : ∀ w, (isAgg T2).run P w = .ok false w) (f : Fr n ρ a)
    (hv : lk ρ t = some (.pointer (some ⟨b, 0, none⟩))) (hv2 : lk ρ t2 = some (.pointer (some ⟨b2, 0, none⟩)))
    (hm : HA.blk b (.cells cs T' fr) ∈ A) (hm2 : HA.blk b2 (.cells cs2 T2' fr2) ∈ A) (h0 : cs[0]? = some v) (h02 : cs2[0]? = some v2) (s : St w0 S A w) : (results fn a.tmps).run P w = .ok (.tuple #[v, v2]) w := by
  have hc := s.cell hm h0
  have hc2 := s.cell hm2 h02
  have h1 := f.get t _ hv
  have h2 := f.get t2 _ hv2
  rw [Array.getD_eq_getD_getElem?] at h1 h2
  simp [results, hr, h1, h2, asAddr, loadVar, hg, hg2, hc, hc2]
theorem WN.ret2CCM {D : Nat} {t t2 : Tmp} {T T' T2 T2' : TypeId} {b b2 : Nat} {cs cs2 : Array Value} {fr fr2 : Nat × Nat} {v v2 : Value} (hr : fn.results = #[.cell t T, .cell t2 T2]) (hg : ∀ w, (isAgg T).run P w = .ok false w) (hg2 : ∀ w, (isAgg T2).run P w = .ok false w)
    (hv : lk ρ t = some (.pointer (some ⟨b, 0, none⟩))) (hv2 : lk ρ t2 = some (.pointer (some ⟨b2, 0, none⟩)))
    (hm : HA.blk b (.cells cs T' fr) ∈ A) (hm2 : HA.blk b2 (.cells cs2 T2' fr2) ∈ A) (h0 : cs[0]? = some v) (h02 : cs2[0]? = some v2) (hR : R (.tuple #[v, v2]) B) (hp : Part A B) :
    WN ⟨P, n, w0, S⟩ (Post [mark D] (endM P fn (GivesS S R w0))) .ret ρ (.blk D (.deferred (some [])) :: A) := fun a w f s =>
  leave_mark (u := v) (.head _) s f.defers ⟨_, results_cell2 hr hg hg2 f hv hv2 hm hm2 h0 h02 s.unmark, _, B, rfl, hR, s.unmark.part hp⟩
end
def JWrV (dp : DP) (p : JP) (s : JS) (r : DV × Nat) (e : Nat) : Value → List HA → Prop := fun u B => u = .tuple #[.int .i64 ((if r.2 = 0 then e else 0 : Nat) : Int), .int .i64 (r.2 : Int)] ∧ ∃ ds', DS.Ok ds' dp ∧ ds'.v = r.1 ∧ B = jI dp.bd p s ++ drI dp ds'
theorem enc_len {kd ep tx ix no : Int} {d : List UInt8} (h : Frm.Ok kd ep tx ix no d.length) : (Frm.enc kd ep tx ix no d).2.length = 128 * (Frm.secs kd).1 := by
  rw [enc_ok h, Frm.chunks_length]
theorem enc_zero {kd ep tx ix no : Int} {d : List UInt8} (h : Frm.Ok kd ep tx ix no d.length) : (Frm.enc kd ep tx ix no d).1 = 0 := by rw [enc_ok h]
theorem secs_le (kd : Int) : (Frm.secs kd).1 ≤ 5 := by unfold Frm.secs; split; decide; split <;> decide
theorem secs_pos {kd ep tx ix no : Int} {n : Nat} (h : Frm.Ok kd ep tx ix no n) : 1 ≤ (Frm.secs kd).1 := by
  rcases h.2.2.2 with h | h
  · rw [h.1]; decide
  · rw [h.1]; decide
attribute [local irreducible] WL WC WN Yl WH WQ WT WE WU WG WV
section
variable {dp : DP} {ds : DS} {p : JP} {s : JS} {S : List Nat}
theorem jwrite_r (at_ : Nat) (kd ep0 tx0 ix no : Int) (a : Option Addr) (n cap : Nat) (dt : List UInt8) (w : World) (dok : ds.Ok dp) (jok : s.Ok) (hops : ds.ops < 2305843009213693952) (hat : at_ ≤ 100000)
    (hok : Frm.Ok kd s.v.ep ((s.v.tx + 1 : Nat) : Int) ix no dt.length) (hl : dt.length = n) (hr : CellsOut w S a (bs dt)) (hT : TabO w S) (st : St w S (jI dp.bd p s ++ drI dp ds) w) :
    Calls Tryz.prog 63 #[bptr p.bj, .int .i64 (at_ : Int), .agg #[.int .i64 kd, .int .i64 ep0, .int .i64 tx0, .int .i64 ix, .int .i64 no, .slice a n cap]] w (GivesS S (JWrV dp p s (wseq ds.v (s.v.first + at_) (pieces (Frm.enc kd s.v.ep ((s.v.tx + 1 : Nat) : Int) ix no dt).2 (Frm.secs kd).1)) (at_ + (Frm.secs kd).1)) w) := by
  have hle := dok.wf.le
  have hrow2 := jok.row
  have hused := jok.used
  have htx := jok.tx
  refine enterG (args := [.pointer (some ⟨p.bj, 0, none⟩), _, .agg #[.int .i64 kd, .int .i64 ep0, .int .i64 tx0, .int .i64 ix, .int .i64 no, .slice a n cap]]) Tryz.func63 Tryz.ntmps63 rfl rfl st ?_
  simp only [jI, List.cons_append, List.nil_append]
  (repeat (first | refine WG.seq ?_ | refine WG.region (fun _ _ h => h) rfl ?_))
  refine WL.box rfl rfl fun b3 => ?_
  refine WL.box rfl rfl fun b4 => ?_
  refine WL.boxA rfl rfl fun b5 => ?_
  refine WL.alloc (T := 3) Tryz.zeroValue3 rfl fun b6 => ?_
  refine WL.alloc (T := 27) Tryz.zeroValue27 rfl fun b7 => ?_
  (repeat (first | refine WG.seq ?_ | refine WL.nil ?_ | refine WN.g_then ?_))
  refine WG.regionH [.blk b3 (.cells #[.pointer (some ⟨p.bj, 0, none⟩)] 30 (0, 0)), .blk p.bj (jO dp.bd p s.v)] (by kernel_rfl) (fun _ _ h => h) rfl ?_
  (refine WH.order [0, 1, 2, 3, 4, 5, 6, 7, 8, 9] (by repeat (first | exact Part.nil | refine Part.cons (by repeat (first | exact Pick.here | apply Pick.there)) ?_ | refine Part.free ?_)) (by kernel_rfl) ?_; (repeat (first | (refine WT.k_load rfl ?_; first | refine WT.take rfl rfl (fun _ _ _ h => h) (Yl.loadBlk (T := 30) Tryz.isAgg30 rfl (by repeat (first | exact .head _ | refine .tail _ ?_)) (by rfl)) rfl (by kernel_rfl) (by kernel_rfl) ?_ | refine WT.take rfl rfl (fun _ _ _ h => h) (Yl.loadBlk (T := 3) Tryz.isAgg3 rfl (by repeat (first | exact .head _ | refine .tail _ ?_)) (by rfl)) rfl (by kernel_rfl) (by kernel_rfl) ?_ | refine WT.take rfl rfl (fun _ _ _ h => h) (Yl.loadBlk (T := 2) Tryz.isAgg2 rfl (by repeat (first | exact .head _ | refine .tail _ ?_)) (by rfl)) rfl (by kernel_rfl) (by kernel_rfl) ?_) | (refine WT.k_fld rfl ?_; first | refine WT.take rfl rfl (fun _ _ _ h => h) (Yl.fldN0 (i := 1) (o := 1) (by kernel_rfl) rfl) rfl (by kernel_rfl) (by kernel_rfl) ?_ | refine WT.take rfl rfl (fun _ _ _ h => h) (Yl.fldN0 (i := 3) (o := 3) (by kernel_rfl) rfl) rfl (by kernel_rfl) (by kernel_rfl) ?_ | refine WT.take rfl rfl (fun _ _ _ h => h) (Yl.fldN0 (i := 5) (o := 5) (by kernel_rfl) rfl) rfl (by kernel_rfl) (by kernel_rfl) ?_) | (refine WT.k_nilc rfl ?_; refine WT.take rfl rfl (fun _ _ _ h => h) (Yl.nilCheck rfl) rfl (by kernel_rfl) (by kernel_rfl) ?_) | (refine WT.k_bin .add rfl ?_; refine WT.take rfl rfl (fun _ _ _ h => h) (Yl.add64C rfl (by omega)) rfl (by kernel_rfl) (by kernel_rfl) ?_))); refine WT.nil ?_)
  refine WH.only (i := 10) (by kernel_rfl) rfl ?_
  refine WL.storeAt (T := 2) Tryz.sizeOf2 rfl rfl rfl (.there (.there .here)) rfl ?_
  refine WL.nil (WN.nextH (.cons (.there (.there (.there (.there .here)))) (.cons (.there (.there (.there (.there .here)))) .nil)) ?_)
  (refine WH.order [11] (by repeat (first | exact Part.nil | refine Part.cons (by repeat (first | exact Pick.here | apply Pick.there)) ?_ | refine Part.free ?_)) (by kernel_rfl) ?_; (repeat (first | (refine WT.k_fld rfl ?_; refine WT.take rfl rfl (fun _ _ _ h => h) (Yl.fldN0 (i := 2) (o := 2) (by kernel_rfl) rfl) rfl (by kernel_rfl) (by kernel_rfl) ?_))); refine WT.nil ?_)
  refine WH.only (i := 12) (by kernel_rfl) rfl ?_
  refine WL.storeAt (T := 3) Tryz.sizeOf3 rfl rfl rfl .here rfl ?_
  refine WL.nil (WN.nextH (.cons (.there (.there (.there (.there .here)))) (.cons (.there (.there (.there (.there .here)))) .nil)) (WH.done (by kernel_rfl) ?_))
  simp only [List.setIfInBounds_toArray, List.set_cons_succ, List.set_cons_zero]
  (repeat (first | (refine WL.k_load ?_; refine WL.step (Yl.loadAll (T := 121) (T' := 121) Tryz.isAgg121 Tryz.sizeOf121 rfl (by repeat (first | exact .head _ | refine .tail _ ?_)) rfl) rfl ?_) | refine WG.seq ?_ | refine WG.region (fun _ _ h => h) rfl ?_ | refine WN.g_then ?_))
  refine WL.call (g := 110) Tryz.call110 rfl (fun w0 st2 => encode_c kd s.v.ep ((s.v.tx + 1 : Nat) : Int) ix no a n cap dt w0 (Rd.out hT w0 st2) hl (Rd.out hr w0 st2)) rfl fun v B hv => ?_
  obtain ⟨ea, ec, hec, rfl, rfl⟩ := hv
  rw [List.singleton_append, enc_zero hok]
  have hel := enc_len hok
  have hk5 := secs_le kd
  obtain ⟨bb, hbb⟩ : ∃ bb, bb = (Frm.enc kd s.v.ep ((s.v.tx + 1 : Nat) : Int) ix no dt).2 := ⟨_, rfl⟩
  obtain ⟨k, hk⟩ : ∃ k, k = (Frm.secs kd).1 := ⟨_, rfl⟩
  rw [← hbb] at hel hec ⊢
  rw [← hk] at hel hk5 ⊢
  rw [hel] at hec ⊢
  (repeat (first | refine WL.step (Yl.move rfl) rfl ?_ | refine WL.step (Yl.assign rfl) rfl ?_ | refine WL.step (Yl.extract rfl rfl) rfl ?_ | refine WL.step (Yl.neqF rfl rfl rfl) rfl ?_ | refine WG.seq ?_ | refine WG.region (fun _ _ h => h) rfl ?_ | refine WL.nil ?_ | refine WN.g_then ?_))
  refine WG.cond_false rfl rfl ?_
  (repeat (first | refine WL.step (Yl.move rfl) rfl ?_ | refine WG.seq ?_ | refine WG.region (fun _ _ h => h) rfl ?_ | refine WN.g_then ?_ | refine WG.skip ?_))
  refine WL.call (g := 111) Tryz.call111 rfl (fun w0 st2 => chunk_c ea k ec w0) rfl fun v C hv => ?_
  obtain ⟨b2, b9, rfl, rfl⟩ := hv
  simp only [List.cons_append, List.nil_append]
  (repeat (first | refine WL.nil ?_ | refine WN.g_then ?_ | refine WG.block ?_))
  have hwops : ∀ l : List Nat, (wseq ds.v (s.v.first + at_) (pcl bb l)).1.ops ≤ ds.ops + l.length := fun l => by
    have := wseq_ops (pcl bb l) ds.v (s.v.first + at_)
    rw [pcl, List.length_map] at this
    exact this
  refine WG.rangeG (γ := DS × Nat) (enc := fun x : Sec k => piece ea x.1) (S := fun xs => xs.map (·.1) = List.range k) (Sp := fun pre => ∃ j, j ≤ k ∧ pre.map (·.1) = List.range j) (N := k) (lb := [.pointer (some ⟨b2, 0, none⟩), .pointer (some ⟨b9, 0, none⟩)]) rfl Tryz.call149 rfl rfl
    (fun g => .row ea ec 5 1 (bs bb) :: .blk b4 (.cells #[.int .i64 ((at_ + g.2 : Nat) : Int)] 3 (0, 0)) :: .blk b3 (.cells #[.pointer (some ⟨p.bj, 0, none⟩)] 30 (0, 0)) :: .blk b7 (.cells #[.int .i64 0] 27 (0, 0)) :: .blk b6 (.cells #[.int .i64 0] 3 (0, 0)) :: .blk p.bj (jO dp.bd p s.v) :: .blk p.bm (mobj encP s.M s.c) :: drI dp g.1)
    (fun g => .blk b7 (.cells #[.int .i64 (g.2 : Int)] 27 (0, 0)) :: .blk b6 (.cells #[.int .i64 0] 3 (0, 0)) :: .blk p.bj (jO dp.bd p s.v) :: .blk p.bm (mobj encP s.M s.c) :: drI dp g.1)
    (fun g pre => g.1.Ok dp ∧ g.2 = pre.length ∧ wseq ds.v (s.v.first + at_) (pcl bb (pre.map (·.1))) = (g.1.v, 0) ∧ PlSub ds.pl g.1.pl ∧ pre.length ≤ k)
    (fun g c pre => c = .ret ∧ g.1.Ok dp ∧ g.2 ≠ 0 ∧ wseq ds.v (s.v.first + at_) (pcl bb (pre.map (·.1))) = (g.1.v, g.2) ∧ PlSub ds.pl g.1.pl)
    (ds, 0) [.blk b9 (.cells #[.int .i64 128] 3 (0, 0)), .blk b2 (.cells #[.slice ea (128 * k) ec] 23 (0, 0))]
    (.cons .here (.cons .here (.cons .here (.cons (.there (.there (.there .here))) (.cons (.there (.there (.there .here))) (.cons (.there .here) (.cons (.there .here) (.more (Part.refl _)))))))))
    ⟨dok, rfl, rfl, PlSub.refl _, Nat.zero_le _⟩
    (fun w st => chunk_seq ea k ec b2 b9 w _ hk5 hec (st.holds _ (.tail _ (.head _))) (st.holds _ (.head _)) (by simp [HA.foot]) (by simp [HA.foot])) ?_ ?_ ?_ ?_ ?_
  · rintro g pre ⟨_, _, _, h, _⟩ b hb
    obtain ⟨x, hx, hf⟩ := feet_mem.1 hb
    simp only [List.mem_cons] at hx
    rcases hx with rfl | rfl | rfl | rfl | rfl | rfl | rfl | hx
    · exact feet_mem.2 ⟨_, .head _, hf⟩
    · exact feet_mem.2 ⟨_, .tail _ (.head _), hf⟩
    · exact feet_mem.2 ⟨_, .tail _ (.tail _ (.head _)), hf⟩
    · exact feet_mem.2 ⟨_, .tail _ (.tail _ (.tail _ (.head _))), hf⟩
    · exact feet_mem.2 ⟨_, .tail _ (.tail _ (.tail _ (.tail _ (.head _)))), hf⟩
    · exact feet_mem.2 ⟨_, .tail _ (.tail _ (.tail _ (.tail _ (.tail _ (.head _))))), hf⟩
    · exact feet_mem.2 ⟨_, .tail _ (.tail _ (.tail _ (.tail _ (.tail _ (.tail _ (.head _)))))), hf⟩
    · obtain ⟨y, hy, hf2⟩ := feet_mem.1 (drI_sub (p := dp) (s0 := ds) h b (feet_mem.2 ⟨x, hx, hf⟩))
      exact feet_mem.2 ⟨y, .tail _ (.tail _ (.tail _ (.tail _ (.tail _ (.tail _ (.tail _ hy)))))), hf2⟩
  · rintro g c pre ⟨_, _, _, _, h⟩ b hb
    obtain ⟨x, hx, hf⟩ := feet_mem.1 hb
    simp only [List.mem_cons] at hx
    rcases hx with rfl | rfl | rfl | rfl | hx
    · exact feet_mem.2 ⟨_, .tail _ (.tail _ (.tail _ (.head _))), hf⟩
    · exact feet_mem.2 ⟨_, .tail _ (.tail _ (.tail _ (.tail _ (.head _)))), hf⟩
    · exact feet_mem.2 ⟨_, .tail _ (.tail _ (.tail _ (.tail _ (.tail _ (.head _))))), hf⟩
    · exact feet_mem.2 ⟨_, .tail _ (.tail _ (.tail _ (.tail _ (.tail _ (.tail _ (.head _)))))), hf⟩
    · obtain ⟨y, hy, hf2⟩ := feet_mem.1 (drI_sub (p := dp) (s0 := ds) h b (feet_mem.2 ⟨x, hx, hf⟩))
      exact feet_mem.2 ⟨y, .tail _ (.tail _ (.tail _ (.tail _ (.tail _ (.tail _ (.tail _ hy)))))), hf2⟩
  · rintro l pre x w1 ⟨d1, i⟩ ⟨d1ok, hi, hw1, hps, hpk⟩ hlen st1
    simp only at d1ok hi hw1 hps ⊢
    subst hi
    have hx := x.2
    have hop := hwops (pre.map (·.1))
    rw [hw1, List.length_map] at hop
    simp only at hop
    have hbl : bb.length ≤ 128 * k := Nat.le_of_eq hel
    (repeat (first | refine WG.seq ?_ | refine WG.block ?_))
    refine WG.regionH [.blk b3 (.cells #[.pointer (some ⟨p.bj, 0, none⟩)] 30 (0, 0)), .blk p.bj (jO dp.bd p s.v), .blk b4 (.cells #[.int .i64 ((at_ + pre.length : Nat) : Int)] 3 (0, 0))] (by kernel_rfl) (fun _ _ h => h) rfl ?_
    (refine WH.order [0, 1, 2, 3, 4, 5, 6, 7, 8, 9, 10] (by repeat (first | exact Part.nil | refine Part.cons (by repeat (first | exact Pick.here | apply Pick.there)) ?_ | refine Part.free ?_)) (by kernel_rfl) ?_; (repeat (first | (refine WT.k_move rfl ?_; refine WT.take rfl rfl (fun _ _ _ h => h) (Yl.move rfl) rfl (by kernel_rfl) (by kernel_rfl) ?_) | (refine WT.k_load rfl ?_; first | refine WT.take rfl rfl (fun _ _ _ h => h) (Yl.loadBlk (T := 30) Tryz.isAgg30 rfl (by repeat (first | exact .head _ | refine .tail _ ?_)) (by rfl)) rfl (by kernel_rfl) (by kernel_rfl) ?_ | refine WT.take rfl rfl (fun _ _ _ h => h) (Yl.loadBlk (T := 26) Tryz.isAgg26 rfl (by repeat (first | exact .head _ | refine .tail _ ?_)) (by rfl)) rfl (by kernel_rfl) (by kernel_rfl) ?_ | refine WT.take rfl rfl (fun _ _ _ h => h) (Yl.loadBlk (T := 3) Tryz.isAgg3 rfl (by repeat (first | exact .head _ | refine .tail _ ?_)) (by rfl)) rfl (by kernel_rfl) (by kernel_rfl) ?_) | (refine WT.k_fld rfl ?_; first | refine WT.take rfl rfl (fun _ _ _ h => h) (Yl.fldN0 (i := 0) (o := 0) (by kernel_rfl) rfl) rfl (by kernel_rfl) (by kernel_rfl) ?_ | refine WT.take rfl rfl (fun _ _ _ h => h) (Yl.fldN0 (i := 1) (o := 1) (by kernel_rfl) rfl) rfl (by kernel_rfl) (by kernel_rfl) ?_) | (refine WT.k_nilc rfl ?_; refine WT.take rfl rfl (fun _ _ _ h => h) (Yl.nilCheck rfl) rfl (by kernel_rfl) (by kernel_rfl) ?_) | (refine WT.k_bin .add rfl ?_; refine WT.take rfl rfl (fun _ _ _ h => h) (Yl.add64N (m := s.v.first) (n := at_ + pre.length) rfl rfl (by omega)) rfl (by kernel_rfl) (by kernel_rfl) ?_))); refine WT.nil ?_)
    refine WH.only (i := 11) (by kernel_rfl) rfl ?_
    refine WL.callS (g := 38) (A0 := drI dp d1) (B := [_, _, _, _, _, _, _]) Tryz.call38 rfl (permJ7 _ _ _ _ _ _ _ _) (fun w0 st2 s1 => drive_k ((s.v.first + (at_ + pre.length) : Nat) : Int) (cutA ea (128 * x.1) (128 * (x.1 + 1)) 1) 128 128 ((bb.drop (128 * x.1)).take 128) w0 d1ok rfl (by omega) (by simp only [List.length_take, List.length_drop, hel]; omega) (by rw [cutA_ne (c2 := 128 * k) (by omega) (by omega)]; exact CellsOut.cut (row_out st2 (permJ7 _ _ _ _ _ _ _ _) (.head _)) (128 * x.1) 128 hbl) s1) rfl fun v C hv => ?_
    obtain ⟨rfl, d2, d2ok, hd2, hps2, rfl⟩ := hv
    refine WL.part (Part.perm (permJ7 _ _ _ _ _ _ _ _).symm) ?_
    refine WL.nil (WN.nextH (.cons (.there (.there .here)) (.cons (.there (.there (.there (.there .here)))) (.cons (.there .here) .nil))) ?_)
    (refine WH.order [12] (by repeat (first | exact Part.nil | refine Part.cons (by repeat (first | exact Pick.here | apply Pick.there)) ?_ | refine Part.free ?_)) (by kernel_rfl) ?_; (repeat (first | (refine WT.k_assign rfl ?_; refine WT.take rfl rfl (fun _ _ _ h => h) (Yl.assign rfl) rfl (by kernel_rfl) (by kernel_rfl) ?_))); refine WT.nil ?_)
    refine WH.done (by kernel_rfl) ?_
    have hnx := wseq_next (i := x.1) hw1
    rw [List.length_map, Nat.add_assoc] at hnx
    have hpx : (pre ++ [x]).map (·.1) = pre.map (·.1) ++ [x.1] := by simp
    rw [← hpx] at hnx
    by_cases he : (d1.v.write ((s.v.first + (at_ + pre.length) : Nat) : Int) ((bb.drop (128 * x.1)).take 128)).2 = 0
    · rw [he]
      (repeat (first | refine WL.step (Yl.move rfl) rfl ?_ | refine WL.step (Yl.neqF rfl rfl rfl) rfl ?_ | refine WG.seq ?_ | refine WG.region (fun _ _ h => h) rfl ?_ | refine WL.nil ?_ | refine WN.g_then ?_))
      refine WG.cond_false rfl rfl ?_
      (repeat (first | (refine WL.k_load ?_; refine WL.step (Yl.loadBlk (T := 3) Tryz.isAgg3 rfl (by repeat (first | exact .head _ | refine .tail _ ?_)) (by rfl)) rfl ?_) | (refine WL.k_bin .add ?_; refine WL.step (Yl.add64C rfl (by omega)) rfl ?_) | refine WG.region (fun _ _ h => h) rfl ?_ | refine WN.g_then ?_ | refine WG.skip ?_))
      refine WL.storeAt (T := 3) Tryz.sizeOf3 rfl rfl rfl (.there .here) rfl ?_
      simp only [List.setIfInBounds_toArray, List.set_cons_zero]
      (repeat (first | refine WL.nil ?_ | refine WN.g_bnormal ?_))
      refine WN.gnext (d2, pre.length + 1) ⟨d2ok, by simp, by rw [hnx, hd2, ← he], hps.trans hps2, by simp; omega⟩ ?_
      exact .cons (.there .here) (.cons .here (Part.refl _))
    · (repeat (first | refine WL.step (Yl.move rfl) rfl ?_ | (refine WL.k_bin .neq ?_; refine WL.step (Yl.neqT rfl rfl (by omega)) rfl ?_) | refine WG.seq ?_ | refine WG.region (fun _ _ h => h) rfl ?_ | refine WL.nil ?_ | refine WN.g_then ?_))
      refine WG.cond_true rfl rfl ?_
      (repeat (first | refine WL.step (Yl.move rfl) rfl ?_ | refine WG.seq ?_ | refine WG.region (fun _ _ h => h) rfl ?_))
      refine WL.storeAt (T := 3) Tryz.sizeOf3 rfl rfl rfl (.there (.there (.there (.there .here)))) rfl ?_
      skip
      refine WL.storeAt (T := 27) Tryz.sizeOf27 rfl rfl rfl (.there (.there (.there (.there .here)))) rfl ?_
      simp only [List.setIfInBounds_toArray, List.set_cons_zero]
      (repeat (first | refine WL.nil ?_ | refine WN.g_then ?_ | refine WG.ret ?_ | refine WN.g_ret ?_ | refine WN.g_bret ?_))
      refine WN.gret (d2, _) ⟨rfl, d2ok, he, by rw [hnx, hd2], hps.trans hps2⟩ ?_
      exact .cons .here (.cons .here (.more (.more (.more (Part.refl _)))))
  · rintro D xs ⟨d1, i⟩ hxs ⟨d1ok, hi, hw1, hps, hpk⟩
    simp only at d1ok hi hw1 hps hxs ⊢
    rw [hxs] at hw1
    have hik : i = k := by rw [hi, ← List.length_map (·.1), hxs, List.length_range]
    subst hik
    (repeat (first | (refine WL.k_load ?_; refine WL.step (Yl.loadBlk (T := 3) Tryz.isAgg3 rfl (by repeat (first | exact .head _ | refine .tail _ ?_)) (by rfl)) rfl ?_) | refine WG.seq ?_ | refine WG.region (fun _ _ h => h) rfl ?_ | refine WN.g_then ?_ | refine WN.g_bnormal ?_))
    refine WL.storeAt (T := 3) Tryz.sizeOf3 rfl rfl rfl (.there (.there (.there (.there (.there .here))))) rfl ?_
    skip
    refine WL.storeAt (T := 27) Tryz.sizeOf27 rfl rfl rfl (.there (.there (.there (.there (.there .here))))) rfl ?_
    simp only [List.setIfInBounds_toArray, List.set_cons_zero]
    (repeat (first | refine WL.nil ?_ | refine WN.g_then ?_ | refine WG.ret ?_))
    refine WN.first (.there (.there .here)) ?_
    refine WN.ret2CCM (b := b6) (b2 := b7) (cs := #[.int .i64 ((at_ + i : Nat) : Int)]) (cs2 := #[.int .i64 0]) rfl Tryz.isAgg3 Tryz.isAgg27 rfl rfl (.tail _ (.head _)) (.head _) rfl rfl ⟨?_, d1, d1ok, (by rw [pieces, hw1]), rfl⟩ (.more (.more (.more (.more (.more (Part.refl _))))))
    rw [pieces, hw1]; rfl
  · rintro D c pre ⟨d1, e⟩ ⟨j, hj, hpj⟩ ⟨rfl, d1ok, he, hw1, hps⟩
    simp only at d1ok he hw1 hps ⊢
    rw [hpj] at hw1
    have hst := wseq_stop (k := k) (i := j) hw1 he hj
    refine WG.ret ?_
    (repeat (first | refine WN.g_ret ?_ | refine WN.g_bret ?_))
    refine WN.ret2CCM (b := b6) (b2 := b7) (cs := #[.int .i64 0]) (cs2 := #[.int .i64 (e : Int)]) rfl Tryz.isAgg3 Tryz.isAgg27 rfl rfl (.tail _ (.head _)) (.head _) rfl rfl ⟨?_, d1, d1ok, (by rw [hst]), rfl⟩ (.more (.more (Part.refl _)))
    rw [hst]
    simp only [if_neg he]; rfl
end
end Go.Proofs.YtbkdjfgkebkknaaGreatDoor
namespace Go.Proofs.YtbkdjfgkebkknaaGreatDoor
set_option linter.unusedVariables false
set_option linter.unusedSimpArgs false
open Go Go.RowKit
set_option maxRecDepth 100000
set_option maxHeartbeats 8000000
structure Pg where
  no : Int
  s : Sl
instance : Inhabited Pg := ⟨⟨0, Sl.nil⟩⟩
def Pg.cs (q : Pg) : List Value := [.int .i64 q.no, q.s.v]
def pgs (L : List Pg) : List Value := L.flatMap Pg.cs
theorem flatM_at {α β : Type} {f : α → List β} {k : Nat} (hf : ∀ x, (f x).length = k) : ∀ {L : List α} {i : Nat} {x : α}, L[i]? = some x → ((L.flatMap f).drop (i * k)).take k = f x
  | [], _, _, h => by simp at h
  | y :: L, 0, x, h => by
    simp only [List.getElem?_cons_zero, Option.some.injEq] at h
    subst h
    rw [List.flatMap_cons, Nat.zero_mul, List.drop_zero, ← hf y, List.take_left]
  | y :: L, i + 1, x, h => by
    rw [List.getElem?_cons_succ] at h
    rw [List.flatMap_cons, Nat.add_mul, Nat.one_mul, Nat.add_comm, ← hf y, ← List.drop_drop, List.drop_left, hf y]
    exact flatM_at hf h
theorem flatM_len {α β : Type} {f : α → List β} {k : Nat} (hf : ∀ x, (f x).length = k) : ∀ (L : List α), (L.flatMap f).length = L.length * k
  | [] => by simp
  | y :: L => by rw [List.flatMap_cons, List.length_append, hf, flatM_len hf L, List.length_cons, Nat.add_mul]; omega
theorem pg_at {L : List Pg} {i : Nat} {q : Pg} (h : L[i]? = some q) : ((pgs L).drop (i * 2)).take q.cs.length = q.cs := flatM_at (f := Pg.cs) (k := 2) (fun _ => rfl) h
theorem pgs_len (L : List Pg) : (pgs L).length = L.length * 2 := flatM_len (f := Pg.cs) (k := 2) (fun _ => rfl) L
theorem pgs_ne {L : List Pg} {i : Nat} {q : Pg} (h : L[i]? = some q) : pgs L ≠ [] := by
  cases L with
  | nil => simp at h
  | cons y L => simp [pgs, Pg.cs]
def pchkF (last : Int) : List Pg → Bool
  | [] => true
  | q :: L => decide (last < q.no) && decide (q.no < 4096) && decide (q.s.l.length = 512) && pchkF q.no L
def pchk (L : List Pg) : Nat := if L ≠ [] ∧ pchkF (-1) L = true then 0 else 2
theorem getElem?_drop_cons {α : Type} {L : List α} {i : Nat} {q : α} (h : L[i]? = some q) : L.drop i = q :: L.drop (i + 1) := by
  obtain ⟨hl, hq⟩ := List.getElem?_eq_some_iff.1 h
  rw [← hq]; exact (List.getElem_cons_drop hl).symm
structure PgOk (L : List Pg) : Prop where
  low : ∀ q ∈ L, 0 ≤ q.no
  high : ∀ q ∈ L, q.no < 4096
  len : ∀ q ∈ L, q.s.l.length = 512
  inc : L.Pairwise fun a b => a.no < b.no
theorem pchkF_spec : ∀ {L : List Pg} {last : Int}, pchkF last L = true → (∀ q ∈ L, last < q.no) ∧ (∀ q ∈ L, q.no < 4096) ∧ (∀ q ∈ L, q.s.l.length = 512) ∧ L.Pairwise fun a b => a.no < b.no
  | [], _, _ => ⟨fun _ h => (by cases h), fun _ h => (by cases h), fun _ h => (by cases h), .nil⟩
  | q :: L, last, h => by
    simp only [pchkF, Bool.and_eq_true, decide_eq_true_eq] at h
    obtain ⟨⟨⟨h1, h2⟩, h3⟩, h4⟩ := h
    obtain ⟨k1, k2, k3, k4⟩ := pchkF_spec h4
    refine ⟨fun x hx => ?_, fun x hx => ?_, fun x hx => ?_, .cons k1 k4⟩
    · rcases List.mem_cons.1 hx with rfl | hx
      · exact h1
      · have := k1 x hx; omega
    · rcases List.mem_cons.1 hx with rfl | hx
      · exact h2
      · exact k2 x hx
    · rcases List.mem_cons.1 hx with rfl | hx
      · exact h3
      · exact k3 x hx
theorem pchk_ok {L : List Pg} (h : pchk L = 0) : L ≠ [] ∧ PgOk L := by
  unfold pchk at h
  split at h
  · rename_i h1
    obtain ⟨k1, k2, k3, k4⟩ := pchkF_spec h1.2
    exact ⟨h1.1, ⟨fun q hq => by have := k1 q hq; omega, k2, k3, k4⟩⟩
  · cases h
theorem pchkF_of : ∀ {L : List Pg} {last : Int}, (∀ q ∈ L, last < q.no) → (∀ q ∈ L, q.no < 4096) → (∀ q ∈ L, q.s.l.length = 512) → (L.Pairwise fun a b => a.no < b.no) → pchkF last L = true
  | [], _, _, _, _, _ => rfl
  | q :: L, last, h1, h2, h3, h4 => by
    rw [List.pairwise_cons] at h4
    simp only [pchkF, Bool.and_eq_true, decide_eq_true_eq]
    exact ⟨⟨⟨h1 q (.head _), h2 q (.head _)⟩, h3 q (.head _)⟩, pchkF_of h4.1 (fun x hx => h2 x (.tail _ hx)) (fun x hx => h3 x (.tail _ hx)) h4.2⟩
theorem pchk_of {L : List Pg} (h0 : L ≠ []) (h : PgOk L) : pchk L = 0 := if_pos ⟨h0, pchkF_of (fun q hq => by have := h.low q hq; omega) h.high h.len h.inc⟩
attribute [local irreducible] WL WC WN Yl WH WQ WT WE WU WG WV
theorem jcheck_c (a : Option Addr) (n cap : Nat) (L : List Pg) (w : World) (hl : L.length = n) (hn : n ≤ 100000) (hr : CellsAt w a (pgs L)) :
    Calls Tryz.prog 62 #[.slice a n cap] w (Gives (Val (.int .i64 (pchk L : Int))) w) := by
  refine enter (args := [_]) Tryz.func62 Tryz.ntmps62 rfl rfl ?_
  (repeat (first | refine WL.step (Yl.move rfl) rfl ?_ | refine WL.step (Yl.assign rfl) rfl ?_ | refine WL.step (Yl.len (t := 37) Tryz.underlying37 rfl) rfl ?_ | refine WC.seq ?_ | refine WC.region ?_ | refine WL.nil ?_ | refine WN.then_normal ?_ | refine WC.block ?_))
  refine WC.loop (α := Nat × Int) (fun g => [(6, .slice a n cap), (7, .int .i64 (n : Int)), (8, .int .i64 (g.1 : Int)), (3, .int .i64 g.2)]) (fun _ => [])
    (fun g => g.1 ≤ n ∧ pchkF (-1) L = pchkF g.2 (L.drop g.1) ∧ (g.1 = 0 → g.2 = -1) ∧ (0 < g.1 → 0 ≤ g.2) ∧ -1 ≤ g.2 ∧ g.2 ≤ 4096) (fun g => n - g.1) (0, -1) (by repeat (first | exact Sub.nil | refine Sub.cons rfl rfl ?_)) .nil ⟨Nat.zero_le _, rfl, fun _ => rfl, fun h => absurd h (by decide), by decide, by decide⟩ ?_
  rintro ⟨i, last⟩ ⟨hi, hc, h0, h1, h2, h3⟩
  simp only at hi hc h0 h1 h2 h3 ⊢
  (repeat (first | refine WL.step (Yl.lss rfl rfl) rfl ?_ | refine WC.seq ?_ | refine WC.region ?_ | refine WL.nil ?_ | refine WN.then_normal ?_))
  refine WC.ite rfl (fun h4 => ?_) (fun h4 => ?_)
  · have hin : i < n := by omega
    obtain ⟨q, hq⟩ : ∃ q, L[i]? = some q := ⟨L[i]'(by omega), List.getElem?_eq_getElem (by omega)⟩
    rw [getElem?_drop_cons hq, pchkF] at hc
    (repeat (first | (refine WL.k_load ?_; refine WL.step (Yl.loadEl q.cs Tryz.isAgg106 Tryz.sizeOf106 rfl (Rd.old hr) rfl (by simp [Pg.cs]) (pg_at hq)) rfl ?_) | refine WL.step (Yl.indexAddr (t := 37) (j := i) Tryz.underlying37 Tryz.sizeOf106 rfl rfl (Rd.old hr) (pgs_ne hq) hin) rfl ?_ | refine WC.seq ?_ | refine WC.region ?_ | refine WN.then_normal ?_ | refine WC.block ?_ | refine WC.skip ?_))
    refine WL.allocA Tryz.zeroValue106 rfl fun b5 => ?_
    skip
    refine WL.storeWhole (T := 106) (k := 2) Tryz.sizeOf106 rfl rfl rfl .here rfl rfl ?_
    by_cases k1 : q.no ≤ last
    · have : pchk L = 2 := if_neg fun hh => by
        have h5 := hh.2
        rw [hc] at h5
        simp only [Bool.and_eq_true, decide_eq_true_eq] at h5
        omega
      rw [this]
      (repeat (first | refine WL.pass rfl rfl rfl rfl ?_ | refine WL.step (Yl.move rfl) rfl ?_ | (refine WL.k_load ?_; refine WL.step (Yl.loadBlk (T := 3) Tryz.isAgg3 rfl (by repeat (first | exact .head _ | refine .tail _ ?_)) (by rfl)) rfl ?_) | (refine WL.k_fld ?_; refine WL.step (Yl.fldN0 (i := 0) (o := 0) (by kernel_rfl) rfl) rfl ?_) | refine WL.step (Yl.pick_t rfl rfl rfl) rfl ?_ | (refine WL.k_bin .leq ?_; refine WL.step (Yl.leqT rfl rfl (by omega)) rfl ?_) | refine WC.seq ?_ | refine WC.region ?_ | refine WL.nil ?_ | refine WN.then_normal ?_))
      refine WC.cond_true rfl rfl ?_
      (repeat (first | refine WL.step (Yl.assign rfl) rfl ?_ | refine WC.seq ?_ | refine WC.region ?_ | refine WL.nil ?_ | refine WN.then_normal ?_ | refine WC.ret ?_ | refine WN.then_ret ?_ | refine WN.block_ret ?_))
      exact WN.ret1 rfl rfl ⟨rfl, rfl⟩ .nil
    by_cases k2 : 4096 ≤ q.no
    · have : pchk L = 2 := if_neg fun hh => by
        have h5 := hh.2
        rw [hc] at h5
        simp only [Bool.and_eq_true, decide_eq_true_eq] at h5
        omega
      rw [this]
      (repeat (first | (refine WL.kG ?_; first | refine WL.want rfl rfl rfl ?_ | refine WL.pass rfl rfl rfl rfl ?_) | refine WL.step (Yl.move rfl) rfl ?_ | (refine WL.k_load ?_; refine WL.step (Yl.loadBlk (T := 3) Tryz.isAgg3 rfl (by repeat (first | exact .head _ | refine .tail _ ?_)) (by rfl)) rfl ?_) | (refine WL.k_fld ?_; refine WL.step (Yl.fldN0 (i := 0) (o := 0) (by kernel_rfl) rfl) rfl ?_) | (refine WL.k_pick ?_; first | refine WL.step (Yl.pick_t rfl rfl rfl) rfl ?_ | refine WL.step (Yl.pick_f rfl rfl rfl) rfl ?_) | (refine WL.k_bin .leq ?_; refine WL.step (Yl.leqF rfl rfl (by omega)) rfl ?_) | (refine WL.k_bin .geq ?_; refine WL.step (Yl.geqT rfl rfl (by omega)) rfl ?_) | refine WC.seq ?_ | refine WC.region ?_ | refine WL.nil ?_ | refine WN.then_normal ?_))
      refine WC.cond_true rfl rfl ?_
      (repeat (first | refine WL.step (Yl.assign rfl) rfl ?_ | refine WC.seq ?_ | refine WC.region ?_ | refine WL.nil ?_ | refine WN.then_normal ?_ | refine WC.ret ?_ | refine WN.then_ret ?_ | refine WN.block_ret ?_))
      exact WN.ret1 rfl rfl ⟨rfl, rfl⟩ .nil
    by_cases k3 : q.s.l.length ≠ 512
    · have : pchk L = 2 := if_neg fun hh => by
        have h5 := hh.2
        rw [hc] at h5
        simp only [Bool.and_eq_true, decide_eq_true_eq] at h5
        omega
      rw [this]
      (repeat (first | refine WL.want rfl rfl rfl ?_ | refine WL.step (Yl.move rfl) rfl ?_ | (refine WL.k_load ?_; first | refine WL.step (Yl.loadBlk (T := 3) Tryz.isAgg3 rfl (by repeat (first | exact .head _ | refine .tail _ ?_)) (by rfl)) rfl ?_ | refine WL.step (Yl.loadBlk (T := 23) Tryz.isAgg23 rfl (by repeat (first | exact .head _ | refine .tail _ ?_)) (by rfl)) rfl ?_) | (refine WL.k_fld ?_; first | refine WL.step (Yl.fldN0 (i := 0) (o := 0) (by kernel_rfl) rfl) rfl ?_ | refine WL.step (Yl.fldN0 (i := 1) (o := 1) (by kernel_rfl) rfl) rfl ?_) | refine WL.step (Yl.pick_f rfl rfl rfl) rfl ?_ | (refine WL.k_bin .leq ?_; refine WL.step (Yl.leqF rfl rfl (by omega)) rfl ?_) | (refine WL.k_bin .geq ?_; refine WL.step (Yl.geqF rfl rfl (by omega)) rfl ?_) | refine WL.step (Yl.len (t := 23) (n := q.s.l.length) Tryz.underlying23 rfl) rfl ?_ | (refine WL.k_bin .neq ?_; refine WL.step (Yl.neqT rfl rfl (by omega)) rfl ?_) | refine WC.seq ?_ | refine WC.region ?_ | refine WL.nil ?_ | refine WN.then_normal ?_))
      refine WC.cond_true rfl rfl ?_
      (repeat (first | refine WL.step (Yl.assign rfl) rfl ?_ | refine WC.seq ?_ | refine WC.region ?_ | refine WL.nil ?_ | refine WN.then_normal ?_ | refine WC.ret ?_ | refine WN.then_ret ?_ | refine WN.block_ret ?_))
      exact WN.ret1 rfl rfl ⟨rfl, rfl⟩ .nil
    (repeat (first | refine WL.want rfl rfl rfl ?_ | refine WL.step (Yl.move rfl) rfl ?_ | (refine WL.k_load ?_; first | refine WL.step (Yl.loadBlk (T := 3) Tryz.isAgg3 rfl (by repeat (first | exact .head _ | refine .tail _ ?_)) (by rfl)) rfl ?_ | refine WL.step (Yl.loadBlk (T := 23) Tryz.isAgg23 rfl (by repeat (first | exact .head _ | refine .tail _ ?_)) (by rfl)) rfl ?_) | (refine WL.k_fld ?_; first | refine WL.step (Yl.fldN0 (i := 0) (o := 0) (by kernel_rfl) rfl) rfl ?_ | refine WL.step (Yl.fldN0 (i := 1) (o := 1) (by kernel_rfl) rfl) rfl ?_) | refine WL.step (Yl.pick_f rfl rfl rfl) rfl ?_ | (refine WL.k_bin .leq ?_; refine WL.step (Yl.leqF rfl rfl (by omega)) rfl ?_) | (refine WL.k_bin .geq ?_; refine WL.step (Yl.geqF rfl rfl (by omega)) rfl ?_) | refine WL.step (Yl.len (t := 23) (n := q.s.l.length) Tryz.underlying23 rfl) rfl ?_ | (refine WL.k_bin .neq ?_; refine WL.step (Yl.neqF rfl rfl (by omega)) rfl ?_) | refine WC.seq ?_ | refine WC.region ?_ | refine WL.nil ?_ | refine WN.then_normal ?_))
    refine WC.cond_false rfl rfl ?_
    (repeat (first | refine WL.step (Yl.move rfl) rfl ?_ | refine WL.step (Yl.assign rfl) rfl ?_ | (refine WL.k_load ?_; refine WL.step (Yl.loadBlk (T := 3) Tryz.isAgg3 rfl (by repeat (first | exact .head _ | refine .tail _ ?_)) (by rfl)) rfl ?_) | (refine WL.k_fld ?_; refine WL.step (Yl.fldN0 (i := 0) (o := 0) (by kernel_rfl) rfl) rfl ?_) | (refine WL.k_bin .add ?_; refine WL.step (Yl.add64C rfl (by omega)) rfl ?_) | refine WC.region ?_ | refine WL.nil ?_ | refine WN.then_normal ?_ | refine WC.skip ?_ | refine WN.block_normal ?_))
    refine WN.next (i + 1, q.no) ⟨hin, ?_, fun h => absurd h (by omega), fun _ => by omega, by omega, by omega⟩ (by simp only; omega) (by repeat (first | exact Sub.nil | refine Sub.cons rfl rfl ?_)) .nil
    rw [hc]
    simp only [show decide (last < q.no) = true from decide_eq_true (by omega), show decide (q.no < 4096) = true from decide_eq_true (by omega), show decide (q.s.l.length = 512) = true from decide_eq_true (by omega), Bool.true_and]
  · have hin : i = n := by omega
    have hd : L.drop i = [] := List.drop_eq_nil_of_le (by omega)
    rw [hd, pchkF] at hc
    by_cases hz : n = 0
    · have : pchk L = 2 := if_neg fun hh => hh.1 (List.eq_nil_of_length_eq_zero (by omega))
      rw [this, h0 (by omega)]
      (repeat (first | refine WL.step (Yl.move rfl) rfl ?_ | (refine WL.k_bin .lss ?_; refine WL.step (Yl.lssT rfl rfl (by decide)) rfl ?_) | refine WC.seq ?_ | refine WC.region ?_ | refine WL.nil ?_ | refine WN.then_normal ?_ | refine WC.exit ?_ | refine WN.then_exit ?_ | refine WN.block_here ?_))
      refine WC.cond_true rfl rfl ?_
      (repeat (first | refine WL.step (Yl.assign rfl) rfl ?_ | refine WC.seq ?_ | refine WC.region ?_ | refine WL.nil ?_ | refine WN.then_normal ?_ | refine WC.ret ?_ | refine WN.then_ret ?_))
      exact WN.ret1 rfl rfl ⟨rfl, rfl⟩ .nil
    · have : pchk L = 0 := if_pos ⟨fun h => by rw [h] at hl; exact hz hl.symm, hc⟩
      have hp := h1 (by omega)
      rw [this]
      (repeat (first | refine WL.step (Yl.move rfl) rfl ?_ | (refine WL.k_bin .lss ?_; refine WL.step (Yl.lssF rfl rfl (by omega)) rfl ?_) | refine WC.seq ?_ | refine WC.region ?_ | refine WL.nil ?_ | refine WN.then_normal ?_ | refine WC.exit ?_ | refine WN.then_exit ?_ | refine WN.block_here ?_))
      refine WC.cond_false rfl rfl ?_
      (repeat (first | refine WL.step (Yl.assign rfl) rfl ?_ | refine WC.seq ?_ | refine WC.region ?_ | refine WL.nil ?_ | refine WN.then_normal ?_ | refine WC.skip ?_ | refine WC.ret ?_))
      exact WN.ret1 rfl rfl ⟨rfl, rfl⟩ .nil
end Go.Proofs.YtbkdjfgkebkknaaGreatDoor
