/- The node that a draft makes. -/
import Derived.Test.YtbfhdggfdhlkfaaNod14
namespace Go.Proofs.Ytbfhdggfdhlkfaa
set_option linter.unusedVariables false
set_option linter.unusedSimpArgs false
open Go Go.RowKit
set_option maxRecDepth 100000
set_option maxHeartbeats 8000000
def mvals (vals : List UInt8) (n : Nat) : List (List UInt8) := (List.range n).map (Nod.mval vals)
def mkids (kids : List Nat) (n : Nat) : List Int := (List.range n).map (Nod.mkid kids)
theorem mvals_succ (vals : List UInt8) (n : Nat) : mvals vals (n + 1) = mvals vals n ++ [Nod.mval vals n] := by simp [mvals, List.range_succ]
theorem mkids_succ (kids : List Nat) (n : Nat) : mkids kids (n + 1) = mkids kids n ++ [Nod.mkid kids n] := by simp [mkids, List.range_succ]
theorem mvals_len (vals : List UInt8) (n : Nat) : (mvals vals n).length = n := by simp [mvals]
theorem mkids_len (kids : List Nat) (n : Nat) : (mkids kids n).length = n := by simp [mkids]
theorem mvals_wf (vals : List UInt8) (n : Nat) : ∀ v ∈ mvals vals n, v.length = 20 := fun v hv => by
  obtain ⟨i, _, rfl⟩ := List.mem_map.1 hv; exact Nod.mval_len _ _
attribute [local irreducible] WL WC WN Yl WH WQ WT WE WU
theorem made_t (over : Bool) (f : Nat) (st : List Nat) (vals : List UInt8) (kids : List Nat) (sa va ka : Option Addr) (sc vc cc : Nat) (w : World) (hD : (⟨true, f, st, vals, kids⟩ : Nod.D).Wf) (h : DAt w ⟨true, f, st, vals, kids⟩ sa va ka) :
    Calls Try.prog 29 #[drv true f sa va ka st.length sc vals.length vc kids.length cc, .bool over] w (Gives (NdP (Nod.made ⟨true, f, st, vals, kids⟩ over)) w) := by
  have hsl := h.sl
  have hvl := h.vl
  have hcl := h.cl
  simp only at hsl hvl hcl
  have hC := Nod.count_le ⟨true, f, st, vals, kids⟩ over
  refine enter (args := [_, _]) Try.func29 Try.ntmps29 rfl rfl ?_
  (repeat (first | refine WL.boxA (cs := #[.bool true, .int .u64 (f : Int), .slice sa st.length sc, .slice va vals.length vc, .slice ka kids.length cc]) rfl rfl fun b2 => ?_ | refine WC.seq ?_ | refine WC.region ?_))
  refine WL.allocA Try.zeroValue26 rfl fun b4 => ?_
  (repeat (first | (refine WL.k_load ?_; refine WL.step (Yl.loadBlk (T := 4) Try.isAgg4 rfl (by repeat (first | exact .head _ | refine .tail _ ?_)) (by rfl)) rfl ?_) | refine WL.step (Yl.fld0 (t := 65) Try.underlying65 fl65 rfl rfl) rfl ?_ | refine WL.step (Yl.build (ps := [(0, .tmp 11)]) rfl (buildL true)) rfl ?_ | refine WC.seq ?_ | refine WC.region ?_ | refine WL.nil ?_ | refine WN.then_normal ?_))
  refine WL.allocA Try.zeroValue26 rfl fun b5 => ?_
  refine WL.storeWhole (T := 26) (k := 4) Try.sizeOf26 rfl rfl rfl (by repeat (first | exact Pick.here | apply Pick.there)) rfl rfl ?_
  (repeat (first | refine WL.step (Yl.assign rfl) rfl ?_ | (refine WL.k_load ?_; first | refine WL.step (Yl.loadBlk (T := 4) Try.isAgg4 rfl (by repeat (first | exact .head _ | refine .tail _ ?_)) (by rfl)) rfl ?_ | refine WL.step (Yl.loadBlk (T := 63) Try.isAgg63 rfl (by repeat (first | exact .head _ | refine .tail _ ?_)) (by rfl)) rfl ?_) | refine WL.step (Yl.fld0 (t := 65) Try.underlying65 fl65 rfl rfl) rfl ?_ | refine WL.step (Yl.len (t := 63) Try.underlying63 rfl) rfl ?_ | refine WL.step (Yl.not rfl) rfl ?_ | (refine WL.k_bin .rem ?_; refine WL.step (Yl.remC rfl (by decide)) rfl ?_) | refine WC.seq ?_ | refine WC.region ?_ | refine WL.nil ?_ | refine WN.then_normal ?_))
  refine WC.cond_false rfl rfl ?_
  (repeat (first | refine WL.step (Yl.move rfl) rfl ?_ | refine WC.seq ?_ | refine WC.region ?_ | refine WL.nil ?_ | refine WN.then_normal ?_ | refine WC.skip ?_))
  obtain ⟨C, hCC⟩ : ∃ C, (⟨true, f, st, vals, kids⟩ : Nod.D).count over = C := ⟨_, rfl⟩
  refine WC.join (α := Unit) (fun _ => [(2, .pointer (some ⟨b2, 0, none⟩)), (4, .pointer (some ⟨b4, 0, none⟩)), (5, .pointer (some ⟨b5, 0, none⟩)), (6, .int .i64 (C : Int))]) (fun _ => [.blk b5 (.cells #[.bool true, .slice none 0 0, .slice none 0 0, .slice none 0 0] 26 (0, 0)), .blk b4 (.cells #[.bool false, .slice none 0 0, .slice none 0 0, .slice none 0 0] 26 (0, 0)), .blk b2 (.cells #[.bool true, .int .u64 (f : Int), .slice sa st.length sc, .slice va vals.length vc, .slice ka kids.length cc] 65 (0, 0))]) (fun _ => True) ?_ (fun _ _ => ?_)
  · refine WC.cond rfl (fun ho => ?_) (fun ho => ?_)
    · subst ho
      (repeat (first | refine WL.step (Yl.assign rfl) rfl ?_ | (refine WL.k_load ?_; refine WL.step (Yl.loadBlk (T := 4) Try.isAgg4 rfl (by repeat (first | exact .head _ | refine .tail _ ?_)) (by rfl)) rfl ?_) | refine WL.step (Yl.fld0 (t := 65) Try.underlying65 fl65 rfl rfl) rfl ?_ | refine WL.step (Yl.not rfl) rfl ?_ | refine WC.seq ?_ | refine WC.region ?_ | refine WL.nil ?_ | refine WN.then_normal ?_))
      refine WC.cond_false rfl rfl ?_
      (repeat (first | refine WC.skip ?_))
      exact WN.join () trivial (by rw [← hCC]; exact (by repeat (first | exact Sub.nil | refine Sub.cons rfl rfl ?_))) (by repeat (first | exact Part.nil | refine Part.cons (by repeat (first | exact Pick.here | apply Pick.there)) ?_ | refine Part.free ?_))
    · subst ho
      (repeat (first | refine WC.skip ?_))
      exact WN.join () trivial (by rw [← hCC]; exact (by repeat (first | exact Sub.nil | refine Sub.cons rfl rfl ?_))) (by repeat (first | exact Part.nil | refine Part.cons (by repeat (first | exact Pick.here | apply Pick.there)) ?_ | refine Part.free ?_))
  rw [hCC] at hC
  have hkeys := fun w (q : CellsAt w sa (u16s st)) => keys_c true f C st sa va ka sc vals.length vc kids.length cc w hC hD.first hD.steps hsl q
  (repeat (first | refine WL.step (Yl.move rfl) rfl ?_ | (refine WL.k_load ?_; refine WL.step (Yl.loadAll (T := 65) (T' := 65) (cs := #[.bool true, .int .u64 (f : Int), .slice sa st.length sc, .slice va vals.length vc, .slice ka kids.length cc]) Try.isAgg65 Try.sizeOf65 rfl (by repeat (first | exact .head _ | refine .tail _ ?_)) rfl) rfl ?_) | refine WC.seq ?_ | refine WC.region ?_))
  refine WL.callR (g := 53) Try.call53 rfl (fun w s => hkeys w (Rd.old h.st w s)) rfl fun q hq => ?_
  obtain ⟨qa, qc⟩ := q
  simp only [id] at hq ⊢
  (repeat (first | refine WL.step (Yl.fld0 (t := 26) Try.underlying26 fl26 rfl rfl) rfl ?_))
  refine WL.storeAt (T := 22) Try.sizeOf22 rfl rfl rfl (by repeat (first | exact Pick.here | apply Pick.there)) rfl ?_
  (repeat (first | refine WL.step (Yl.assign rfl) rfl ?_ | refine WC.seq ?_ | refine WC.region ?_ | refine WL.nil ?_ | refine WN.then_normal ?_ | refine WC.block ?_))
  refine WC.joinB (α := Option Addr × Nat) (fun g => [(2, .pointer (some ⟨b2, 0, none⟩)), (4, .pointer (some ⟨b4, 0, none⟩)), (5, .pointer (some ⟨b5, 0, none⟩)), (6, .int .i64 (C : Int))]) (fun g => [.row g.1 g.2 73 20 (vcells (mvals vals C)), .row qa qc 42 33 (kcells (Nod.mkeys st f C)), .blk b5 (.cells #[.bool true, .slice qa C qc, .slice g.1 C g.2, .slice none 0 0] 26 (0, 0)), .blk b4 (.cells #[.bool false, .slice none 0 0, .slice none 0 0, .slice none 0 0] 26 (0, 0)), .blk b2 (.cells #[.bool true, .int .u64 (f : Int), .slice sa st.length sc, .slice va vals.length vc, .slice ka kids.length cc] 65 (0, 0))]) (fun g => C ≤ g.2) ?_ ?_
  · refine WC.loop (α := Nat × Option Addr × Nat) (fun g => [(2, .pointer (some ⟨b2, 0, none⟩)), (4, .pointer (some ⟨b4, 0, none⟩)), (5, .pointer (some ⟨b5, 0, none⟩)), (6, .int .i64 (C : Int)), (7, .int .i64 (g.1 : Int))]) (fun g => [.row g.2.1 g.2.2 73 20 (vcells (mvals vals g.1)), .row qa qc 42 33 (kcells (Nod.mkeys st f C)), .blk b5 (.cells #[.bool true, .slice qa C qc, .slice g.2.1 g.1 g.2.2, .slice none 0 0] 26 (0, 0)), .blk b4 (.cells #[.bool false, .slice none 0 0, .slice none 0 0, .slice none 0 0] 26 (0, 0)), .blk b2 (.cells #[.bool true, .int .u64 (f : Int), .slice sa st.length sc, .slice va vals.length vc, .slice ka kids.length cc] 65 (0, 0))])
      (fun g => g.1 ≤ C ∧ g.1 ≤ g.2.2) (fun g => C - g.1) (0, none, 0) (by repeat (first | exact Sub.nil | refine Sub.cons rfl rfl ?_)) (.free (by repeat (first | exact Part.nil | refine Part.cons (by repeat (first | exact Pick.here | apply Pick.there)) ?_ | refine Part.free ?_))) ⟨by simp, by simp⟩ ?_
    intro ⟨i, a, ac⟩ ⟨hi, ha⟩
    simp only at hi ha ⊢
    by_cases h1 : i < C
    · (repeat (first | refine WL.want rfl rfl rfl ?_ | refine WL.step (Yl.move rfl) rfl ?_ | (refine WL.k_load ?_; refine WL.step (Yl.loadBlk (T := 4) Try.isAgg4 rfl (by repeat (first | exact .head _ | refine .tail _ ?_)) (by rfl)) rfl ?_) | refine WL.step (Yl.fld0 (t := 65) Try.underlying65 fl65 rfl rfl) rfl ?_ | refine WL.step (Yl.pick_t rfl rfl rfl) rfl ?_ | (refine WL.k_bin .lss ?_; refine WL.step (Yl.lssT rfl rfl (by omega)) rfl ?_) | refine WC.seq ?_ | refine WC.region ?_ | refine WL.nil ?_ | refine WN.then_normal ?_))
      refine WC.cond_true rfl rfl ?_
      (repeat (first | refine WL.step (Yl.move rfl) rfl ?_ | refine WL.step (Yl.convN (s := 3) (t := 5) Try.underlying3 Try.underlying5 rfl rfl) rfl ?_ | (refine WL.k_build ?_; refine WL.step (Yl.build (ps := [(0, .tmp 43)]) rfl (fun w => by rw [bvof]; exact buildV1 _ w)) rfl ?_) | refine WC.seq ?_ | refine WC.region ?_ | refine WN.then_normal ?_ | refine WC.block ?_ | refine WC.skip ?_))
      refine WL.allocA zeroVal rfl fun b8 => ?_
      refine WL.storeWhole (k := 20) (us := (bs (UInt8.ofNat i :: List.replicate 19 0)).toArray) Try.sizeOf73 rfl rfl (bs_all _) (by repeat (first | exact Pick.here | apply Pick.there)) rfl rfl ?_
      (repeat (first | (refine WL.k_load ?_; refine WL.step (Yl.loadBlk (T := 34) Try.isAgg34 rfl (by repeat (first | exact .head _ | refine .tail _ ?_)) (by rfl)) rfl ?_) | refine WL.step (Yl.fld0 (t := 65) Try.underlying65 fl65 rfl rfl) rfl ?_ | refine WL.step (Yl.len (t := 34) Try.underlying34 rfl) rfl ?_ | refine WL.step (Yl.gtr rfl rfl) rfl ?_ | refine WC.seq ?_ | refine WC.region ?_ | refine WL.nil ?_ | refine WN.then_normal ?_))
      refine WC.join (α := Unit) (fun _ => [(2, .pointer (some ⟨b2, 0, none⟩)), (4, .pointer (some ⟨b4, 0, none⟩)), (5, .pointer (some ⟨b5, 0, none⟩)), (6, .int .i64 (C : Int)), (7, .int .i64 (i : Int)), (8, .pointer (some ⟨b8, 0, none⟩))]) (fun _ => [.blk b8 (.cells (bs (Nod.mval vals i)).toArray 73 (0, 0)), .row a ac 73 20 (vcells (mvals vals i)), .row qa qc 42 33 (kcells (Nod.mkeys st f C)), .blk b5 (.cells #[.bool true, .slice qa C qc, .slice a i ac, .slice none 0 0] 26 (0, 0)), .blk b4 (.cells #[.bool false, .slice none 0 0, .slice none 0 0, .slice none 0 0] 26 (0, 0)), .blk b2 (.cells #[.bool true, .int .u64 (f : Int), .slice sa st.length sc, .slice va vals.length vc, .slice ka kids.length cc] 65 (0, 0))]) (fun _ => True) ?_ (fun _ _ => ?_)
      · refine WC.ite rfl (fun h2 => ?_) (fun h2 => ?_)
        · have h0 : 0 < vals.length := by omega
          have him : i % vals.length < vals.length := Nat.mod_lt _ h0
          skip
          refine WC.regionH [.blk b2 (.cells #[.bool true, .int .u64 (f : Int), .slice sa st.length sc, .slice va vals.length vc, .slice ka kids.length cc] 65 (0, 0))] (by kernel_rfl) ?_
          (refine WH.order [0, 1, 2, 3, 4, 5, 6, 7, 8, 9] (by repeat (first | exact Part.nil | refine Part.cons (by repeat (first | exact Pick.here | apply Pick.there)) ?_ | refine Part.free ?_)) (by kernel_rfl) ?_; (repeat (first | (refine WT.k_move rfl ?_; (refine WT.kn rfl ?_; refine WT.take rfl rfl (fun _ _ _ h => h) (Yl.move rfl) rfl (by kernel_rfl) (by kernel_rfl) ?_)) | (refine WT.k_load rfl ?_; (refine WT.kn rfl ?_; first | refine WT.take rfl rfl (fun _ _ _ h => h) (Yl.loadBlk (T := 34) Try.isAgg34 rfl (by repeat (first | exact .head _ | refine .tail _ ?_)) (by rfl)) rfl (by kernel_rfl) (by kernel_rfl) ?_ | refine WT.take rfl rfl (fun _ _ _ h => h) (Yl.load (T := 5) Try.isAgg5 rfl (.old h.vs) (bs_get him)) rfl (by kernel_rfl) (by kernel_rfl) ?_)) | (refine WT.k_fld rfl ?_; (refine WT.kn rfl ?_; refine WT.take rfl rfl (fun _ _ _ h => h) (Yl.fld0 (t := 65) Try.underlying65 fl65 rfl rfl) rfl (by kernel_rfl) (by kernel_rfl) ?_)) | (refine WT.k_bi .len rfl ?_; (refine WT.kn rfl ?_; refine WT.take rfl rfl (fun _ _ _ h => h) (Yl.len (t := 34) Try.underlying34 rfl) rfl (by kernel_rfl) (by kernel_rfl) ?_)) | (refine WT.k_bin .rem rfl ?_; (refine WT.kn rfl ?_; refine WT.take rfl rfl (fun _ _ _ h => h) (Yl.remN rfl rfl h0) rfl (by kernel_rfl) (by kernel_rfl) ?_)) | (refine WT.k_idxa rfl ?_; (refine WT.kn rfl ?_; first | refine WT.take rfl rfl (fun _ _ _ h => h) (Yl.indexAddr1 (t := 34) Try.underlying34 Try.sizeOf5 rfl rfl (.old h.vs) (bs_ne him) him) rfl (by kernel_rfl) (by kernel_rfl) ?_ | refine WT.take rfl rfl (fun _ _ _ h => h) (Yl.indexArr (t := 73) (j := 19) Try.underlying73 Try.sizeOf5 rfl rfl (by decide)) rfl (by kernel_rfl) (by kernel_rfl) ?_)))); refine WT.nil ?_)
          refine WH.only (i := 10) (by kernel_rfl) rfl ?_
          refine WL.store1 (T := 5) Try.sizeOf5 rfl rfl rfl (by repeat (first | exact Pick.here | apply Pick.there)) (by rw [List.size_toArray, bs_length]; simp) ?_
          rw [show (0 + 19 * 1) = 19 from rfl, mval_put h0]
          refine WL.nil (WN.nextH (by repeat (first | exact Part.nil | refine Part.cons (by repeat (first | exact Pick.here | apply Pick.there)) ?_ | refine Part.free ?_)) ?_)
          refine WH.done (by kernel_rfl) ?_
          skip
          exact WN.join () trivial (by repeat (first | exact Sub.nil | refine Sub.cons rfl rfl ?_)) (by repeat (first | exact Part.nil | refine Part.cons (by repeat (first | exact Pick.here | apply Pick.there)) ?_ | refine Part.free ?_))
        · obtain rfl : vals = [] := List.eq_nil_of_length_eq_zero (by omega)
          rw [mval_nil]
          (repeat (first | refine WC.skip ?_))
          exact WN.join () trivial (by repeat (first | exact Sub.nil | refine Sub.cons rfl rfl ?_)) (by repeat (first | exact Part.nil | refine Part.cons (by repeat (first | exact Pick.here | apply Pick.there)) ?_ | refine Part.free ?_))
      · have hvs := bs_size (Nod.mval_len vals i)
        (repeat (first | (refine WL.k_load ?_; first | refine WL.step (Yl.loadBlk (T := 23) Try.isAgg23 rfl (by repeat (first | exact .head _ | refine .tail _ ?_)) (by rfl)) rfl ?_ | refine WL.step (Yl.loadAll (T' := 73) (cs := (bs (Nod.mval vals i)).toArray) Try.isAgg73 Try.sizeOf73 rfl (by repeat (first | exact .head _ | refine .tail _ ?_)) hvs) rfl ?_) | refine WL.step (Yl.fld0 (t := 26) Try.underlying26 fl26 rfl rfl) rfl ?_ | refine WC.region ?_))
        refine WL.lit (t := 23) Try.underlying23 elemVal rfl rfl rfl (fun u hu => by rw [List.mem_singleton.1 hu]; show (bs _).toArray.size = 20; rw [List.size_toArray, bs_length, Nod.mval_len]) rfl fun b9 => ?_
        rw [flatV]
        refine WL.appendRow (t := 23) (n := i) (m := 1) (olds := vcells (mvals vals i)) Try.underlying23 elemVal rfl rfl (by repeat (first | exact Pick.here | apply Pick.there)) (by rw [vcells_len (mvals_wf _ _), mvals_len]) ha (Rd.row (.head _)) (by rw [bs_length, Nod.mval_len]) (bs_one _) (by omega) (by simp only [maxLen]; omega) rfl fun q2 hq2 => ?_
        rw [← vcells_snoc, ← mvals_succ]
        (repeat (first | refine WL.step (Yl.fld0 (t := 26) Try.underlying26 fl26 rfl rfl) rfl ?_))
        refine WL.storeAt (T := 23) Try.sizeOf23 rfl rfl rfl (by repeat (first | exact Pick.here | apply Pick.there)) rfl ?_
        (repeat (first | refine WL.step (Yl.move rfl) rfl ?_ | refine WL.step (Yl.assign rfl) rfl ?_ | (refine WL.k_bin .add ?_; refine WL.step (Yl.add64C rfl (by omega)) rfl ?_) | refine WC.region ?_ | refine WL.nil ?_ | refine WN.then_normal ?_ | refine WN.block_normal ?_))
        exact WN.next (i + 1, q2) ⟨by simp only; omega, hq2⟩ (by simp only; omega) (by repeat (first | exact Sub.nil | refine Sub.cons rfl rfl ?_)) (by repeat (first | exact Part.nil | refine Part.cons (by repeat (first | exact Pick.here | apply Pick.there)) ?_ | refine Part.free ?_))
    · obtain rfl : i = C := by omega
      (repeat (first | refine WL.pass rfl rfl rfl rfl ?_ | refine WL.step (Yl.move rfl) rfl ?_ | refine WL.step (Yl.pick_f rfl rfl rfl) rfl ?_ | (refine WL.k_bin .lss ?_; refine WL.step (Yl.lssF rfl rfl (by omega)) rfl ?_) | refine WC.seq ?_ | refine WC.region ?_ | refine WL.nil ?_ | refine WN.then_normal ?_))
      refine WC.cond_false rfl rfl ?_
      (repeat (first | refine WC.exit ?_ | refine WN.then_exit ?_ | refine WN.block_here ?_))
      exact WN.join (a, ac) ha (by repeat (first | exact Sub.nil | refine Sub.cons rfl rfl ?_)) (by repeat (first | exact Part.nil | refine Part.cons (by repeat (first | exact Pick.here | apply Pick.there)) ?_ | refine Part.free ?_))
  · intro ⟨a, ac⟩ hac
    simp only at hac ⊢
    (repeat (first | refine WL.step (Yl.assign rfl) rfl ?_ | refine WC.seq ?_ | refine WC.region ?_ | refine WL.nil ?_ | refine WN.then_normal ?_ | refine WC.block ?_))
    refine WC.joinB (α := Unit) (fun _ => [(4, .pointer (some ⟨b4, 0, none⟩)), (5, .pointer (some ⟨b5, 0, none⟩))]) (fun _ => [.row a ac 73 20 (vcells (mvals vals C)), .row qa qc 42 33 (kcells (Nod.mkeys st f C)), .blk b5 (.cells #[.bool true, .slice qa C qc, .slice a C ac, .slice none 0 0] 26 (0, 0)), .blk b4 (.cells #[.bool false, .slice none 0 0, .slice none 0 0, .slice none 0 0] 26 (0, 0))]) (fun _ => True) ?_ (fun _ _ => ?_)
    · refine WC.loop (α := Unit) (fun _ => [(2, .pointer (some ⟨b2, 0, none⟩)), (4, .pointer (some ⟨b4, 0, none⟩)), (5, .pointer (some ⟨b5, 0, none⟩)), (6, .int .i64 (C : Int)), (9, .int .i64 0)]) (fun _ => [.row a ac 73 20 (vcells (mvals vals C)), .row qa qc 42 33 (kcells (Nod.mkeys st f C)), .blk b5 (.cells #[.bool true, .slice qa C qc, .slice a C ac, .slice none 0 0] 26 (0, 0)), .blk b4 (.cells #[.bool false, .slice none 0 0, .slice none 0 0, .slice none 0 0] 26 (0, 0)), .blk b2 (.cells #[.bool true, .int .u64 (f : Int), .slice sa st.length sc, .slice va vals.length vc, .slice ka kids.length cc] 65 (0, 0))]) (fun _ => True) (fun _ => 0) () (by repeat (first | exact Sub.nil | refine Sub.cons rfl rfl ?_)) (by repeat (first | exact Part.nil | refine Part.cons (by repeat (first | exact Pick.here | apply Pick.there)) ?_ | refine Part.free ?_)) trivial ?_
      intro _ _
      (repeat (first | refine WL.want rfl rfl rfl ?_ | refine WL.step (Yl.move rfl) rfl ?_ | (refine WL.k_load ?_; refine WL.step (Yl.loadBlk (T := 4) Try.isAgg4 rfl (by repeat (first | exact .head _ | refine .tail _ ?_)) (by rfl)) rfl ?_) | refine WL.step (Yl.fld0 (t := 65) Try.underlying65 fl65 rfl rfl) rfl ?_ | refine WL.step (Yl.pick_t rfl rfl rfl) rfl ?_ | (refine WL.k_bin .leq ?_; refine WL.step (Yl.leqT rfl rfl (by omega)) rfl ?_) | refine WL.step (Yl.not rfl) rfl ?_ | refine WC.seq ?_ | refine WC.region ?_ | refine WL.nil ?_ | refine WN.then_normal ?_))
      refine WC.cond_false rfl rfl ?_
      (repeat (first | refine WC.exit ?_ | refine WN.then_exit ?_ | refine WN.block_here ?_))
      exact WN.join () trivial (by repeat (first | exact Sub.nil | refine Sub.cons rfl rfl ?_)) (by repeat (first | exact Part.nil | refine Part.cons (by repeat (first | exact Pick.here | apply Pick.there)) ?_ | refine Part.free ?_))
    · have hm : Nod.made ⟨true, f, st, vals, kids⟩ over = ⟨true, Nod.mkeys st f C, mvals vals C, []⟩ := by rw [Nod.made_t rfl, hCC]; rfl
      rw [hm]
      (repeat (first | (refine WL.k_load ?_; refine WL.step (Yl.loadAll (T := 26) (T' := 26) Try.isAgg26 Try.sizeOf26 rfl (by repeat (first | exact .head _ | refine .tail _ ?_)) rfl) rfl ?_) | refine WC.seq ?_ | refine WC.region ?_))
      refine WL.storeWhole (T := 26) (k := 4) (us := #[.bool true, .slice qa C qc, .slice a C ac, .slice none 0 0]) Try.sizeOf26 rfl rfl rfl (by repeat (first | exact Pick.here | apply Pick.there)) rfl rfl ?_
      (repeat (first | refine WL.nil ?_ | refine WN.then_normal ?_ | refine WC.ret ?_))
      have l1 := Nod.mkeys_len st f C
      have l2 := mvals_len vals C
      exact WN.ret1C rfl Try.isAgg26 Try.sizeOf26 rfl (by repeat (first | exact .head _ | refine .tail _ ?_)) rfl ⟨⟨qa, qc, a, ac, none, 0⟩, by simp only [l1]; exact hq, by simp only [l2]; exact hac, Nat.le_refl _, by simp only [id, ndv, ndl, l1, l2]; rfl, rfl⟩ (.cons (by repeat (first | exact Pick.here | apply Pick.there)) (.cons (by repeat (first | exact Pick.here | apply Pick.there)) (.free .nil)))
theorem made_f (over : Bool) (f : Nat) (st : List Nat) (vals : List UInt8) (kids : List Nat) (sa va ka : Option Addr) (sc vc cc : Nat) (w : World) (hD : (⟨false, f, st, vals, kids⟩ : Nod.D).Wf) (h : DAt w ⟨false, f, st, vals, kids⟩ sa va ka) :
    Calls Try.prog 29 #[drv false f sa va ka st.length sc vals.length vc kids.length cc, .bool over] w (Gives (NdP (Nod.made ⟨false, f, st, vals, kids⟩ over)) w) := by
  have hsl := h.sl
  have hvl := h.vl
  have hcl := h.cl
  simp only at hsl hvl hcl
  have hC := Nod.count_le ⟨false, f, st, vals, kids⟩ over
  refine enter (args := [_, _]) Try.func29 Try.ntmps29 rfl rfl ?_
  (repeat (first | refine WL.boxA (cs := #[.bool false, .int .u64 (f : Int), .slice sa st.length sc, .slice va vals.length vc, .slice ka kids.length cc]) rfl rfl fun b2 => ?_ | refine WC.seq ?_ | refine WC.region ?_))
  refine WL.allocA Try.zeroValue26 rfl fun b4 => ?_
  (repeat (first | (refine WL.k_load ?_; refine WL.step (Yl.loadBlk (T := 4) Try.isAgg4 rfl (by repeat (first | exact .head _ | refine .tail _ ?_)) (by rfl)) rfl ?_) | refine WL.step (Yl.fld0 (t := 65) Try.underlying65 fl65 rfl rfl) rfl ?_ | refine WL.step (Yl.build (ps := [(0, .tmp 11)]) rfl (buildL false)) rfl ?_ | refine WC.seq ?_ | refine WC.region ?_ | refine WL.nil ?_ | refine WN.then_normal ?_))
  refine WL.allocA Try.zeroValue26 rfl fun b5 => ?_
  refine WL.storeWhole (T := 26) (k := 4) Try.sizeOf26 rfl rfl rfl (by repeat (first | exact Pick.here | apply Pick.there)) rfl rfl ?_
  (repeat (first | refine WL.step (Yl.assign rfl) rfl ?_ | (refine WL.k_load ?_; first | refine WL.step (Yl.loadBlk (T := 4) Try.isAgg4 rfl (by repeat (first | exact .head _ | refine .tail _ ?_)) (by rfl)) rfl ?_ | refine WL.step (Yl.loadBlk (T := 63) Try.isAgg63 rfl (by repeat (first | exact .head _ | refine .tail _ ?_)) (by rfl)) rfl ?_) | refine WL.step (Yl.fld0 (t := 65) Try.underlying65 fl65 rfl rfl) rfl ?_ | refine WL.step (Yl.len (t := 63) Try.underlying63 rfl) rfl ?_ | refine WL.step (Yl.not rfl) rfl ?_ | (refine WL.k_bin .rem ?_; refine WL.step (Yl.remC rfl (by decide)) rfl ?_) | refine WC.seq ?_ | refine WC.region ?_ | refine WL.nil ?_ | refine WN.then_normal ?_))
  refine WC.cond_true rfl rfl ?_
  (repeat (first | refine WL.step (Yl.move rfl) rfl ?_ | refine WL.step (Yl.assign rfl) rfl ?_ | (refine WL.k_load ?_; refine WL.step (Yl.loadBlk (T := 63) Try.isAgg63 rfl (by repeat (first | exact .head _ | refine .tail _ ?_)) (by rfl)) rfl ?_) | refine WL.step (Yl.fld0 (t := 65) Try.underlying65 fl65 rfl rfl) rfl ?_ | refine WL.step (Yl.len (t := 63) Try.underlying63 rfl) rfl ?_ | (refine WL.k_bin .add ?_; refine WL.step (Yl.addC64 rfl (by omega)) rfl ?_) | (refine WL.k_bin .rem ?_; refine WL.step (Yl.remC rfl (by decide)) rfl ?_) | refine WC.seq ?_ | refine WC.region ?_ | refine WL.nil ?_ | refine WN.then_normal ?_))
  obtain ⟨C, hCC⟩ : ∃ C, (⟨false, f, st, vals, kids⟩ : Nod.D).count over = C := ⟨_, rfl⟩
  refine WC.join (α := Unit) (fun _ => [(2, .pointer (some ⟨b2, 0, none⟩)), (4, .pointer (some ⟨b4, 0, none⟩)), (5, .pointer (some ⟨b5, 0, none⟩)), (6, .int .i64 (C : Int))]) (fun _ => [.blk b5 (.cells #[.bool false, .slice none 0 0, .slice none 0 0, .slice none 0 0] 26 (0, 0)), .blk b4 (.cells #[.bool false, .slice none 0 0, .slice none 0 0, .slice none 0 0] 26 (0, 0)), .blk b2 (.cells #[.bool false, .int .u64 (f : Int), .slice sa st.length sc, .slice va vals.length vc, .slice ka kids.length cc] 65 (0, 0))]) (fun _ => True) ?_ (fun _ _ => ?_)
  · refine WC.cond rfl (fun ho => ?_) (fun ho => ?_)
    · subst ho
      (repeat (first | refine WL.step (Yl.assign rfl) rfl ?_ | (refine WL.k_load ?_; refine WL.step (Yl.loadBlk (T := 4) Try.isAgg4 rfl (by repeat (first | exact .head _ | refine .tail _ ?_)) (by rfl)) rfl ?_) | refine WL.step (Yl.fld0 (t := 65) Try.underlying65 fl65 rfl rfl) rfl ?_ | refine WL.step (Yl.not rfl) rfl ?_ | refine WC.seq ?_ | refine WC.region ?_ | refine WL.nil ?_ | refine WN.then_normal ?_))
      refine WC.cond_true rfl rfl ?_
      (repeat (first | refine WL.step (Yl.assign rfl) rfl ?_ | refine WC.region ?_ | refine WL.nil ?_))
      exact WN.join () trivial (by rw [← hCC]; exact (by repeat (first | exact Sub.nil | refine Sub.cons rfl rfl ?_))) (by repeat (first | exact Part.nil | refine Part.cons (by repeat (first | exact Pick.here | apply Pick.there)) ?_ | refine Part.free ?_))
    · subst ho
      (repeat (first | refine WC.skip ?_))
      exact WN.join () trivial (by rw [← hCC]; exact (by repeat (first | exact Sub.nil | refine Sub.cons rfl rfl ?_))) (by repeat (first | exact Part.nil | refine Part.cons (by repeat (first | exact Pick.here | apply Pick.there)) ?_ | refine Part.free ?_))
  rw [hCC] at hC
  have hkeys := fun w (q : CellsAt w sa (u16s st)) => keys_c false f C st sa va ka sc vals.length vc kids.length cc w hC hD.first hD.steps hsl q
  (repeat (first | refine WL.step (Yl.move rfl) rfl ?_ | (refine WL.k_load ?_; refine WL.step (Yl.loadAll (T := 65) (T' := 65) (cs := #[.bool false, .int .u64 (f : Int), .slice sa st.length sc, .slice va vals.length vc, .slice ka kids.length cc]) Try.isAgg65 Try.sizeOf65 rfl (by repeat (first | exact .head _ | refine .tail _ ?_)) rfl) rfl ?_) | refine WC.seq ?_ | refine WC.region ?_))
  refine WL.callR (g := 53) Try.call53 rfl (fun w s => hkeys w (Rd.old h.st w s)) rfl fun q hq => ?_
  obtain ⟨qa, qc⟩ := q
  simp only [id] at hq ⊢
  (repeat (first | refine WL.step (Yl.fld0 (t := 26) Try.underlying26 fl26 rfl rfl) rfl ?_))
  refine WL.storeAt (T := 22) Try.sizeOf22 rfl rfl rfl (by repeat (first | exact Pick.here | apply Pick.there)) rfl ?_
  (repeat (first | refine WL.step (Yl.assign rfl) rfl ?_ | refine WC.seq ?_ | refine WC.region ?_ | refine WL.nil ?_ | refine WN.then_normal ?_ | refine WC.block ?_))
  refine WC.joinB (α := Unit) (fun _ => [(2, .pointer (some ⟨b2, 0, none⟩)), (4, .pointer (some ⟨b4, 0, none⟩)), (5, .pointer (some ⟨b5, 0, none⟩)), (6, .int .i64 (C : Int))]) (fun _ => [.row qa qc 42 33 (kcells (Nod.mkeys st f C)), .blk b5 (.cells #[.bool false, .slice qa C qc, .slice none 0 0, .slice none 0 0] 26 (0, 0)), .blk b4 (.cells #[.bool false, .slice none 0 0, .slice none 0 0, .slice none 0 0] 26 (0, 0)), .blk b2 (.cells #[.bool false, .int .u64 (f : Int), .slice sa st.length sc, .slice va vals.length vc, .slice ka kids.length cc] 65 (0, 0))]) (fun _ => True) ?_ (fun _ _ => ?_)
  · refine WC.loop (α := Unit) (fun _ => [(2, .pointer (some ⟨b2, 0, none⟩)), (4, .pointer (some ⟨b4, 0, none⟩)), (5, .pointer (some ⟨b5, 0, none⟩)), (6, .int .i64 (C : Int)), (7, .int .i64 0)]) (fun _ => [.row qa qc 42 33 (kcells (Nod.mkeys st f C)), .blk b5 (.cells #[.bool false, .slice qa C qc, .slice none 0 0, .slice none 0 0] 26 (0, 0)), .blk b4 (.cells #[.bool false, .slice none 0 0, .slice none 0 0, .slice none 0 0] 26 (0, 0)), .blk b2 (.cells #[.bool false, .int .u64 (f : Int), .slice sa st.length sc, .slice va vals.length vc, .slice ka kids.length cc] 65 (0, 0))]) (fun _ => True) (fun _ => 0) () (by repeat (first | exact Sub.nil | refine Sub.cons rfl rfl ?_)) (by repeat (first | exact Part.nil | refine Part.cons (by repeat (first | exact Pick.here | apply Pick.there)) ?_ | refine Part.free ?_)) trivial ?_
    intro _ _
    by_cases h0 : C = 0
    · (repeat (first | refine WL.pass rfl rfl rfl rfl ?_ | refine WL.step (Yl.move rfl) rfl ?_ | refine WL.step (Yl.pick_f rfl rfl rfl) rfl ?_ | (refine WL.k_bin .lss ?_; refine WL.step (Yl.lssF rfl rfl (by omega)) rfl ?_) | refine WC.seq ?_ | refine WC.region ?_ | refine WL.nil ?_ | refine WN.then_normal ?_))
      refine WC.cond_false rfl rfl ?_
      (repeat (first | refine WC.exit ?_ | refine WN.then_exit ?_ | refine WN.block_here ?_))
      exact WN.join () trivial (by repeat (first | exact Sub.nil | refine Sub.cons rfl rfl ?_)) (by repeat (first | exact Part.nil | refine Part.cons (by repeat (first | exact Pick.here | apply Pick.there)) ?_ | refine Part.free ?_))
    · (repeat (first | refine WL.want rfl rfl rfl ?_ | refine WL.step (Yl.move rfl) rfl ?_ | (refine WL.k_load ?_; refine WL.step (Yl.loadBlk (T := 4) Try.isAgg4 rfl (by repeat (first | exact .head _ | refine .tail _ ?_)) (by rfl)) rfl ?_) | refine WL.step (Yl.fld0 (t := 65) Try.underlying65 fl65 rfl rfl) rfl ?_ | refine WL.step (Yl.pick_t rfl rfl rfl) rfl ?_ | (refine WL.k_bin .lss ?_; refine WL.step (Yl.lssT rfl rfl (by omega)) rfl ?_) | refine WC.seq ?_ | refine WC.region ?_ | refine WL.nil ?_ | refine WN.then_normal ?_))
      refine WC.cond_false rfl rfl ?_
      (repeat (first | refine WC.exit ?_ | refine WN.then_exit ?_ | refine WN.block_here ?_))
      exact WN.join () trivial (by repeat (first | exact Sub.nil | refine Sub.cons rfl rfl ?_)) (by repeat (first | exact Part.nil | refine Part.cons (by repeat (first | exact Pick.here | apply Pick.there)) ?_ | refine Part.free ?_))
  · (repeat (first | refine WL.step (Yl.assign rfl) rfl ?_ | refine WC.seq ?_ | refine WC.region ?_ | refine WL.nil ?_ | refine WN.then_normal ?_ | refine WC.block ?_))
    refine WC.joinB (α := Option Addr × Nat) (fun g => [(4, .pointer (some ⟨b4, 0, none⟩)), (5, .pointer (some ⟨b5, 0, none⟩))]) (fun g => [.row g.1 g.2 3 1 (icells (mkids kids (C + 1))), .row qa qc 42 33 (kcells (Nod.mkeys st f C)), .blk b5 (.cells #[.bool false, .slice qa C qc, .slice none 0 0, .slice g.1 (C + 1) g.2] 26 (0, 0)), .blk b4 (.cells #[.bool false, .slice none 0 0, .slice none 0 0, .slice none 0 0] 26 (0, 0))]) (fun g => C + 1 ≤ g.2) ?_ ?_
    · refine WC.loop (α := Nat × Option Addr × Nat) (fun g => [(2, .pointer (some ⟨b2, 0, none⟩)), (4, .pointer (some ⟨b4, 0, none⟩)), (5, .pointer (some ⟨b5, 0, none⟩)), (6, .int .i64 (C : Int)), (9, .int .i64 (g.1 : Int))]) (fun g => [.row g.2.1 g.2.2 3 1 (icells (mkids kids g.1)), .row qa qc 42 33 (kcells (Nod.mkeys st f C)), .blk b5 (.cells #[.bool false, .slice qa C qc, .slice none 0 0, .slice g.2.1 g.1 g.2.2] 26 (0, 0)), .blk b4 (.cells #[.bool false, .slice none 0 0, .slice none 0 0, .slice none 0 0] 26 (0, 0)), .blk b2 (.cells #[.bool false, .int .u64 (f : Int), .slice sa st.length sc, .slice va vals.length vc, .slice ka kids.length cc] 65 (0, 0))])
        (fun g => g.1 ≤ C + 1 ∧ g.1 ≤ g.2.2) (fun g => C + 1 - g.1) (0, none, 0) (by repeat (first | exact Sub.nil | refine Sub.cons rfl rfl ?_)) (.free (by repeat (first | exact Part.nil | refine Part.cons (by repeat (first | exact Pick.here | apply Pick.there)) ?_ | refine Part.free ?_))) ⟨by simp, by simp⟩ ?_
      intro ⟨i, a, ac⟩ ⟨hi, ha⟩
      simp only at hi ha ⊢
      by_cases h1 : i ≤ C
      · have hat := Nod.at_lt hD.kids i
        simp only at hat
        (repeat (first | refine WL.want rfl rfl rfl ?_ | refine WL.step (Yl.move rfl) rfl ?_ | (refine WL.k_load ?_; refine WL.step (Yl.loadBlk (T := 4) Try.isAgg4 rfl (by repeat (first | exact .head _ | refine .tail _ ?_)) (by rfl)) rfl ?_) | refine WL.step (Yl.fld0 (t := 65) Try.underlying65 fl65 rfl rfl) rfl ?_ | refine WL.step (Yl.pick_t rfl rfl rfl) rfl ?_ | (refine WL.k_bin .leq ?_; refine WL.step (Yl.leqT rfl rfl (by omega)) rfl ?_) | refine WL.step (Yl.not rfl) rfl ?_ | refine WC.seq ?_ | refine WC.region ?_ | refine WL.nil ?_ | refine WN.then_normal ?_))
        refine WC.cond_true rfl rfl ?_
        (repeat (first | refine WC.seq ?_ | refine WN.then_normal ?_ | refine WC.block ?_ | refine WC.skip ?_))
        refine WC.regionE [.blk b5 (.cells #[.bool false, .slice qa C qc, .slice none 0 0, .slice a i ac] 26 (0, 0)), .blk b2 (.cells #[.bool false, .int .u64 (f : Int), .slice sa st.length sc, .slice va vals.length vc, .slice ka kids.length cc] 65 (0, 0))] 11 (by kernel_rfl) ?_
        (refine WE.order [0, 1, 2, 3, 4] (by repeat (first | exact Part.nil | refine Part.cons (by repeat (first | exact Pick.here | apply Pick.there)) ?_ | refine Part.free ?_)) (by kernel_rfl) ?_; (repeat (first | (refine WU.k_move rfl ?_; (refine WU.kn rfl ?_; refine WU.take rfl rfl (fun _ _ _ h => h) (Yl.move rfl) rfl (by kernel_rfl) (by kernel_rfl) (by kernel_rfl) ?_)) | (refine WU.k_load rfl ?_; (refine WU.kn rfl ?_; first | refine WU.take rfl rfl (fun _ _ _ h => h) (Yl.loadBlk (T := 63) Try.isAgg63 rfl (by repeat (first | exact .head _ | refine .tail _ ?_)) (by rfl)) rfl (by kernel_rfl) (by kernel_rfl) (by kernel_rfl) ?_ | refine WU.take rfl rfl (fun _ _ _ h => h) (Yl.loadBlk (T := 24) Try.isAgg24 rfl (by repeat (first | exact .head _ | refine .tail _ ?_)) (by rfl)) rfl (by kernel_rfl) (by kernel_rfl) (by kernel_rfl) ?_)) | (refine WU.k_fld rfl ?_; (refine WU.kn rfl ?_; first | refine WU.take rfl rfl (fun _ _ _ h => h) (Yl.fld0 (t := 65) Try.underlying65 fl65 rfl rfl) rfl (by kernel_rfl) (by kernel_rfl) (by kernel_rfl) ?_ | refine WU.take rfl rfl (fun _ _ _ h => h) (Yl.fld0 (t := 26) Try.underlying26 fl26 rfl rfl) rfl (by kernel_rfl) (by kernel_rfl) (by kernel_rfl) ?_)))); refine WU.nil ?_)
        refine WE.only (i := 5) (by kernel_rfl) rfl fun sh => ?_
        refine WL.callV (g := 54) Try.call54 rfl (fun w s => at_c ka kids.length cc i kids w rfl hcl hD.kids (by omega) (Rd.old h.cs w s)) rfl ?_
        refine WL.nil (WN.nextE sh (by repeat (first | exact Part.nil | refine Part.cons (by repeat (first | exact Pick.here | apply Pick.there)) ?_ | refine Part.free ?_)) ?_)
        (refine WE.order [6, 7] (by repeat (first | exact Part.nil | refine Part.cons (by repeat (first | exact Pick.here | apply Pick.there)) ?_ | refine Part.free ?_)) (by kernel_rfl) ?_; (repeat (first | (refine WU.k_bin .rem rfl ?_; (refine WU.kn rfl ?_; refine WU.take rfl rfl (fun _ _ _ h => h) (Yl.remC rfl (by decide)) rfl (by kernel_rfl) (by kernel_rfl) (by kernel_rfl) ?_)) | (refine WU.k_bin .add rfl ?_; (refine WU.kn rfl ?_; refine WU.take rfl rfl (fun _ _ _ h => h) (Yl.addC64 rfl (by omega)) rfl (by kernel_rfl) (by kernel_rfl) (by kernel_rfl) ?_)))); refine WU.nil ?_)
        refine WE.only (i := 8) (by kernel_rfl) rfl fun sh => ?_
        refine WL.lit (t := 24) (vs := [.int .i64 (Nod.mkid kids i)]) Try.underlying24 elemInt rfl rfl (by show some [Value.int .i64 ((1 + Nod.at_ kids i % 4096 : Nat) : Int)] = _; unfold Nod.mkid; congr 3) (by simp [Value.cells]) rfl fun b9 => ?_
        rw [show flat [Value.int .i64 (Nod.mkid kids i)] = [.int .i64 (Nod.mkid kids i)] from rfl]
        refine WL.nil (WN.nextE sh (by repeat (first | exact Part.nil | refine Part.cons (by repeat (first | exact Pick.here | apply Pick.there)) ?_ | refine Part.free ?_)) ?_)
        refine WE.only (i := 9) (by kernel_rfl) rfl fun sh => ?_
        refine WL.appendRow (t := 24) (n := i) (m := 1) (olds := icells (mkids kids i)) Try.underlying24 elemInt rfl rfl (by repeat (first | exact Pick.here | apply Pick.there)) (by rw [icells_len, mkids_len, Nat.mul_one]) ha (Rd.row (.head _)) rfl (by intro u hu; simp at hu; subst hu; rfl) (by omega) (by simp only [maxLen]; omega) rfl fun q2 hq2 => ?_
        rw [← icells_snoc, ← mkids_succ]
        refine WL.nil (WN.nextE sh (by repeat (first | exact Part.nil | refine Part.cons (by repeat (first | exact Pick.here | apply Pick.there)) ?_ | refine Part.free ?_)) ?_)
        (refine WE.order [10] (by repeat (first | exact Part.nil | refine Part.cons (by repeat (first | exact Pick.here | apply Pick.there)) ?_ | refine Part.free ?_)) (by kernel_rfl) ?_; (repeat (first | (refine WU.k_fld rfl ?_; (refine WU.kn rfl ?_; refine WU.take rfl rfl (fun _ _ _ h => h) (Yl.fld0 (t := 26) Try.underlying26 fl26 rfl rfl) rfl (by kernel_rfl) (by kernel_rfl) (by kernel_rfl) ?_)))); refine WU.nil ?_)
        refine WE.only (i := 11) (by kernel_rfl) rfl fun sh => ?_
        refine WL.storeAt (T := 24) Try.sizeOf24 rfl rfl rfl (by repeat (first | exact Pick.here | apply Pick.there)) rfl ?_
        refine WL.nil (WN.lastE (by kernel_rfl) sh ?_)
        refine WE.done (by kernel_rfl) ?_
        (repeat (first | refine WL.step (Yl.move rfl) rfl ?_ | refine WL.step (Yl.assign rfl) rfl ?_ | (refine WL.k_bin .add ?_; refine WL.step (Yl.add64C rfl (by omega)) rfl ?_) | refine WC.region ?_ | refine WL.nil ?_ | refine WN.then_normal ?_ | refine WN.block_normal ?_))
        exact WN.next (i + 1, q2) ⟨by simp only; omega, hq2⟩ (by simp only; omega) (by repeat (first | exact Sub.nil | refine Sub.cons rfl rfl ?_)) (by repeat (first | exact Part.nil | refine Part.cons (by repeat (first | exact Pick.here | apply Pick.there)) ?_ | refine Part.free ?_))
      · obtain rfl : i = C + 1 := by omega
        (repeat (first | refine WL.pass rfl rfl rfl rfl ?_ | refine WL.step (Yl.move rfl) rfl ?_ | refine WL.step (Yl.pick_f rfl rfl rfl) rfl ?_ | (refine WL.k_bin .leq ?_; refine WL.step (Yl.leqF rfl rfl (by omega)) rfl ?_) | refine WC.seq ?_ | refine WC.region ?_ | refine WL.nil ?_ | refine WN.then_normal ?_))
        refine WC.cond_false rfl rfl ?_
        (repeat (first | refine WC.exit ?_ | refine WN.then_exit ?_ | refine WN.block_here ?_))
        exact WN.join (a, ac) ha (by repeat (first | exact Sub.nil | refine Sub.cons rfl rfl ?_)) (by repeat (first | exact Part.nil | refine Part.cons (by repeat (first | exact Pick.here | apply Pick.there)) ?_ | refine Part.free ?_))
    · intro ⟨a, ac⟩ hac
      simp only at hac ⊢
      have hm : Nod.made ⟨false, f, st, vals, kids⟩ over = ⟨false, Nod.mkeys st f C, [], mkids kids (C + 1)⟩ := by rw [Nod.made_f rfl, hCC]; rfl
      rw [hm]
      (repeat (first | (refine WL.k_load ?_; refine WL.step (Yl.loadAll (T := 26) (T' := 26) Try.isAgg26 Try.sizeOf26 rfl (by repeat (first | exact .head _ | refine .tail _ ?_)) rfl) rfl ?_) | refine WC.seq ?_ | refine WC.region ?_))
      refine WL.storeWhole (T := 26) (k := 4) (us := #[.bool false, .slice qa C qc, .slice none 0 0, .slice a (C + 1) ac]) Try.sizeOf26 rfl rfl rfl (by repeat (first | exact Pick.here | apply Pick.there)) rfl rfl ?_
      (repeat (first | refine WL.nil ?_ | refine WN.then_normal ?_ | refine WC.ret ?_))
      have l1 := Nod.mkeys_len st f C
      have l2 := mkids_len kids (C + 1)
      exact WN.ret1C rfl Try.isAgg26 Try.sizeOf26 rfl (by repeat (first | exact .head _ | refine .tail _ ?_)) rfl ⟨⟨qa, qc, none, 0, a, ac⟩, by simp only [l1]; exact hq, Nat.le_refl _, by simp only [l2]; exact hac, by simp only [id, ndv, ndl, l1, l2]; rfl, rfl⟩ (.cons (by repeat (first | exact Pick.here | apply Pick.there)) (.free (.cons (by repeat (first | exact Pick.here | apply Pick.there)) .nil)))
theorem made_c (d : Nod.D) (over : Bool) (sa va ka : Option Addr) (sc vc cc : Nat) (w : World) (hD : d.Wf) (h : DAt w d sa va ka) :
    Calls Try.prog 29 #[drv d.leaf d.first sa va ka d.steps.length sc d.vals.length vc d.kids.length cc, .bool over] w (Gives (NdP (Nod.made d over)) w) := by
  obtain ⟨lf, f, st, vals, kids⟩ := d
  cases lf
  · exact made_f over f st vals kids sa va ka sc vc cc w hD h
  · exact made_t over f st vals kids sa va ka sc vc cc w hD h
end Go.Proofs.Ytbfhdggfdhlkfaa
