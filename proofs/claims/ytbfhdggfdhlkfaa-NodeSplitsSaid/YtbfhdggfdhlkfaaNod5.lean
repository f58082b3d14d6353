/- The reader of pages, and so many items read by it. -/
import Derived.Test.YtbfhdggfdhlkfaaNod4
import Derived.Test.YtbfhdggfdhlkfaaEnd
namespace Go.Proofs.Ytbfhdggfdhlkfaa
set_option linter.unusedVariables false
set_option linter.unusedSimpArgs false
open Go Go.RowKit
set_option maxRecDepth 100000
set_option maxHeartbeats 4000000
/-- A reader, at an offset. -/
abbrev rdr (r : Nat) (a : Option Addr) (cap at_ : Nat) : HA := .blk r (.cells #[.slice a 512 cap, .int .i64 (at_ : Int)] 85 (0, 0))
theorem fl85 : flatT Try.prog 85 = true := by kernel_rfl
theorem outR {A : List HA} {r : Nat} {a : Option Addr} {cap at_ : Nat} (hm : rdr r a cap at_ ∈ A) : ∀ b ∈ [r], ∃ x ∈ A, HA.foot x = some b := fun b hb => ⟨_, hm, by simp at hb; rw [hb]; rfl⟩
theorem readKeys_succ (l : List UInt8) (at_ i : Nat) : Nod.readKeys l at_ (i + 1) = Nod.readKeys l at_ i ++ [Nod.readKey l (at_ + i * 40)] := by simp [Nod.readKeys, List.range_succ]
theorem readVals_succ (l : List UInt8) (at_ i : Nat) : Nod.readVals l at_ (i + 1) = Nod.readVals l at_ i ++ [(l.drop (at_ + i * 20)).take 20] := by simp [Nod.readVals, List.range_succ]
theorem readKids_succ (l : List UInt8) (at_ i : Nat) : Nod.readKids l at_ (i + 1) = Nod.readKids l at_ i ++ [((Big.val 0 ((l.drop (at_ + i * 4)).take 4) : Nat) : Int)] := by simp [Nod.readKids, List.range_succ]
theorem readKey_wf {l : List UInt8} {at_ : Nat} (h : at_ + 40 ≤ l.length) : (Nod.readKey l at_).Wf := by
  have := Nod.readKeys_wf (b := l) (at_ := at_) (k := 1) (by omega) (Nod.readKey l at_) (by simp [Nod.readKeys])
  exact this
theorem uint_at {l : List UInt8} {at_ wd : Nat} (hl : l.length = 512) (ho : at_ + wd ≤ 512) (hw : 1 ≤ wd ∧ wd ≤ 8) : Big.uintAt l (at_ : Int) (wd : Int) = (0, Big.val 0 ((l.drop at_).take wd)) := by
  unfold Big.uintAt
  rw [if_neg (by omega), if_neg (by omega), if_neg (by omega), Int.toNat_natCast, Int.toNat_natCast]
attribute [local irreducible] WL WC WN Yl WH WQ WT WE WU
theorem ruint_r (r : Nat) (a : Option Addr) (cap at_ wd : Nat) (l : List UInt8) (w : World) (hl : l.length = 512) (ho : at_ + wd ≤ 512) (hw : 1 ≤ wd ∧ wd ≤ 8) (s : St w [r] [rdr r a cap at_] w) (hr : CellsOut w [r] a (bs l)) :
    Calls Try.prog 39 #[.pointer (some ⟨r, 0, none⟩), .int .i64 (wd : Int)] w (GivesS [r] (fun v B => v = .int .u64 ((Big.val 0 ((l.drop at_).take wd) : Nat) : Int) ∧ B = [rdr r a cap (at_ + wd)]) w) := by
  refine enterS (args := [_, _]) Try.func39 Try.ntmps39 rfl rfl s ?_
  (repeat (first | refine WL.step (Yl.assign rfl) rfl ?_ | refine WC.seq ?_ | refine WC.region ?_ | refine WL.nil ?_ | refine WN.then_normal ?_))
  refine WC.regionH [rdr r a cap at_] (by kernel_rfl) ?_
  (refine WH.order [0, 1, 2, 3, 4, 5, 6, 7, 8] (by repeat (first | exact Part.nil | refine Part.cons (by repeat (first | exact Pick.here | apply Pick.there)) ?_ | refine Part.free ?_)) (by kernel_rfl) ?_; (repeat (first | (refine WT.k_move rfl ?_; refine WT.take rfl rfl (fun _ _ _ h => h) (Yl.move rfl) rfl (by kernel_rfl) (by kernel_rfl) ?_) | (refine WT.k_load rfl ?_; first | refine WT.take rfl rfl (fun _ _ _ h => h) (Yl.loadBlk (T := 34) Try.isAgg34 rfl (by repeat (first | exact .head _ | refine .tail _ ?_)) (by rfl)) rfl (by kernel_rfl) (by kernel_rfl) ?_ | refine WT.take rfl rfl (fun _ _ _ h => h) (Yl.loadBlk (T := 3) Try.isAgg3 rfl (by repeat (first | exact .head _ | refine .tail _ ?_)) (by rfl)) rfl (by kernel_rfl) (by kernel_rfl) ?_) | (refine WT.k_fld rfl ?_; refine WT.take rfl rfl (fun _ _ _ h => h) (Yl.fld0 (t := 85) Try.underlying85 fl85 rfl rfl) rfl (by kernel_rfl) (by kernel_rfl) ?_) | (refine WT.k_nilc rfl ?_; refine WT.take rfl rfl (fun _ _ _ h => h) (Yl.nilCheck rfl) rfl (by kernel_rfl) (by kernel_rfl) ?_))); refine WT.nil ?_)
  refine WH.only (i := 9) (by kernel_rfl) rfl ?_
  refine WL.callV (g := 65) Try.call65 rfl (fun w s => uint_v a 512 cap l at_ wd (0, Big.val 0 ((l.drop at_).take wd)) w hl (by decide) (by omega) (Rd.out hr w s) (uint_at hl ho hw)) rfl ?_
  refine WL.nil (WN.nextH (by repeat (first | exact Part.nil | refine Part.cons (by repeat (first | exact Pick.here | apply Pick.there)) ?_ | refine Part.free ?_)) ?_)
  (refine WH.order [10, 11, 12, 13, 14] (by repeat (first | exact Part.nil | refine Part.cons (by repeat (first | exact Pick.here | apply Pick.there)) ?_ | refine Part.free ?_)) (by kernel_rfl) ?_; (repeat (first | (refine WT.k_move rfl ?_; refine WT.take rfl rfl (fun _ _ _ h => h) (Yl.move rfl) rfl (by kernel_rfl) (by kernel_rfl) ?_) | (refine WT.k_assign rfl ?_; refine WT.take rfl rfl (fun _ _ _ h => h) (Yl.assign rfl) rfl (by kernel_rfl) (by kernel_rfl) ?_) | (refine WT.k_extract rfl ?_; refine WT.take rfl rfl (fun _ _ _ h => h) (Yl.extract rfl rfl) rfl (by kernel_rfl) (by kernel_rfl) ?_))); refine WT.nil ?_)
  refine WH.done (by kernel_rfl) ?_
  (repeat (first | refine WL.step (Yl.move rfl) rfl ?_ | (refine WL.k_load ?_; refine WL.step (Yl.loadBlk (T := 3) Try.isAgg3 rfl (by repeat (first | exact .head _ | refine .tail _ ?_)) (by rfl)) rfl ?_) | refine WL.step (Yl.fld0 (t := 85) Try.underlying85 fl85 rfl rfl) rfl ?_ | refine WL.step (Yl.nilCheck rfl) rfl ?_ | (refine WL.k_bin .add ?_; refine WL.step (Yl.add64N rfl rfl (by omega)) rfl ?_) | refine WC.seq ?_ | refine WC.region ?_ | refine WN.then_normal ?_))
  refine WL.storeAt (T := 3) Try.sizeOf3 rfl rfl rfl (by repeat (first | exact Pick.here | apply Pick.there)) rfl ?_
  (repeat (first | refine WL.step (Yl.move rfl) rfl ?_ | refine WL.step (Yl.assign rfl) rfl ?_ | refine WC.seq ?_ | refine WC.region ?_ | refine WL.nil ?_ | refine WN.then_normal ?_ | refine WC.ret ?_))
  exact WN.ret1S rfl rfl ⟨rfl, rfl⟩ (.cons .here .nil)
theorem rbytes_r (r kb off n : Nat) (T : TypeId) (cs : List Value) (a : Option Addr) (cap at_ : Nat) (l : List UInt8) (w : World) (hl : l.length = 512) (hc : 512 ≤ cap) (ho : at_ + n ≤ 512) (hcs : off + n ≤ cs.length) (s : St w [r, kb] [rdr r a cap at_, .blk kb (.cells cs.toArray T (0, 0))] w) (hr : CellsOut w [r, kb] a (bs l)) :
    Calls Try.prog 66 #[.pointer (some ⟨r, 0, none⟩), .slice (some ⟨kb, off, none⟩) n n] w (GivesS [r, kb] (fun v B => v = .tuple #[] ∧ B = [rdr r a cap (at_ + n), .blk kb (.cells (cs.take off ++ bs ((l.drop at_).take n) ++ cs.drop (off + n)).toArray T (0, 0))]) w) := by
  have hlen : ((l.drop at_).take n).length = n := by rw [List.length_take, List.length_drop]; omega
  refine enterS (args := [_, _]) Try.func66 Try.ntmps66 rfl rfl s ?_
  skip
  have hcut : Rd ⟨Try.prog, 22, w, [r, kb]⟩ [rdr r a cap at_, .blk kb (.cells cs.toArray T (0, 0))] (cutA a at_ cap 1) (bs ((l.drop at_).take n)) := by
    have := Rd.cut (lo := at_) (cap := cap) (k := 1) (m := n) (Rd.out (P := Try.prog) (n := 22) (A := [rdr r a cap at_, .blk kb (.cells cs.toArray T (0, 0))]) hr) (by rw [bs_length]; omega)
    rwa [Nat.mul_one, ← bs_drop, ← bs_take] at this
  refine WC.regionE [rdr r a cap at_] 18 (by kernel_rfl) ?_
  (refine WE.order [0, 1, 2, 3, 4, 5, 6, 7, 8, 9, 10, 11, 12, 13] (by repeat (first | exact Part.nil | refine Part.cons (by repeat (first | exact Pick.here | apply Pick.there)) ?_ | refine Part.free ?_)) (by kernel_rfl) ?_; (repeat (first | (refine WU.k_move rfl ?_; refine WU.take rfl rfl (fun _ _ _ h => h) (Yl.move rfl) rfl (by kernel_rfl) (by kernel_rfl) (by kernel_rfl) ?_) | (refine WU.k_load rfl ?_; first | refine WU.take rfl rfl (fun _ _ _ h => h) (Yl.loadBlk (T := 34) Try.isAgg34 rfl (by repeat (first | exact .head _ | refine .tail _ ?_)) (by rfl)) rfl (by kernel_rfl) (by kernel_rfl) (by kernel_rfl) ?_ | refine WU.take rfl rfl (fun _ _ _ h => h) (Yl.loadBlk (T := 3) Try.isAgg3 rfl (by repeat (first | exact .head _ | refine .tail _ ?_)) (by rfl)) rfl (by kernel_rfl) (by kernel_rfl) (by kernel_rfl) ?_) | (refine WU.k_fld rfl ?_; refine WU.take rfl rfl (fun _ _ _ h => h) (Yl.fld0 (t := 85) Try.underlying85 fl85 rfl rfl) rfl (by kernel_rfl) (by kernel_rfl) (by kernel_rfl) ?_) | (refine WU.k_nilc rfl ?_; refine WU.take rfl rfl (fun _ _ _ h => h) (Yl.nilCheck rfl) rfl (by kernel_rfl) (by kernel_rfl) (by kernel_rfl) ?_) | (refine WU.k_slice rfl ?_; refine WU.take rfl rfl (fun _ _ _ h => h) (Yl.cutFrom (t := 34) Try.underlying34 Try.sizeOf5 rfl rfl (by omega)) rfl (by kernel_rfl) (by kernel_rfl) (by kernel_rfl) ?_))); refine WU.nil ?_)
  refine WE.only (i := 14) (by kernel_rfl) rfl fun sh => ?_
  refine WL.copy (vs := bs ((l.drop at_).take n)) Try.underlying34 (by kernel_rfl) rfl rfl (.there .here) hcut (by rw [bs_length, hlen]; omega) (by rw [bs_length, hlen]; exact hcs) (bs_one _) rfl ?_
  rw [bs_length, hlen]
  refine WL.nil (WN.nextE sh (by repeat (first | exact Part.nil | refine Part.cons (by repeat (first | exact Pick.here | apply Pick.there)) ?_ | refine Part.free ?_)) ?_)
  (refine WE.order [15, 16, 17] (by repeat (first | exact Part.nil | refine Part.cons (by repeat (first | exact Pick.here | apply Pick.there)) ?_ | refine Part.free ?_)) (by kernel_rfl) ?_; (repeat (first | (refine WU.k_fld rfl ?_; refine WU.take rfl rfl (fun _ _ _ h => h) (Yl.fld0 (t := 85) Try.underlying85 fl85 rfl rfl) rfl (by kernel_rfl) (by kernel_rfl) (by kernel_rfl) ?_) | (refine WU.k_nilc rfl ?_; refine WU.take rfl rfl (fun _ _ _ h => h) (Yl.nilCheck rfl) rfl (by kernel_rfl) (by kernel_rfl) (by kernel_rfl) ?_) | (refine WU.k_bin .add rfl ?_; refine WU.take rfl rfl (fun _ _ _ h => h) (Yl.add64N rfl rfl (by omega)) rfl (by kernel_rfl) (by kernel_rfl) (by kernel_rfl) ?_))); refine WU.nil ?_)
  refine WE.only (i := 18) (by kernel_rfl) rfl fun sh => ?_
  refine WL.storeAt (T := 3) Try.sizeOf3 rfl rfl rfl (by repeat (first | exact Pick.here | apply Pick.there)) rfl ?_
  refine WL.nil (WN.lastE (by kernel_rfl) sh ?_)
  refine WE.done (by kernel_rfl) ?_
  exact WN.end0S rfl ⟨rfl, rfl⟩ (.cons .here (.cons (by repeat (first | exact Pick.here | apply Pick.there)) .nil))
theorem put_key (l : List UInt8) (at_ : Nat) : (Value.int .u64 ((Big.val 0 ((l.drop at_).take 8) : Nat) : Int) :: bs (List.replicate 32 0)).take 1 ++ bs ((l.drop (at_ + 8)).take 32) ++ (Value.int .u64 ((Big.val 0 ((l.drop at_).take 8) : Nat) : Int) :: bs (List.replicate 32 0)).drop (1 + 32) = kv (Nod.readKey l at_) := by
  have h : (Value.int .u64 ((Big.val 0 ((l.drop at_).take 8) : Nat) : Int) :: bs (List.replicate 32 0)).drop (1 + 32) = [] := List.drop_eq_nil_of_le (by simp [bs_length])
  rw [h, List.append_nil]; rfl
theorem key_r (r : Nat) (a : Option Addr) (cap at_ : Nat) (l : List UInt8) (w : World) (hl : l.length = 512) (hc : 512 ≤ cap) (ho : at_ + 40 ≤ 512) (s : St w [r] [rdr r a cap at_] w) (hr : CellsOut w [r] a (bs l)) :
    Calls Try.prog 41 #[.pointer (some ⟨r, 0, none⟩)] w (GivesS [r] (fun v B => v = kval (Nod.readKey l at_) ∧ B = [rdr r a cap (at_ + 40)]) w) := by
  refine enterS (args := [_]) Try.func41 Try.ntmps41 rfl rfl s ?_
  (repeat (first | refine WC.seq ?_ | refine WC.region ?_))
  refine WL.allocA zeroKey rfl fun b1 => ?_
  (repeat (first | refine WL.step (Yl.move rfl) rfl ?_ | refine WC.seq ?_ | refine WC.region ?_ | refine WL.nil ?_ | refine WN.then_normal ?_))
  refine WL.callS (g := 39) (A0 := [rdr r a cap at_]) Try.call39 rfl (List.Perm.swap _ _ _) (fun w s0 s1 => ruint_r r a cap at_ 8 l w hl (by omega) (by decide) s1 (hr.pass s0 (outR (.tail _ (.head _))))) rfl fun v C hv => ?_
  obtain ⟨rfl, rfl⟩ := hv
  simp only [List.cons_append, List.nil_append]
  (repeat (first | refine WL.step (Yl.fldN0 kN rfl) rfl ?_))
  refine WL.storeAt (T := 39) Try.sizeOf39 rfl rfl rfl (by repeat (first | exact Pick.here | apply Pick.there)) (by rfl) ?_
  rw [show (kv zkey).toArray.setIfInBounds 0 (Value.int .u64 ((Big.val 0 ((l.drop at_).take 8) : Nat) : Int)) = (Value.int .u64 ((Big.val 0 ((l.drop at_).take 8) : Nat) : Int) :: bs (List.replicate 32 0)).toArray from rfl]
  (repeat (first | refine WL.step (Yl.move rfl) rfl ?_ | refine WL.step (Yl.fldN0 kD rfl) rfl ?_ | refine WL.step (Yl.arrAll (t := 40) Try.underlying40 Try.sizeOf5 rfl) rfl ?_ | refine WC.seq ?_ | refine WC.region ?_ | refine WL.nil ?_ | refine WN.then_normal ?_))
  refine WL.callS (g := 66) (A0 := [rdr r a cap (at_ + 8), .blk b1 (.cells (Value.int .u64 ((Big.val 0 ((l.drop at_).take 8) : Nat) : Int) :: bs (List.replicate 32 0)).toArray 42 (0, 0))]) Try.call66 rfl (List.Perm.swap _ _ _)
    (fun w s0 s1 => rbytes_r r b1 1 32 42 _ a cap (at_ + 8) l w hl hc (by omega) (by simp [bs_length]) s1 (hr.pass s0 (by
      intro b hb
      simp at hb
      rcases hb with rfl | rfl
      · exact ⟨_, .tail _ (.head _), rfl⟩
      · exact ⟨_, .head _, rfl⟩))) rfl fun v C hv => ?_
  obtain ⟨rfl, rfl⟩ := hv
  rw [put_key]
  simp only [List.cons_append, List.nil_append]
  have hks := kv_size (readKey_wf (l := l) (at_ := at_) (by omega))
  (repeat (first | (refine WL.k_load ?_; refine WL.step (Yl.loadAll (T' := 42) (cs := (kv (Nod.readKey l at_)).toArray) Try.isAgg42 Try.sizeOf42 rfl (by repeat (first | exact .head _ | refine .tail _ ?_)) hks) rfl ?_) | refine WC.seq ?_ | refine WC.region ?_ | refine WL.nil ?_ | refine WN.then_normal ?_))
  refine WL.storeWhole (k := 33) (us := (kv (Nod.readKey l at_)).toArray) Try.sizeOf42 rfl rfl (kv_all _) (by repeat (first | exact Pick.here | apply Pick.there)) hks hks ?_
  (repeat (first | refine WL.nil ?_ | refine WN.then_normal ?_ | refine WC.ret ?_))
  exact WN.ret1CS rfl Try.isAgg42 Try.sizeOf42 rfl (by repeat (first | exact .head _ | refine .tail _ ?_)) (Nat.eq_of_beq_eq_true hks) ⟨rfl, rfl⟩ (.cons (by repeat (first | exact Pick.here | apply Pick.there)) .nil)
theorem put_val (l : List UInt8) (at_ : Nat) : (bs zval).take 0 ++ bs ((l.drop at_).take 20) ++ (bs zval).drop (0 + 20) = bs ((l.drop at_).take 20) := by
  have h : (bs zval).drop (0 + 20) = [] := List.drop_eq_nil_of_le (by simp [bs_length])
  rw [h, List.append_nil]; rfl
theorem value_r (r : Nat) (a : Option Addr) (cap at_ : Nat) (l : List UInt8) (w : World) (hl : l.length = 512) (hc : 512 ≤ cap) (ho : at_ + 20 ≤ 512) (s : St w [r] [rdr r a cap at_] w) (hr : CellsOut w [r] a (bs l)) :
    Calls Try.prog 43 #[.pointer (some ⟨r, 0, none⟩)] w (GivesS [r] (fun v B => v = .agg (bs ((l.drop at_).take 20)).toArray ∧ B = [rdr r a cap (at_ + 20)]) w) := by
  refine enterS (args := [_]) Try.func43 Try.ntmps43 rfl rfl s ?_
  (repeat (first | refine WC.seq ?_ | refine WC.region ?_))
  refine WL.allocA zeroVal rfl fun b1 => ?_
  (repeat (first | refine WL.step (Yl.move rfl) rfl ?_ | refine WL.step (Yl.arrAll (t := 73) Try.underlying73 Try.sizeOf5 rfl) rfl ?_ | refine WC.seq ?_ | refine WC.region ?_ | refine WL.nil ?_ | refine WN.then_normal ?_))
  refine WL.callS (g := 66) (A0 := [rdr r a cap at_, .blk b1 (.cells (bs zval).toArray 73 (0, 0))]) Try.call66 rfl (List.Perm.swap _ _ _)
    (fun w s0 s1 => rbytes_r r b1 0 20 73 _ a cap at_ l w hl hc (by omega) (by simp [bs_length]) s1 (hr.pass s0 (by
      intro b hb
      simp at hb
      rcases hb with rfl | rfl
      · exact ⟨_, .tail _ (.head _), rfl⟩
      · exact ⟨_, .head _, rfl⟩))) rfl fun v C hv => ?_
  obtain ⟨rfl, rfl⟩ := hv
  rw [put_val]
  simp only [List.cons_append, List.nil_append]
  have hks := bs_size (l := (l.drop at_).take 20) (n := 20) (by rw [List.length_take, List.length_drop]; omega)
  (repeat (first | (refine WL.k_load ?_; refine WL.step (Yl.loadAll (T' := 73) (cs := (bs ((l.drop at_).take 20)).toArray) Try.isAgg73 Try.sizeOf73 rfl (by repeat (first | exact .head _ | refine .tail _ ?_)) hks) rfl ?_) | refine WC.seq ?_ | refine WC.region ?_ | refine WL.nil ?_ | refine WN.then_normal ?_))
  refine WL.storeWhole (k := 20) (us := (bs ((l.drop at_).take 20)).toArray) Try.sizeOf73 rfl rfl (bs_all _) (by repeat (first | exact Pick.here | apply Pick.there)) hks hks ?_
  (repeat (first | refine WL.nil ?_ | refine WN.then_normal ?_ | refine WC.ret ?_))
  exact WN.ret1CS rfl Try.isAgg73 Try.sizeOf73 rfl (by repeat (first | exact .head _ | refine .tail _ ?_)) (Nat.eq_of_beq_eq_true hks) ⟨rfl, rfl⟩ (.cons (by repeat (first | exact Pick.here | apply Pick.there)) .nil)
theorem child_r (r : Nat) (a : Option Addr) (cap at_ : Nat) (l : List UInt8) (w : World) (hl : l.length = 512) (_hc : 512 ≤ cap) (ho : at_ + 4 ≤ 512) (s : St w [r] [rdr r a cap at_] w) (hr : CellsOut w [r] a (bs l)) :
    Calls Try.prog 45 #[.pointer (some ⟨r, 0, none⟩)] w (GivesS [r] (fun v B => v = .int .i64 ((Big.val 0 ((l.drop at_).take 4) : Nat) : Int) ∧ B = [rdr r a cap (at_ + 4)]) w) := by
  have hlt := Nod.readKid_lt l at_
  refine enterS (args := [_]) Try.func45 Try.ntmps45 rfl rfl s ?_
  (repeat (first | refine WL.step (Yl.move rfl) rfl ?_ | refine WL.step (Yl.assign rfl) rfl ?_ | refine WC.seq ?_ | refine WC.region ?_ | refine WL.nil ?_ | refine WN.then_normal ?_))
  refine WL.callS (g := 39) (A0 := [rdr r a cap at_]) (B := []) Try.call39 rfl (List.Perm.refl _) (fun w s0 s1 => ruint_r r a cap at_ 4 l w hl (by omega) (by decide) s1 (hr.pass s0 (outR (.head _)))) rfl fun v C hv => ?_
  obtain ⟨rfl, rfl⟩ := hv
  simp only [List.cons_append, List.nil_append]
  (repeat (first | refine WL.step (Yl.assign rfl) rfl ?_ | (refine WL.k_conv ?_; refine WL.step (Yl.conv64 (s := 39) (t := 3) Try.underlying39 Try.underlying3 rfl (by omega)) rfl ?_) | refine WL.nil ?_ | refine WN.then_normal ?_ | refine WC.ret ?_))
  exact WN.ret1S rfl rfl ⟨rfl, rfl⟩ (.cons .here .nil)
theorem itemsK_r (r : Nat) (a : Option Addr) (cap at_ n : Nat) (l : List UInt8) (w : World) (hl : l.length = 512) (hc : 512 ≤ cap) (ho : at_ + n * 40 ≤ 512) (s : St w [r] [rdr r a cap at_] w) (hr : CellsOut w [r] a (bs l)) :
    Calls Try.prog 40 #[.int .i64 (n : Int), .func (.func 41) #[.pointer (some ⟨r, 0, none⟩)] #[]] w
      (GivesS [r] (fun v B => ∃ p q, n ≤ q ∧ v = .slice p n q ∧ B = [.row p q 42 33 (kcells (Nod.readKeys l at_ n)), rdr r a cap (at_ + n * 40)]) w) := by
  refine enterS (args := [_, _]) Try.func40 Try.ntmps40 rfl rfl s ?_
  (repeat (first | refine WL.step (Yl.move rfl) rfl ?_ | refine WL.step (Yl.assign rfl) rfl ?_ | refine WC.seq ?_ | refine WC.region ?_ | refine WL.nil ?_ | refine WN.then_normal ?_ | refine WC.block ?_))
  refine WC.loop (α := Nat × Option Addr × Nat) (fun g => [(1, .func (.func 41) #[.pointer (some ⟨r, 0, none⟩)] #[]), (5, .slice g.2.1 g.1 g.2.2), (6, .int .i64 (n : Int)), (7, .int .i64 (g.1 : Int))])
    (fun g => [.row g.2.1 g.2.2 42 33 (kcells (Nod.readKeys l at_ g.1)), rdr r a cap (at_ + g.1 * 40)]) (fun g => g.1 ≤ n ∧ g.1 ≤ g.2.2) (fun g => n - g.1) (0, none, 0) (by repeat (first | exact Sub.nil | refine Sub.cons rfl rfl ?_)) (.free (.cons .here .nil)) ⟨by simp, by simp⟩ ?_
  intro ⟨i, p, q⟩ ⟨hi, hq⟩
  simp only at hi hq ⊢
  (repeat (first | refine WL.step (Yl.lss rfl rfl) rfl ?_ | refine WC.seq ?_ | refine WC.region ?_ | refine WL.nil ?_ | refine WN.then_normal ?_))
  refine WC.ite rfl (fun h1 => ?_) (fun h1 => ?_)
  · (repeat (first | refine WL.step (Yl.move rfl) rfl ?_ | refine WC.seq ?_ | refine WC.region ?_ | refine WN.then_normal ?_ | refine WC.block ?_ | refine WC.skip ?_))
    refine WL.callB (g := 41) (A0 := [rdr r a cap (at_ + i * 40)]) (vs := []) (bd := [.pointer (some ⟨r, 0, none⟩)]) Try.call41 rfl rfl (List.Perm.swap _ _ _) (fun w s0 s1 => key_r r a cap (at_ + i * 40) l w hl hc (by omega) s1 (hr.pass s0 (outR (.tail _ (.head _))))) rfl fun v C hv => ?_
    obtain ⟨rfl, rfl⟩ := hv
    simp only [List.cons_append, List.nil_append]
    refine WL.lit (t := 22) Try.underlying22 elemKey rfl rfl rfl (by simp [Value.cells, kval, kv_len (readKey_wf (l := l) (at_ := at_ + i * 40) (by omega))]) rfl fun b => ?_
    rw [show flat [kval (Nod.readKey l (at_ + i * 40))] = kv (Nod.readKey l (at_ + i * 40)) from flatK _]
    refine WL.appendRow (t := 22) (n := i) (m := 1) Try.underlying22 elemKey rfl rfl (by repeat (first | exact Pick.here | apply Pick.there)) (by rw [kcells_len (Nod.readKeys_wf (by omega)), Nod.readKeys_len]) hq (Rd.row (.head _)) ?hlen ?hone (by omega) (by simp only [maxLen]; omega) rfl fun p2 hp2 => ?_
    case hlen => rw [kv_len (readKey_wf (by omega))]
    case hone => exact kv_one _
    rw [← kcells_snoc, ← readKeys_succ]
    (repeat (first | refine WL.step (Yl.move rfl) rfl ?_ | refine WL.step (Yl.assign rfl) rfl ?_ | (refine WL.k_bin .add ?_; refine WL.step (Yl.add64C rfl (by omega)) rfl ?_) | refine WC.region ?_ | refine WL.nil ?_ | refine WN.then_normal ?_ | refine WN.block_normal ?_))
    exact WN.next (i + 1, p2) ⟨by simp only; omega, hp2⟩ (by simp only; omega) (by repeat (first | exact Sub.nil | refine Sub.cons rfl rfl ?_)) (.cons .here (.cons (by simp only; rw [show at_ + (i + 1) * 40 = at_ + i * 40 + 40 by omega]; exact (by repeat (first | exact Pick.here | apply Pick.there))) .nil))
  · obtain rfl : i = n := by omega
    (repeat (first | refine WL.step (Yl.move rfl) rfl ?_ | refine WL.step (Yl.assign rfl) rfl ?_ | refine WC.seq ?_ | refine WC.region ?_ | refine WL.nil ?_ | refine WN.then_normal ?_ | refine WC.exit ?_ | refine WC.ret ?_ | refine WN.then_exit ?_ | refine WN.block_here ?_))
    exact WN.ret1S rfl rfl ⟨p, q, hq, rfl, rfl⟩ (.cons .here (.cons .here .nil))
theorem itemsV_r (r : Nat) (a : Option Addr) (cap at_ n : Nat) (l : List UInt8) (w : World) (hl : l.length = 512) (hc : 512 ≤ cap) (ho : at_ + n * 20 ≤ 512) (s : St w [r] [rdr r a cap at_] w) (hr : CellsOut w [r] a (bs l)) :
    Calls Try.prog 42 #[.int .i64 (n : Int), .func (.func 43) #[.pointer (some ⟨r, 0, none⟩)] #[]] w
      (GivesS [r] (fun v B => ∃ p q, n ≤ q ∧ v = .slice p n q ∧ B = [.row p q 73 20 (vcells (Nod.readVals l at_ n)), rdr r a cap (at_ + n * 20)]) w) := by
  refine enterS (args := [_, _]) Try.func42 Try.ntmps42 rfl rfl s ?_
  (repeat (first | refine WL.step (Yl.move rfl) rfl ?_ | refine WL.step (Yl.assign rfl) rfl ?_ | refine WC.seq ?_ | refine WC.region ?_ | refine WL.nil ?_ | refine WN.then_normal ?_ | refine WC.block ?_))
  refine WC.loop (α := Nat × Option Addr × Nat) (fun g => [(1, .func (.func 43) #[.pointer (some ⟨r, 0, none⟩)] #[]), (5, .slice g.2.1 g.1 g.2.2), (6, .int .i64 (n : Int)), (7, .int .i64 (g.1 : Int))])
    (fun g => [.row g.2.1 g.2.2 73 20 (vcells (Nod.readVals l at_ g.1)), rdr r a cap (at_ + g.1 * 20)]) (fun g => g.1 ≤ n ∧ g.1 ≤ g.2.2) (fun g => n - g.1) (0, none, 0) (by repeat (first | exact Sub.nil | refine Sub.cons rfl rfl ?_)) (.free (.cons .here .nil)) ⟨by simp, by simp⟩ ?_
  intro ⟨i, p, q⟩ ⟨hi, hq⟩
  simp only at hi hq ⊢
  (repeat (first | refine WL.step (Yl.lss rfl rfl) rfl ?_ | refine WC.seq ?_ | refine WC.region ?_ | refine WL.nil ?_ | refine WN.then_normal ?_))
  refine WC.ite rfl (fun h1 => ?_) (fun h1 => ?_)
  · (repeat (first | refine WL.step (Yl.move rfl) rfl ?_ | refine WC.seq ?_ | refine WC.region ?_ | refine WN.then_normal ?_ | refine WC.block ?_ | refine WC.skip ?_))
    refine WL.callB (g := 43) (A0 := [rdr r a cap (at_ + i * 20)]) (vs := []) (bd := [.pointer (some ⟨r, 0, none⟩)]) Try.call43 rfl rfl (List.Perm.swap _ _ _) (fun w s0 s1 => value_r r a cap (at_ + i * 20) l w hl hc (by omega) s1 (hr.pass s0 (outR (.tail _ (.head _))))) rfl fun v C hv => ?_
    obtain ⟨rfl, rfl⟩ := hv
    simp only [List.cons_append, List.nil_append]
    refine WL.lit (t := 23) Try.underlying23 elemVal rfl rfl rfl (by simp [Value.cells, bs_length]; omega) rfl fun b => ?_
    rw [flatV]
    refine WL.appendRow (t := 23) (n := i) (m := 1) Try.underlying23 elemVal rfl rfl (by repeat (first | exact Pick.here | apply Pick.there)) (by rw [vcells_len (Nod.readVals_wf (by omega)), Nod.readVals_len]) hq (Rd.row (.head _)) ?hlen ?hone (by omega) (by simp only [maxLen]; omega) rfl fun p2 hp2 => ?_
    case hlen => rw [bs_length, List.length_take, List.length_drop]; omega
    case hone => exact bs_one _
    rw [← vcells_snoc, ← readVals_succ]
    (repeat (first | refine WL.step (Yl.move rfl) rfl ?_ | refine WL.step (Yl.assign rfl) rfl ?_ | (refine WL.k_bin .add ?_; refine WL.step (Yl.add64C rfl (by omega)) rfl ?_) | refine WC.region ?_ | refine WL.nil ?_ | refine WN.then_normal ?_ | refine WN.block_normal ?_))
    exact WN.next (i + 1, p2) ⟨by simp only; omega, hp2⟩ (by simp only; omega) (by repeat (first | exact Sub.nil | refine Sub.cons rfl rfl ?_)) (.cons .here (.cons (by simp only; rw [show at_ + (i + 1) * 20 = at_ + i * 20 + 20 by omega]; exact (by repeat (first | exact Pick.here | apply Pick.there))) .nil))
  · obtain rfl : i = n := by omega
    (repeat (first | refine WL.step (Yl.move rfl) rfl ?_ | refine WL.step (Yl.assign rfl) rfl ?_ | refine WC.seq ?_ | refine WC.region ?_ | refine WL.nil ?_ | refine WN.then_normal ?_ | refine WC.exit ?_ | refine WC.ret ?_ | refine WN.then_exit ?_ | refine WN.block_here ?_))
    exact WN.ret1S rfl rfl ⟨p, q, hq, rfl, rfl⟩ (.cons .here (.cons .here .nil))
theorem itemsI_r (r : Nat) (a : Option Addr) (cap at_ n : Nat) (l : List UInt8) (w : World) (hl : l.length = 512) (hc : 512 ≤ cap) (ho : at_ + n * 4 ≤ 512) (s : St w [r] [rdr r a cap at_] w) (hr : CellsOut w [r] a (bs l)) :
    Calls Try.prog 44 #[.int .i64 (n : Int), .func (.func 45) #[.pointer (some ⟨r, 0, none⟩)] #[]] w
      (GivesS [r] (fun v B => ∃ p q, n ≤ q ∧ v = .slice p n q ∧ B = [.row p q 3 1 (icells (Nod.readKids l at_ n)), rdr r a cap (at_ + n * 4)]) w) := by
  refine enterS (args := [_, _]) Try.func44 Try.ntmps44 rfl rfl s ?_
  (repeat (first | refine WL.step (Yl.move rfl) rfl ?_ | refine WL.step (Yl.assign rfl) rfl ?_ | refine WC.seq ?_ | refine WC.region ?_ | refine WL.nil ?_ | refine WN.then_normal ?_ | refine WC.block ?_))
  refine WC.loop (α := Nat × Option Addr × Nat) (fun g => [(1, .func (.func 45) #[.pointer (some ⟨r, 0, none⟩)] #[]), (5, .slice g.2.1 g.1 g.2.2), (6, .int .i64 (n : Int)), (7, .int .i64 (g.1 : Int))])
    (fun g => [.row g.2.1 g.2.2 3 1 (icells (Nod.readKids l at_ g.1)), rdr r a cap (at_ + g.1 * 4)]) (fun g => g.1 ≤ n ∧ g.1 ≤ g.2.2) (fun g => n - g.1) (0, none, 0) (by repeat (first | exact Sub.nil | refine Sub.cons rfl rfl ?_)) (.free (.cons .here .nil)) ⟨by simp, by simp⟩ ?_
  intro ⟨i, p, q⟩ ⟨hi, hq⟩
  simp only at hi hq ⊢
  (repeat (first | refine WL.step (Yl.lss rfl rfl) rfl ?_ | refine WC.seq ?_ | refine WC.region ?_ | refine WL.nil ?_ | refine WN.then_normal ?_))
  refine WC.ite rfl (fun h1 => ?_) (fun h1 => ?_)
  · (repeat (first | refine WL.step (Yl.move rfl) rfl ?_ | refine WC.seq ?_ | refine WC.region ?_ | refine WN.then_normal ?_ | refine WC.block ?_ | refine WC.skip ?_))
    refine WL.callB (g := 45) (A0 := [rdr r a cap (at_ + i * 4)]) (vs := []) (bd := [.pointer (some ⟨r, 0, none⟩)]) Try.call45 rfl rfl (List.Perm.swap _ _ _) (fun w s0 s1 => child_r r a cap (at_ + i * 4) l w hl hc (by omega) s1 (hr.pass s0 (outR (.tail _ (.head _))))) rfl fun v C hv => ?_
    obtain ⟨rfl, rfl⟩ := hv
    simp only [List.cons_append, List.nil_append]
    refine WL.lit (t := 24) Try.underlying24 elemInt rfl rfl rfl (by simp [Value.cells]) rfl fun b => ?_
    rw [show flat [Value.int .i64 ((Big.val 0 ((l.drop (at_ + i * 4)).take 4) : Nat) : Int)] = [Value.int .i64 ((Big.val 0 ((l.drop (at_ + i * 4)).take 4) : Nat) : Int)] from rfl]
    refine WL.appendRow (t := 24) (n := i) (m := 1) Try.underlying24 elemInt rfl rfl (by repeat (first | exact Pick.here | apply Pick.there)) (by rw [icells_len, Nod.readKids_len, Nat.mul_one]) hq (Rd.row (.head _)) ?hlen ?hone (by omega) (by simp only [maxLen]; omega) rfl fun p2 hp2 => ?_
    case hlen => rfl
    case hone => intro u hu; simp at hu; subst hu; rfl
    rw [← icells_snoc, ← readKids_succ]
    (repeat (first | refine WL.step (Yl.move rfl) rfl ?_ | refine WL.step (Yl.assign rfl) rfl ?_ | (refine WL.k_bin .add ?_; refine WL.step (Yl.add64C rfl (by omega)) rfl ?_) | refine WC.region ?_ | refine WL.nil ?_ | refine WN.then_normal ?_ | refine WN.block_normal ?_))
    exact WN.next (i + 1, p2) ⟨by simp only; omega, hp2⟩ (by simp only; omega) (by repeat (first | exact Sub.nil | refine Sub.cons rfl rfl ?_)) (.cons .here (.cons (by simp only; rw [show at_ + (i + 1) * 4 = at_ + i * 4 + 4 by omega]; exact (by repeat (first | exact Pick.here | apply Pick.there))) .nil))
  · obtain rfl : i = n := by omega
    (repeat (first | refine WL.step (Yl.move rfl) rfl ?_ | refine WL.step (Yl.assign rfl) rfl ?_ | refine WC.seq ?_ | refine WC.region ?_ | refine WL.nil ?_ | refine WN.then_normal ?_ | refine WC.exit ?_ | refine WC.ret ?_ | refine WN.then_exit ?_ | refine WN.block_here ?_))
    exact WN.ret1S rfl rfl ⟨p, q, hq, rfl, rfl⟩ (.cons .here (.cons .here .nil))
end Go.Proofs.Ytbfhdggfdhlkfaa
