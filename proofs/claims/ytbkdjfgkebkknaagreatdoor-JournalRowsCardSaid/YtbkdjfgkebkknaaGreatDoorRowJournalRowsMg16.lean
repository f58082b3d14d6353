import Derived.Test.YtbkdjfgkebkknaaGreatDoorRowJournalRowsMg13
import Derived.Test.YtbkdjfgkebkknaaGreatDoorRowJournalRowsMg12
import Derived.Test.YtbkdjfgkebkknaaGreatDoorRowJournalRowsMg15
namespace Go.Proofs.YtbkdjfgkebkknaaGreatDoor
set_option linter.unusedVariables false
set_option linter.unusedSimpArgs false
open Go Go.RowKit
set_option maxHeartbeats 8000000
set_option maxRecDepth 100000
attribute [local irreducible] WL WC WN Yl WH WQ WT Big.be Frm.stamp Frm.payload Frm.chunks Crc.sealed
def hdN (kd tx ix no : Nat) : Nat → List UInt8
  | 0 => []
  | 1 => Big.be 1 kd
  | 2 => Big.be 1 kd ++ Big.be 4 tx
  | 3 => Big.be 1 kd ++ Big.be 4 tx ++ Big.be 2 ix
  | _ => Frm.head kd tx ix no
theorem hdN_le (kd tx ix no i : Nat) : (hdN kd tx ix no i).length ≤ 11 := by
  match i with
  | 0 => exact Nat.zero_le _
  | 1 => show (Big.be 1 kd).length ≤ 11; rw [Big.be_length]; decide
  | 2 => show (Big.be 1 kd ++ Big.be 4 tx).length ≤ 11; simp only [List.length_append, Big.be_length]; decide
  | 3 => show (Big.be 1 kd ++ Big.be 4 tx ++ Big.be 2 ix).length ≤ 11; simp only [List.length_append, Big.be_length]; decide
  | k + 4 => show (Frm.head kd tx ix no).length ≤ 11; rw [Frm.head_length]; decide
theorem appFits {l : List UInt8} {x W : Nat} (hW : 1 ≤ W ∧ W ≤ 8) (h : x < 2 ^ (8 * W)) : Big.appended l x (W : Int) = (0, l ++ Big.be W x) := by
  unfold Big.appended
  rw [if_neg (by omega), Int.toNat_natCast, if_neg (by omega)]
theorem tab_sec {k : Nat} (h : k = 1 ∨ k = 2) : tabCells[0 + k * 5 + 0]? = some (.int .i64 (((Frm.secs (k : Int)).1 : Nat) : Int)) := by
  rcases h with rfl | rfl <;> rfl
theorem enc_ok {kd ep tx ix no : Int} {d : List UInt8} (h : Frm.Ok kd ep tx ix no d.length) : Frm.enc kd ep tx ix no d = (0, Frm.chunks ep (Frm.payload kd.toNat tx.toNat ix.toNat no.toNat d) (Frm.secs kd).1) := if_pos h
theorem drop_step (p : List UInt8) (j : Nat) : (p.drop (112 * j)).drop (min (p.drop (112 * j)).length 112) = p.drop (112 * (j + 1)) := by
  rw [List.drop_drop]
  by_cases h : 112 ≤ (p.drop (112 * j)).length
  · rw [Nat.min_eq_right h]; congr 1
  · have h1 : p.length ≤ 112 * j + (p.drop (112 * j)).length := by rw [List.length_drop]; omega
    rw [Nat.min_eq_left (by omega), List.drop_eq_nil_of_le h1, List.drop_eq_nil_of_le]
    rw [List.length_drop] at h; omega
theorem take_step (p : List UInt8) : p.take (min p.length 112) = p.take 112 := by
  by_cases h : 112 ≤ p.length
  · rw [Nat.min_eq_right h]
  · rw [Nat.min_eq_left (by omega), List.take_of_length_le (Nat.le_refl _), List.take_of_length_le (by omega)]
theorem encode_c (kd ep tx ix no : Int) (a : Option Addr) (n cap : Nat) (dt : List UInt8) (w : World) (hT : Tab w) (hl : dt.length = n) (hr : CellsAt w a (bs dt)) :
    Calls Tryz.prog 110 #[.agg #[.int .i64 kd, .int .i64 ep, .int .i64 tx, .int .i64 ix, .int .i64 no, .slice a n cap]] w (Gives (Slc 5 (Frm.enc kd ep tx ix no dt)) w) := by
  refine enter (args := [_]) Tryz.func110 Tryz.ntmps110 rfl rfl ?_
  (repeat (first | refine WC.seq ?_ | refine WC.region ?_))
  refine WL.boxA rfl rfl fun b => ?_
  by_cases hok : Frm.Ok kd ep tx ix no n
  · have hok' : Frm.Ok kd ep tx ix no dt.length := by rw [hl]; exact hok
    rw [enc_ok hok']
    obtain ⟨he, ht1, ht2, hkd⟩ := hok
    obtain ⟨KD, rfl⟩ : ∃ K : Nat, kd = (K : Int) := ⟨kd.toNat, by omega⟩
    obtain ⟨TX, rfl⟩ : ∃ K : Nat, tx = (K : Int) := ⟨tx.toNat, by omega⟩
    obtain ⟨IX, rfl⟩ : ∃ K : Nat, ix = (K : Int) := ⟨ix.toNat, by omega⟩
    obtain ⟨NO, rfl⟩ : ∃ K : Nat, no = (K : Int) := ⟨no.toNat, by omega⟩
    simp only [Int.toNat_natCast]
    have hK : KD = 1 ∨ KD = 2 := by omega
    have hI : IX < 65536 := by omega
    have hN : NO < 4294967296 := by omega
    have hn : n ≤ 512 := by omega
    have hpl := Frm.payload_length KD TX IX NO dt
    have hsec := tab_sec hK
    have hS : (Frm.secs (KD : Int)).1 ≤ 5 := by rcases hK with rfl | rfl <;> decide
    have hhd := Frm.head_length KD TX IX NO
    have hpay : Crc.sealed (Frm.head KD TX IX NO ++ dt) = Frm.payload KD TX IX NO dt := by unfold Frm.payload; rfl
    generalize (Frm.secs (KD : Int)).1 = S at *
    (repeat (first | refine WL.step (Yl.move rfl) rfl ?_ | refine WL.step (Yl.assign rfl) rfl ?_ | refine WL.step (Yl.loadAll (T := 121) Tryz.isAgg121 Tryz.sizeOf121 rfl (.head _) rfl) rfl ?_ | (refine WL.k_call 144 ?_; refine WL.callV (g := 144) (v := .int .i64 0) Tryz.call144 rfl (fun w s => by have := check_c KD ep TX IX NO a n cap w (Rd.old hT w s); rwa [show Frm.check KD ep TX IX NO n = 0 from if_pos (by rw [← hl]; exact hok')] at this) rfl ?_) | refine WL.step (Yl.neqF rfl rfl rfl) rfl ?_ | refine WC.seq ?_ | refine WC.region ?_ | refine WL.nil ?_ | refine WN.then_normal ?_))
    refine WC.cond_false rfl rfl ?_
    (repeat (first | refine WL.step (Yl.assign rfl) rfl ?_ | refine WC.seq ?_ | refine WC.region ?_ | refine WL.nil ?_ | refine WN.then_normal ?_ | refine WC.skip ?_))
    refine WL.call (g := 145) Tryz.call145 rfl (fun w _ => fields_c b w) rfl fun v B hv => ?_
    obtain ⟨c, q, rfl, rfl⟩ := hv
    simp only [List.cons_append, List.nil_append]
    (repeat (first | refine WL.step (Yl.move rfl) rfl ?_ | refine WL.step (Yl.len (t := 202) Tryz.underlying202 rfl) rfl ?_ | refine WL.nil ?_ | refine WN.then_normal ?_ | refine WC.block ?_))
    refine WC.loop (α := Nat × Option Addr × Nat) (fun g => [(1, .pointer (some ⟨b, 0, none⟩)), (5, .slice g.2.1 (hdN KD TX IX NO g.1).length g.2.2), (17, .slice (some ⟨q, 0, none⟩) 4 4), (18, .int .i64 4), (19, .int .i64 (g.1 : Int))])
      (fun g => [.row g.2.1 g.2.2 5 1 (bs (hdN KD TX IX NO g.1)), .row (some ⟨q, 0, none⟩) 4 206 2 (fcells c), .blk c (.cells #[.pointer (some ⟨b, 0, none⟩)] 237 (0, 0)), .blk b (.cells #[.int .i64 (KD : Int), .int .i64 ep, .int .i64 (TX : Int), .int .i64 (IX : Int), .int .i64 (NO : Int), .slice a n cap] 121 (0, 0))])
      (fun g => g.1 ≤ 4 ∧ (hdN KD TX IX NO g.1).length ≤ g.2.2) (fun g => 4 - g.1) (0, none, 0) zS (.free (.cons .here (.cons .here (.cons .here .nil)))) ⟨by simp, by simp [hdN]⟩ ?_
    intro ⟨i, o, oc⟩ ⟨hi, hoc⟩
    simp only at hi hoc ⊢
    (repeat (first | refine WL.step (Yl.lss rfl rfl) rfl ?_ | refine WC.seq ?_ | refine WC.region ?_ | refine WL.nil ?_ | refine WN.then_normal ?_))
    refine WC.ite rfl (fun h1 => ?_) (fun h1 => ?_)
    · rcases (show i = 0 ∨ i = 1 ∨ i = 2 ∨ i = 3 by omega) with rfl | rfl | rfl | rfl
      · have hlen := hdN_le KD TX IX NO 0
        (repeat (first | (refine WL.k_load ?_; refine WL.step (Yl.loadAggRd (b := q) (off := 0) (vs := fcells c) (us := [.int .i64 1, .func (.func 180) #[] #[.pointer (some ⟨c, 0, none⟩)]]) Tryz.isAgg206 Tryz.sizeOf206 rfl (Rd.row zH) rfl rfl) rfl ?_) | (refine WL.k_idxa ?_; refine WL.step (Yl.indexAddr (t := 202) (k := 2) (j := 0) Tryz.underlying202 Tryz.sizeOf206 rfl rfl (Rd.row zH) (by unfold fcells; exact List.cons_ne_nil _ _) (by decide)) rfl ?_) | refine WC.seq ?_ | refine WC.region ?_ | refine WN.then_normal ?_ | refine WC.block ?_ | refine WC.skip ?_))
        refine WL.allocA Tryz.zeroValue206 rfl fun m => ?_
        refine WL.storeWhole (T := 206) (k := 2) Tryz.sizeOf206 rfl rfl rfl .here rfl rfl ?_
        (repeat (first | refine WL.nil ?_ | refine WN.then_normal ?_))
        refine WC.regionH [.blk m (.cells #[.int .i64 1, .func (.func 180) #[] #[.pointer (some ⟨c, 0, none⟩)]] 206 (0, 0)), .blk b (.cells #[.int .i64 (KD : Int), .int .i64 ep, .int .i64 (TX : Int), .int .i64 (IX : Int), .int .i64 (NO : Int), .slice a n cap] 121 (0, 0))] (by kernel_rfl) ?_
        (refine WH.order [0, 1, 2, 7, 8] (by repeat (first | exact Part.nil | refine Part.cons zK ?_ | refine Part.free ?_)) (by kernel_rfl) ?_; (repeat (first | (refine WT.k_move rfl ?_; refine WT.take rfl rfl (fun _ _ _ h => h) (Yl.move rfl) rfl (by kernel_rfl) (by kernel_rfl) ?_) | (refine WT.k_load rfl ?_; first | refine WT.take rfl rfl (fun _ _ _ h => h) (Yl.loadBlk (T := 204) Tryz.isAgg204 rfl zH (by rfl)) rfl (by kernel_rfl) (by kernel_rfl) ?_ | refine WT.take rfl rfl (fun _ _ _ h => h) (Yl.loadBlk (T := 3) Tryz.isAgg3 rfl zH (by rfl)) rfl (by kernel_rfl) (by kernel_rfl) ?_) | (refine WT.k_fld rfl ?_; refine WT.take rfl rfl (fun _ _ _ h => h) (Yl.fld0 (t := 206) Tryz.underlying206 fl206 rfl rfl) rfl (by kernel_rfl) (by kernel_rfl) ?_))); refine WT.nil ?_)
        refine WH.only (i := 3) (by kernel_rfl) rfl ?_
        refine WL.callFV (g := 180) Tryz.call180 rfl rfl (fun w s => field1_c c b w (Rd.lit (vs := [.pointer (some ⟨b, 0, none⟩)]) zH w s)) rfl ?_
        refine WL.nil (WN.nextH (.cons zK (.cons zK .nil)) ?_)
        (refine WH.order [4, 5, 6] (by repeat (first | exact Part.nil | refine Part.cons zK ?_ | refine Part.free ?_)) (by kernel_rfl) ?_; (repeat (first | (refine WT.k_load rfl ?_; refine WT.take rfl rfl (fun _ _ _ h => h) (Yl.loadBlk (T := 3) Tryz.isAgg3 rfl zH (by rfl)) rfl (by kernel_rfl) (by kernel_rfl) ?_) | (refine WT.k_nilc rfl ?_; refine WT.take rfl rfl (fun _ _ _ h => h) (Yl.nilCheck rfl) rfl (by kernel_rfl) (by kernel_rfl) ?_) | (refine WT.k_conv rfl ?_; refine WT.take rfl rfl (fun _ _ _ h => h) (Yl.convLt (s := 3) (t := 49) Tryz.underlying3 Tryz.underlying49 rfl rfl (by show _ < 18446744073709551616; omega)) rfl (by kernel_rfl) (by kernel_rfl) ?_))); refine WT.nil ?_)
        refine WH.only (i := 9) (by kernel_rfl) rfl ?_
        refine WL.callR (g := 146) Tryz.call146 rfl (fun w s => append_v o _ oc (hdN KD TX IX NO 0) (Big.be 1 KD) KD 0 1 w rfl (by omega) (by omega) (Rd.row zH w s) (appFits (W := 1) (by decide) (by omega))) rfl fun p hp => ?_
        refine WL.nil (WN.nextH (.cons zK (.cons zK .nil)) ?_)
        (refine WH.order [10, 11, 12, 13] (by repeat (first | exact Part.nil | refine Part.cons zK ?_ | refine Part.free ?_)) (by kernel_rfl) ?_; (repeat (first | (refine WT.k_move rfl ?_; refine WT.take rfl rfl (fun _ _ _ h => h) (Yl.move rfl) rfl (by kernel_rfl) (by kernel_rfl) ?_) | (refine WT.k_assign rfl ?_; refine WT.take rfl rfl (fun _ _ _ h => h) (Yl.assign rfl) rfl (by kernel_rfl) (by kernel_rfl) ?_) | (refine WT.k_extract rfl ?_; refine WT.take rfl rfl (fun _ _ _ h => h) (Yl.extract rfl rfl) rfl (by kernel_rfl) (by kernel_rfl) ?_))); refine WT.nil ?_)
        refine WH.done (by kernel_rfl) ?_
        (repeat (first | refine WL.step (Yl.move rfl) rfl ?_ | (refine WL.k_bin .add ?_; refine WL.step (Yl.add64C rfl (by omega)) rfl ?_) | refine WC.region ?_ | refine WL.nil ?_ | refine WN.then_normal ?_ | refine WN.block_normal ?_))
        exact WN.next (1, p) ⟨by simp, hp⟩ (by simp) zS (.cons zK (.cons zK (.cons zK (.cons zK .nil))))
      · have hlen := hdN_le KD TX IX NO 1
        (repeat (first | (refine WL.k_load ?_; refine WL.step (Yl.loadAggRd (b := q) (off := 2) (vs := fcells c) (us := [.int .i64 4, .func (.func 181) #[] #[.pointer (some ⟨c, 0, none⟩)]]) Tryz.isAgg206 Tryz.sizeOf206 rfl (Rd.row zH) rfl rfl) rfl ?_) | (refine WL.k_idxa ?_; refine WL.step (Yl.indexAddr (t := 202) (k := 2) (j := 1) Tryz.underlying202 Tryz.sizeOf206 rfl rfl (Rd.row zH) (by unfold fcells; exact List.cons_ne_nil _ _) (by decide)) rfl ?_) | refine WC.seq ?_ | refine WC.region ?_ | refine WN.then_normal ?_ | refine WC.block ?_ | refine WC.skip ?_))
        refine WL.allocA Tryz.zeroValue206 rfl fun m => ?_
        refine WL.storeWhole (T := 206) (k := 2) Tryz.sizeOf206 rfl rfl rfl .here rfl rfl ?_
        (repeat (first | refine WL.nil ?_ | refine WN.then_normal ?_))
        refine WC.regionH [.blk m (.cells #[.int .i64 4, .func (.func 181) #[] #[.pointer (some ⟨c, 0, none⟩)]] 206 (0, 0)), .blk b (.cells #[.int .i64 (KD : Int), .int .i64 ep, .int .i64 (TX : Int), .int .i64 (IX : Int), .int .i64 (NO : Int), .slice a n cap] 121 (0, 0))] (by kernel_rfl) ?_
        (refine WH.order [0, 1, 2, 7, 8] (by repeat (first | exact Part.nil | refine Part.cons zK ?_ | refine Part.free ?_)) (by kernel_rfl) ?_; (repeat (first | (refine WT.k_move rfl ?_; refine WT.take rfl rfl (fun _ _ _ h => h) (Yl.move rfl) rfl (by kernel_rfl) (by kernel_rfl) ?_) | (refine WT.k_load rfl ?_; first | refine WT.take rfl rfl (fun _ _ _ h => h) (Yl.loadBlk (T := 204) Tryz.isAgg204 rfl zH (by rfl)) rfl (by kernel_rfl) (by kernel_rfl) ?_ | refine WT.take rfl rfl (fun _ _ _ h => h) (Yl.loadBlk (T := 3) Tryz.isAgg3 rfl zH (by rfl)) rfl (by kernel_rfl) (by kernel_rfl) ?_) | (refine WT.k_fld rfl ?_; refine WT.take rfl rfl (fun _ _ _ h => h) (Yl.fld0 (t := 206) Tryz.underlying206 fl206 rfl rfl) rfl (by kernel_rfl) (by kernel_rfl) ?_))); refine WT.nil ?_)
        refine WH.only (i := 3) (by kernel_rfl) rfl ?_
        refine WL.callFV (g := 181) Tryz.call181 rfl rfl (fun w s => field2_c c b w (Rd.lit (vs := [.pointer (some ⟨b, 0, none⟩)]) zH w s)) rfl ?_
        refine WL.nil (WN.nextH (.cons zK (.cons zK .nil)) ?_)
        (refine WH.order [4, 5, 6] (by repeat (first | exact Part.nil | refine Part.cons zK ?_ | refine Part.free ?_)) (by kernel_rfl) ?_; (repeat (first | (refine WT.k_load rfl ?_; refine WT.take rfl rfl (fun _ _ _ h => h) (Yl.loadBlk (T := 3) Tryz.isAgg3 rfl zH (by rfl)) rfl (by kernel_rfl) (by kernel_rfl) ?_) | (refine WT.k_nilc rfl ?_; refine WT.take rfl rfl (fun _ _ _ h => h) (Yl.nilCheck rfl) rfl (by kernel_rfl) (by kernel_rfl) ?_) | (refine WT.k_conv rfl ?_; refine WT.take rfl rfl (fun _ _ _ h => h) (Yl.convLt (s := 3) (t := 49) Tryz.underlying3 Tryz.underlying49 rfl rfl (by show _ < 18446744073709551616; omega)) rfl (by kernel_rfl) (by kernel_rfl) ?_))); refine WT.nil ?_)
        refine WH.only (i := 9) (by kernel_rfl) rfl ?_
        refine WL.callR (g := 146) Tryz.call146 rfl (fun w s => append_v o _ oc (hdN KD TX IX NO 1) (Big.be 1 KD ++ Big.be 4 TX) TX 0 4 w rfl (by omega) (by omega) (Rd.row zH w s) (appFits (W := 4) (by decide) (by omega))) rfl fun p hp => ?_
        refine WL.nil (WN.nextH (.cons zK (.cons zK .nil)) ?_)
        (refine WH.order [10, 11, 12, 13] (by repeat (first | exact Part.nil | refine Part.cons zK ?_ | refine Part.free ?_)) (by kernel_rfl) ?_; (repeat (first | (refine WT.k_move rfl ?_; refine WT.take rfl rfl (fun _ _ _ h => h) (Yl.move rfl) rfl (by kernel_rfl) (by kernel_rfl) ?_) | (refine WT.k_assign rfl ?_; refine WT.take rfl rfl (fun _ _ _ h => h) (Yl.assign rfl) rfl (by kernel_rfl) (by kernel_rfl) ?_) | (refine WT.k_extract rfl ?_; refine WT.take rfl rfl (fun _ _ _ h => h) (Yl.extract rfl rfl) rfl (by kernel_rfl) (by kernel_rfl) ?_))); refine WT.nil ?_)
        refine WH.done (by kernel_rfl) ?_
        (repeat (first | refine WL.step (Yl.move rfl) rfl ?_ | (refine WL.k_bin .add ?_; refine WL.step (Yl.add64C rfl (by omega)) rfl ?_) | refine WC.region ?_ | refine WL.nil ?_ | refine WN.then_normal ?_ | refine WN.block_normal ?_))
        exact WN.next (2, p) ⟨by simp, hp⟩ (by simp) zS (.cons zK (.cons zK (.cons zK (.cons zK .nil))))
      · have hlen := hdN_le KD TX IX NO 2
        (repeat (first | (refine WL.k_load ?_; refine WL.step (Yl.loadAggRd (b := q) (off := 4) (vs := fcells c) (us := [.int .i64 2, .func (.func 182) #[] #[.pointer (some ⟨c, 0, none⟩)]]) Tryz.isAgg206 Tryz.sizeOf206 rfl (Rd.row zH) rfl rfl) rfl ?_) | (refine WL.k_idxa ?_; refine WL.step (Yl.indexAddr (t := 202) (k := 2) (j := 2) Tryz.underlying202 Tryz.sizeOf206 rfl rfl (Rd.row zH) (by unfold fcells; exact List.cons_ne_nil _ _) (by decide)) rfl ?_) | refine WC.seq ?_ | refine WC.region ?_ | refine WN.then_normal ?_ | refine WC.block ?_ | refine WC.skip ?_))
        refine WL.allocA Tryz.zeroValue206 rfl fun m => ?_
        refine WL.storeWhole (T := 206) (k := 2) Tryz.sizeOf206 rfl rfl rfl .here rfl rfl ?_
        (repeat (first | refine WL.nil ?_ | refine WN.then_normal ?_))
        refine WC.regionH [.blk m (.cells #[.int .i64 2, .func (.func 182) #[] #[.pointer (some ⟨c, 0, none⟩)]] 206 (0, 0)), .blk b (.cells #[.int .i64 (KD : Int), .int .i64 ep, .int .i64 (TX : Int), .int .i64 (IX : Int), .int .i64 (NO : Int), .slice a n cap] 121 (0, 0))] (by kernel_rfl) ?_
        (refine WH.order [0, 1, 2, 7, 8] (by repeat (first | exact Part.nil | refine Part.cons zK ?_ | refine Part.free ?_)) (by kernel_rfl) ?_; (repeat (first | (refine WT.k_move rfl ?_; refine WT.take rfl rfl (fun _ _ _ h => h) (Yl.move rfl) rfl (by kernel_rfl) (by kernel_rfl) ?_) | (refine WT.k_load rfl ?_; first | refine WT.take rfl rfl (fun _ _ _ h => h) (Yl.loadBlk (T := 204) Tryz.isAgg204 rfl zH (by rfl)) rfl (by kernel_rfl) (by kernel_rfl) ?_ | refine WT.take rfl rfl (fun _ _ _ h => h) (Yl.loadBlk (T := 3) Tryz.isAgg3 rfl zH (by rfl)) rfl (by kernel_rfl) (by kernel_rfl) ?_) | (refine WT.k_fld rfl ?_; refine WT.take rfl rfl (fun _ _ _ h => h) (Yl.fld0 (t := 206) Tryz.underlying206 fl206 rfl rfl) rfl (by kernel_rfl) (by kernel_rfl) ?_))); refine WT.nil ?_)
        refine WH.only (i := 3) (by kernel_rfl) rfl ?_
        refine WL.callFV (g := 182) Tryz.call182 rfl rfl (fun w s => field3_c c b w (Rd.lit (vs := [.pointer (some ⟨b, 0, none⟩)]) zH w s)) rfl ?_
        refine WL.nil (WN.nextH (.cons zK (.cons zK .nil)) ?_)
        (refine WH.order [4, 5, 6] (by repeat (first | exact Part.nil | refine Part.cons zK ?_ | refine Part.free ?_)) (by kernel_rfl) ?_; (repeat (first | (refine WT.k_load rfl ?_; refine WT.take rfl rfl (fun _ _ _ h => h) (Yl.loadBlk (T := 3) Tryz.isAgg3 rfl zH (by rfl)) rfl (by kernel_rfl) (by kernel_rfl) ?_) | (refine WT.k_nilc rfl ?_; refine WT.take rfl rfl (fun _ _ _ h => h) (Yl.nilCheck rfl) rfl (by kernel_rfl) (by kernel_rfl) ?_) | (refine WT.k_conv rfl ?_; refine WT.take rfl rfl (fun _ _ _ h => h) (Yl.convLt (s := 3) (t := 49) Tryz.underlying3 Tryz.underlying49 rfl rfl (by show _ < 18446744073709551616; omega)) rfl (by kernel_rfl) (by kernel_rfl) ?_))); refine WT.nil ?_)
        refine WH.only (i := 9) (by kernel_rfl) rfl ?_
        refine WL.callR (g := 146) Tryz.call146 rfl (fun w s => append_v o _ oc (hdN KD TX IX NO 2) (Big.be 1 KD ++ Big.be 4 TX ++ Big.be 2 IX) IX 0 2 w rfl (by omega) (by omega) (Rd.row zH w s) (appFits (W := 2) (by decide) (by omega))) rfl fun p hp => ?_
        refine WL.nil (WN.nextH (.cons zK (.cons zK .nil)) ?_)
        (refine WH.order [10, 11, 12, 13] (by repeat (first | exact Part.nil | refine Part.cons zK ?_ | refine Part.free ?_)) (by kernel_rfl) ?_; (repeat (first | (refine WT.k_move rfl ?_; refine WT.take rfl rfl (fun _ _ _ h => h) (Yl.move rfl) rfl (by kernel_rfl) (by kernel_rfl) ?_) | (refine WT.k_assign rfl ?_; refine WT.take rfl rfl (fun _ _ _ h => h) (Yl.assign rfl) rfl (by kernel_rfl) (by kernel_rfl) ?_) | (refine WT.k_extract rfl ?_; refine WT.take rfl rfl (fun _ _ _ h => h) (Yl.extract rfl rfl) rfl (by kernel_rfl) (by kernel_rfl) ?_))); refine WT.nil ?_)
        refine WH.done (by kernel_rfl) ?_
        (repeat (first | refine WL.step (Yl.move rfl) rfl ?_ | (refine WL.k_bin .add ?_; refine WL.step (Yl.add64C rfl (by omega)) rfl ?_) | refine WC.region ?_ | refine WL.nil ?_ | refine WN.then_normal ?_ | refine WN.block_normal ?_))
        exact WN.next (3, p) ⟨by simp, hp⟩ (by simp) zS (.cons zK (.cons zK (.cons zK (.cons zK .nil))))
      · have hlen := hdN_le KD TX IX NO 3
        (repeat (first | (refine WL.k_load ?_; refine WL.step (Yl.loadAggRd (b := q) (off := 6) (vs := fcells c) (us := [.int .i64 4, .func (.func 183) #[] #[.pointer (some ⟨c, 0, none⟩)]]) Tryz.isAgg206 Tryz.sizeOf206 rfl (Rd.row zH) rfl rfl) rfl ?_) | (refine WL.k_idxa ?_; refine WL.step (Yl.indexAddr (t := 202) (k := 2) (j := 3) Tryz.underlying202 Tryz.sizeOf206 rfl rfl (Rd.row zH) (by unfold fcells; exact List.cons_ne_nil _ _) (by decide)) rfl ?_) | refine WC.seq ?_ | refine WC.region ?_ | refine WN.then_normal ?_ | refine WC.block ?_ | refine WC.skip ?_))
        refine WL.allocA Tryz.zeroValue206 rfl fun m => ?_
        refine WL.storeWhole (T := 206) (k := 2) Tryz.sizeOf206 rfl rfl rfl .here rfl rfl ?_
        (repeat (first | refine WL.nil ?_ | refine WN.then_normal ?_))
        refine WC.regionH [.blk m (.cells #[.int .i64 4, .func (.func 183) #[] #[.pointer (some ⟨c, 0, none⟩)]] 206 (0, 0)), .blk b (.cells #[.int .i64 (KD : Int), .int .i64 ep, .int .i64 (TX : Int), .int .i64 (IX : Int), .int .i64 (NO : Int), .slice a n cap] 121 (0, 0))] (by kernel_rfl) ?_
        (refine WH.order [0, 1, 2, 7, 8] (by repeat (first | exact Part.nil | refine Part.cons zK ?_ | refine Part.free ?_)) (by kernel_rfl) ?_; (repeat (first | (refine WT.k_move rfl ?_; refine WT.take rfl rfl (fun _ _ _ h => h) (Yl.move rfl) rfl (by kernel_rfl) (by kernel_rfl) ?_) | (refine WT.k_load rfl ?_; first | refine WT.take rfl rfl (fun _ _ _ h => h) (Yl.loadBlk (T := 204) Tryz.isAgg204 rfl zH (by rfl)) rfl (by kernel_rfl) (by kernel_rfl) ?_ | refine WT.take rfl rfl (fun _ _ _ h => h) (Yl.loadBlk (T := 3) Tryz.isAgg3 rfl zH (by rfl)) rfl (by kernel_rfl) (by kernel_rfl) ?_) | (refine WT.k_fld rfl ?_; refine WT.take rfl rfl (fun _ _ _ h => h) (Yl.fld0 (t := 206) Tryz.underlying206 fl206 rfl rfl) rfl (by kernel_rfl) (by kernel_rfl) ?_))); refine WT.nil ?_)
        refine WH.only (i := 3) (by kernel_rfl) rfl ?_
        refine WL.callFV (g := 183) Tryz.call183 rfl rfl (fun w s => field4_c c b w (Rd.lit (vs := [.pointer (some ⟨b, 0, none⟩)]) zH w s)) rfl ?_
        refine WL.nil (WN.nextH (.cons zK (.cons zK .nil)) ?_)
        (refine WH.order [4, 5, 6] (by repeat (first | exact Part.nil | refine Part.cons zK ?_ | refine Part.free ?_)) (by kernel_rfl) ?_; (repeat (first | (refine WT.k_load rfl ?_; refine WT.take rfl rfl (fun _ _ _ h => h) (Yl.loadBlk (T := 3) Tryz.isAgg3 rfl zH (by rfl)) rfl (by kernel_rfl) (by kernel_rfl) ?_) | (refine WT.k_nilc rfl ?_; refine WT.take rfl rfl (fun _ _ _ h => h) (Yl.nilCheck rfl) rfl (by kernel_rfl) (by kernel_rfl) ?_) | (refine WT.k_conv rfl ?_; refine WT.take rfl rfl (fun _ _ _ h => h) (Yl.convLt (s := 3) (t := 49) Tryz.underlying3 Tryz.underlying49 rfl rfl (by show _ < 18446744073709551616; omega)) rfl (by kernel_rfl) (by kernel_rfl) ?_))); refine WT.nil ?_)
        refine WH.only (i := 9) (by kernel_rfl) rfl ?_
        refine WL.callR (g := 146) Tryz.call146 rfl (fun w s => append_v o _ oc (hdN KD TX IX NO 3) (Frm.head KD TX IX NO) NO 0 4 w rfl (by omega) (by omega) (Rd.row zH w s) (appFits (W := 4) (by decide) (by omega))) rfl fun p hp => ?_
        refine WL.nil (WN.nextH (.cons zK (.cons zK .nil)) ?_)
        (refine WH.order [10, 11, 12, 13] (by repeat (first | exact Part.nil | refine Part.cons zK ?_ | refine Part.free ?_)) (by kernel_rfl) ?_; (repeat (first | (refine WT.k_move rfl ?_; refine WT.take rfl rfl (fun _ _ _ h => h) (Yl.move rfl) rfl (by kernel_rfl) (by kernel_rfl) ?_) | (refine WT.k_assign rfl ?_; refine WT.take rfl rfl (fun _ _ _ h => h) (Yl.assign rfl) rfl (by kernel_rfl) (by kernel_rfl) ?_) | (refine WT.k_extract rfl ?_; refine WT.take rfl rfl (fun _ _ _ h => h) (Yl.extract rfl rfl) rfl (by kernel_rfl) (by kernel_rfl) ?_))); refine WT.nil ?_)
        refine WH.done (by kernel_rfl) ?_
        (repeat (first | refine WL.step (Yl.move rfl) rfl ?_ | (refine WL.k_bin .add ?_; refine WL.step (Yl.add64C rfl (by omega)) rfl ?_) | refine WC.region ?_ | refine WL.nil ?_ | refine WN.then_normal ?_ | refine WN.block_normal ?_))
        exact WN.next (4, p) ⟨by simp, hp⟩ (by simp) zS (.cons zK (.cons zK (.cons zK (.cons zK .nil))))
    · obtain rfl : i = 4 := by omega
      have hoc' : 11 ≤ oc := by rw [← hhd]; exact hoc
      (repeat (first | refine WL.step (Yl.move rfl) rfl ?_ | (refine WL.k_load ?_; refine WL.step (Yl.loadBlk (T := 23) Tryz.isAgg23 rfl zH (by rfl)) rfl ?_) | refine WL.step (Yl.fld0 (t := 121) Tryz.underlying121 fl121 rfl rfl) rfl ?_ | refine WC.seq ?_ | refine WC.region ?_ | refine WN.then_normal ?_ | refine WC.exit ?_ | refine WN.then_exit ?_ | refine WN.block_here ?_))
      refine WL.appendRow (t := 23) (n := 11) (olds := bs (Frm.head KD TX IX NO)) Tryz.underlying23 elemU8 (by rw [← hhd]; rfl) rfl .here (by rw [bs_length, hhd]) hoc' (Rd.old hr) (by rw [bs_length]; omega) (bs_one _) (by omega) (by simp only [maxLen]; omega) rfl fun p1 hp1 => ?_
      rw [← bs_append]
      refine WL.callR (g := 147) Tryz.call147 rfl (fun w s => seal_c p1.1 (11 + n) p1.2 (Frm.head KD TX IX NO ++ dt) w (by rw [List.length_append, hhd, hl]) hp1 (by omega) (Rd.row zH w s)) rfl fun p2 hp2 => ?_
      rw [hpay]
      have hpl2 : (Frm.payload KD TX IX NO dt).length = 11 + n + 4 := by rw [hpl, hl]; omega
      generalize Frm.payload KD TX IX NO dt = P at *
      rw [← hpl2] at hp2 ⊢
      (repeat (first | refine WL.step (Yl.move rfl) rfl ?_ | refine WL.step (Yl.assign rfl) rfl ?_ | (refine WL.k_load ?_; first | refine WL.step (Yl.loadBlk (T := 3) Tryz.isAgg3 rfl zH (by rfl)) rfl ?_ | refine WL.step (Yl.loadRd (T := 3) (v := .int .i64 (S : Int)) Tryz.isAgg3 rfl (Rd.old hT) hsec) rfl ?_) | (refine WL.k_fld ?_; first | refine WL.step (Yl.fld0 (t := 121) Tryz.underlying121 fl121 rfl rfl) rfl ?_ | refine WL.step (Yl.fldAt (t := 211) Tryz.underlying211 fl211 rfl rfl) rfl ?_) | (refine WL.k_idxa ?_; refine WL.step (Yl.indexArr (t := 212) (j := KD) Tryz.underlying212 Tryz.sizeOf211 rfl rfl (by omega)) rfl ?_) | refine WC.seq ?_ | refine WC.region ?_ | refine WL.nil ?_ | refine WN.then_normal ?_ | refine WC.block ?_))
      refine WC.loop (α := Nat × (Option Addr × Nat) × (Option Addr × Nat)) (fun g => [(1, .pointer (some ⟨b, 0, none⟩)), (5, .slice g.2.1.1 (P.drop (112 * g.1)).length g.2.1.2), (8, .slice g.2.2.1 (128 * g.1) g.2.2.2), (46, .int .i64 (S : Int)), (47, .int .i64 (g.1 : Int))])
        (fun g => [.row g.2.2.1 g.2.2.2 5 1 (bs (Frm.chunks ep P g.1)), .row p2.1 p2.2 5 1 (bs P), .blk b (.cells #[.int .i64 (KD : Int), .int .i64 ep, .int .i64 (TX : Int), .int .i64 (IX : Int), .int .i64 (NO : Int), .slice a n cap] 121 (0, 0))])
        (fun g => g.1 ≤ S ∧ (P.drop (112 * g.1)).length ≤ g.2.1.2 ∧ 128 * g.1 ≤ g.2.2.2 ∧ Rd ⟨Tryz.prog, 72, w, []⟩ [.row p2.1 p2.2 5 1 (bs P), .blk b (.cells #[.int .i64 (KD : Int), .int .i64 ep, .int .i64 (TX : Int), .int .i64 (IX : Int), .int .i64 (NO : Int), .slice a n cap] 121 (0, 0))] g.2.1.1 (bs (P.drop (112 * g.1)))) (fun g => S - g.1) (0, p2, (none, 0))
        (.cons rfl rfl (.cons rfl rfl (.cons rfl rfl (.cons rfl rfl (.cons rfl rfl .nil))))) (by rw [Frm.chunks_zero]; exact .free (.cons zK (.cons zK .nil))) ⟨by simp, by simpa using hp2, by simp, by simp only [Nat.mul_zero, List.drop_zero]; exact Rd.row (.head _)⟩ ?_
      intro ⟨j, ⟨o2, oc2⟩, ⟨u, uc⟩⟩ ⟨hj, hoc2, huc, hRd⟩
      simp only at hj hoc2 huc hRd ⊢
      have hcl := Frm.chunks_length ep P j
      have hcl1 : Frm.chunks ep P (j + 1) = Frm.chunks ep P j ++ Frm.stamp ep ((P.drop (112 * j)).take 112) := Frm.chunks_succ ep P j
      have hstep := drop_step P j
      have htake := take_step (P.drop (112 * j))
      have hrl : (P.drop (112 * j)).length ≤ 527 := by rw [List.length_drop]; omega
      (repeat (first | refine WL.step (Yl.lss rfl rfl) rfl ?_ | refine WC.seq ?_ | refine WC.region ?_ | refine WL.nil ?_ | refine WN.then_normal ?_))
      refine WC.ite rfl (fun h2 => ?_) (fun h2 => ?_)
      · have hst : Frm.stamped ep ((P.drop (112 * j)).take (min (P.drop (112 * j)).length 112)) = (0, Frm.stamp ep ((P.drop (112 * j)).take 112)) := by
          rw [htake]; exact if_pos ⟨he, by rw [List.length_take]; omega⟩
        have hsl := Frm.stamp_length (n := ep) (d := (P.drop (112 * j)).take 112) (by rw [List.length_take]; omega)
        have hcut : Rd ⟨Tryz.prog, 72, w, []⟩ [.row p2.1 p2.2 5 1 (bs P), .blk b (.cells #[.int .i64 (KD : Int), .int .i64 ep, .int .i64 (TX : Int), .int .i64 (IX : Int), .int .i64 (NO : Int), .slice a n cap] 121 (0, 0))] (cutA o2 0 oc2 1) (bs ((P.drop (112 * j)).take (min (P.drop (112 * j)).length 112))) := by
          have := Rd.cut (lo := 0) (cap := oc2) (k := 1) (m := min (P.drop (112 * j)).length 112) hRd (by rw [bs_length]; omega)
          rwa [Nat.zero_mul, List.drop_zero, ← bs_take] at this
        have hcut2 : Rd ⟨Tryz.prog, 72, w, []⟩ [.row p2.1 p2.2 5 1 (bs P), .blk b (.cells #[.int .i64 (KD : Int), .int .i64 ep, .int .i64 (TX : Int), .int .i64 (IX : Int), .int .i64 (NO : Int), .slice a n cap] 121 (0, 0))] (cutA o2 (min (P.drop (112 * j)).length 112) oc2 1) (bs (P.drop (112 * (j + 1)))) := by
          have := Rd.cut (lo := min (P.drop (112 * j)).length 112) (cap := oc2) (k := 1) (m := (P.drop (112 * j)).length) hRd (by rw [bs_length]; omega)
          rwa [Nat.mul_one, ← bs_drop, hstep, List.take_of_length_le (by rw [bs_length, ← hstep, List.length_drop]; omega)] at this
        have hl3 : (P.drop (112 * (j + 1))).length = (P.drop (112 * j)).length - min (P.drop (112 * j)).length 112 := by rw [← hstep, List.length_drop]
        have hl4 : ((P.drop (112 * j)).take (min (P.drop (112 * j)).length 112)).length = min (P.drop (112 * j)).length 112 := by rw [List.length_take]; omega
        clear hstep htake
        (repeat (first | refine WL.step (Yl.move rfl) rfl ?_ | refine WL.step (Yl.assign rfl) rfl ?_ | refine WL.step (Yl.min2N (n := 112) rfl rfl) rfl ?_ | refine WL.step (Yl.len (t := 23) Tryz.underlying23 rfl) rfl ?_ | refine WC.seq ?_ | refine WC.region ?_ | refine WL.nil ?_ | refine WN.then_normal ?_ | refine WC.block ?_ | refine WC.skip ?_))
        refine WC.regionH [.blk b (.cells #[.int .i64 (KD : Int), .int .i64 ep, .int .i64 (TX : Int), .int .i64 (IX : Int), .int .i64 (NO : Int), .slice a n cap] 121 (0, 0))] (by kernel_rfl) ?_
        (refine WH.order [0, 1, 2, 3, 4] (by repeat (first | exact Part.nil | refine Part.cons zK ?_ | refine Part.free ?_)) (by kernel_rfl) ?_; (repeat (first | (refine WT.k_move rfl ?_; refine WT.take rfl rfl (fun _ _ _ h => h) (Yl.move rfl) rfl (by kernel_rfl) (by kernel_rfl) ?_) | (refine WT.k_load rfl ?_; refine WT.take rfl rfl (fun _ _ _ h => h) (Yl.loadBlk (T := 2) Tryz.isAgg2 rfl zH (by rfl)) rfl (by kernel_rfl) (by kernel_rfl) ?_) | (refine WT.k_fld rfl ?_; refine WT.take rfl rfl (fun _ _ _ h => h) (Yl.fld0 (t := 121) Tryz.underlying121 fl121 rfl rfl) rfl (by kernel_rfl) (by kernel_rfl) ?_) | (refine WT.k_slice rfl ?_; refine WT.take rfl rfl (fun _ _ _ h => h) (Yl.cutTo (t := 23) Tryz.underlying23 Tryz.sizeOf5 rfl rfl (by omega)) rfl (by kernel_rfl) (by kernel_rfl) ?_))); refine WT.nil ?_)
        refine WH.only (i := 5) (by kernel_rfl) rfl ?_
        refine WL.callR (g := 148) Tryz.call148 rfl (fun w s => by have := stamp_c ep _ _ oc2 _ w hl4 (Rd.more hcut w s); rwa [hst] at this) rfl fun p5 hp5 => ?_
        refine WL.nil (WN.nextH (.cons zK .nil) ?_)
        (refine WH.order [6, 7, 8, 9, 10] (by repeat (first | exact Part.nil | refine Part.cons zK ?_ | refine Part.free ?_)) (by kernel_rfl) ?_; (repeat (first | (refine WT.k_move rfl ?_; refine WT.take rfl rfl (fun _ _ _ h => h) (Yl.move rfl) rfl (by kernel_rfl) (by kernel_rfl) ?_) | (refine WT.k_assign rfl ?_; refine WT.take rfl rfl (fun _ _ _ h => h) (Yl.assign rfl) rfl (by kernel_rfl) (by kernel_rfl) ?_) | (refine WT.k_extract rfl ?_; refine WT.take rfl rfl (fun _ _ _ h => h) (Yl.extract rfl rfl) rfl (by kernel_rfl) (by kernel_rfl) ?_))); refine WT.nil ?_)
        refine WH.done (by kernel_rfl) ?_
        (repeat (first | refine WL.step (Yl.move rfl) rfl ?_ | refine WL.step (Yl.neqF rfl rfl rfl) rfl ?_ | refine WC.seq ?_ | refine WC.region ?_ | refine WL.nil ?_ | refine WN.then_normal ?_))
        refine WC.cond_false rfl rfl ?_
        (repeat (first | refine WN.then_normal ?_ | refine WC.skip ?_))
        refine WC.regionH [] (by kernel_rfl) ?_
        (refine WH.order [0, 1, 3, 4, 5] (by repeat (first | exact Part.nil | refine Part.cons zK ?_ | refine Part.free ?_)) (by kernel_rfl) ?_; (repeat (first | (refine WT.k_move rfl ?_; refine WT.take rfl rfl (fun _ _ _ h => h) (Yl.move rfl) rfl (by kernel_rfl) (by kernel_rfl) ?_) | (refine WT.k_slice rfl ?_; refine WT.take rfl rfl (fun _ _ _ h => h) (Yl.cutFrom (t := 23) Tryz.underlying23 Tryz.sizeOf5 rfl rfl (by omega)) rfl (by kernel_rfl) (by kernel_rfl) ?_))); refine WT.nil ?_)
        refine WH.only (i := 2) (by kernel_rfl) rfl ?_
        refine WL.appendRow (t := 23) (n := 128 * j) (m := 128) (olds := bs (Frm.chunks ep P j)) Tryz.underlying23 elemU8 rfl (by simp only [hsl]; rfl) zK (by rw [bs_length, hcl]; omega) huc (Rd.row (.head _)) (by simp only [bs_length, hsl]) (bs_one _) (by omega) (by simp only [maxLen]; omega) rfl fun p6 hp6 => ?_
        rw [← bs_append, ← hcl1]
        refine WL.nil (WN.nextH .nil ?_)
        (refine WH.order [6, 7] (by repeat (first | exact Part.nil | refine Part.cons zK ?_ | refine Part.free ?_)) (by kernel_rfl) ?_; (repeat (first | (refine WT.k_assign rfl ?_; refine WT.take rfl rfl (fun _ _ _ h => h) (Yl.assign rfl) rfl (by kernel_rfl) (by kernel_rfl) ?_))); refine WT.nil ?_)
        refine WH.done (by kernel_rfl) ?_
        (repeat (first | refine WL.step (Yl.move rfl) rfl ?_ | (refine WL.k_bin .add ?_; refine WL.step (Yl.add64C rfl (by omega)) rfl ?_) | refine WC.region ?_ | refine WL.nil ?_ | refine WN.then_normal ?_ | refine WN.block_normal ?_))
        exact WN.next (j + 1, (cutA o2 (min (P.drop (112 * j)).length 112) oc2 1, oc2 - min (P.drop (112 * j)).length 112), p6) ⟨by simp only; omega, by simp only; omega, by simp only; omega, hcut2⟩ (by simp only; omega)
          (.cons rfl rfl (.cons rfl (by simp only [hl3]) (.cons rfl rfl (.cons rfl rfl (.cons rfl rfl .nil))))) (.cons zK (.cons zK (.cons zK .nil)))
      · obtain rfl : j = S := by omega
        (repeat (first | refine WL.step (Yl.move rfl) rfl ?_ | refine WL.step (Yl.assign rfl) rfl ?_ | refine WC.seq ?_ | refine WC.region ?_ | refine WL.nil ?_ | refine WN.then_normal ?_ | refine WC.exit ?_ | refine WC.ret ?_ | refine WN.then_exit ?_ | refine WN.block_here ?_))
        exact WN.ret2 rfl rfl rfl ⟨u, uc, by rw [hcl]; exact huc, by rw [hcl]; rfl, rfl⟩ (.cons .here .nil)
  · have e : Frm.enc kd ep tx ix no dt = (2, []) := if_neg (by rw [hl]; exact hok)
    rw [e]
    (repeat (first | refine WL.step (Yl.move rfl) rfl ?_ | refine WL.step (Yl.assign rfl) rfl ?_ | refine WL.step (Yl.loadAll (T := 121) Tryz.isAgg121 Tryz.sizeOf121 rfl (.head _) rfl) rfl ?_ | (refine WL.k_call 144 ?_; refine WL.callV (g := 144) (v := .int .i64 2) Tryz.call144 rfl (fun w s => by have := check_c kd ep tx ix no a n cap w (Rd.old hT w s); rwa [show Frm.check kd ep tx ix no n = 2 from if_neg hok] at this) rfl ?_) | (refine WL.k_bin .neq ?_; refine WL.step (Yl.neqT rfl rfl (by decide)) rfl ?_) | refine WC.seq ?_ | refine WC.region ?_ | refine WL.nil ?_ | refine WN.then_normal ?_))
    refine WC.cond_true rfl rfl ?_
    (repeat (first | refine WL.step (Yl.move rfl) rfl ?_ | refine WL.step (Yl.assign rfl) rfl ?_ | refine WC.seq ?_ | refine WC.region ?_ | refine WL.nil ?_ | refine WN.then_normal ?_ | refine WC.ret ?_ | refine WN.then_ret ?_))
    exact WN.ret2 rfl rfl rfl (Slc.none _ 2) (.free .nil)
end Go.Proofs.YtbkdjfgkebkknaaGreatDoor
namespace Go.Proofs.YtbkdjfgkebkknaaGreatDoor
set_option linter.unusedVariables false
set_option linter.unusedSimpArgs false
open Go Go.RowKit
set_option maxRecDepth 100000
set_option maxHeartbeats 8000000
def wseq (v : DV) (a : Nat) : List (List UInt8) → DV × Nat
  | [] => (v, 0)
  | x :: L => if (v.write (a : Int) x).2 = 0 then wseq (v.write (a : Int) x).1 (a + 1) L else v.write (a : Int) x
theorem wseq_append : ∀ (L M : List (List UInt8)) (v : DV) (a : Nat), wseq v a (L ++ M) = if (wseq v a L).2 = 0 then wseq (wseq v a L).1 (a + L.length) M else wseq v a L
  | [], M, v, a => by simp [wseq]
  | x :: L, M, v, a => by
    rw [List.cons_append, wseq, wseq]
    by_cases h : (v.write (a : Int) x).2 = 0
    · rw [if_pos h, if_pos h, wseq_append L M, List.length_cons, show a + 1 + L.length = a + (L.length + 1) by omega]
    · rw [if_neg h, if_neg h, if_neg h]
theorem wseq_one (v : DV) (a : Nat) (x : List UInt8) : wseq v a [x] = v.write (a : Int) x := by
  rw [wseq]
  split
  · rename_i h
    rw [wseq, ← h]
  · rfl
theorem op_ops (v : DV) (f : DV → DV) (hf : ∀ u, (f u).ops = u.ops) : (v.op f).1.ops = v.ops + 1 := by
  unfold DV.op
  cases v.pl with
  | none => simp only [hf]
  | some q => simp only; split <;> simp only [hf, DV.crash]
theorem write_ops (v : DV) (s : Int) (x : List UInt8) : (v.write s x).1.ops ≤ v.ops + 1 := by
  unfold DV.write
  split
  · simp only; omega
  · split
    · simp only; omega
    · rw [op_ops _ id (fun _ => rfl)]; exact Nat.le_refl _
theorem wseq_ops : ∀ (L : List (List UInt8)) (v : DV) (a : Nat), (wseq v a L).1.ops ≤ v.ops + L.length
  | [], v, a => Nat.le_refl _
  | x :: L, v, a => by
    have h1 := write_ops v (a : Int) x
    rw [wseq]
    split
    · have := wseq_ops L (v.write (a : Int) x).1 (a + 1)
      simp only [List.length_cons]; omega
    · simp only [List.length_cons]; omega
def pcl (b : List UInt8) (l : List Nat) : List (List UInt8) := l.map fun i => (b.drop (128 * i)).take 128
def pieces (b : List UInt8) (k : Nat) : List (List UInt8) := pcl b (List.range k)
theorem pieces_len (b : List UInt8) (k : Nat) : (pieces b k).length = k := by simp [pieces, pcl]
theorem pieces_succ (b : List UInt8) (k : Nat) : pieces b (k + 1) = pieces b k ++ [(b.drop (128 * k)).take 128] := by simp [pieces, pcl, List.range_succ]
theorem pieces_more (b : List UInt8) (i : Nat) : ∀ m, ∃ M, pieces b (i + m) = pieces b i ++ M
  | 0 => ⟨[], by simp⟩
  | m + 1 => by
    obtain ⟨M, hM⟩ := pieces_more b i m
    exact ⟨M ++ [(b.drop (128 * (i + m))).take 128], by rw [← Nat.add_assoc, pieces_succ, hM, List.append_assoc]⟩
theorem wseq_stop {v : DV} {a : Nat} {b : List UInt8} {i k : Nat} {r : DV × Nat} (h : wseq v a (pieces b i) = r) (hr : r.2 ≠ 0) (hi : i ≤ k) : wseq v a (pieces b k) = r := by
  obtain ⟨M, hM⟩ := pieces_more b i (k - i)
  rw [show i + (k - i) = k by omega] at hM
  rw [hM, wseq_append, h, if_neg hr]
theorem wseq_next {v : DV} {a : Nat} {b : List UInt8} {l : List Nat} {i : Nat} {u : DV} (h : wseq v a (pcl b l) = (u, 0)) : wseq v a (pcl b (l ++ [i])) = u.write ((a + l.length : Nat) : Int) ((b.drop (128 * i)).take 128) := by
  rw [pcl, List.map_append, wseq_append]
  rw [pcl] at h
  rw [h, if_pos rfl, List.length_map]
  exact wseq_one _ _ _
theorem permJ7 (x1 x2 x3 x4 x5 x6 x7 : HA) (D : List HA) : (x1 :: x2 :: x3 :: x4 :: x5 :: x6 :: x7 :: D).Perm (D ++ [x1, x2, x3, x4, x5, x6, x7]) := List.perm_append_comm (l₁ := [x1, x2, x3, x4, x5, x6, x7])
theorem drive_k {p : DP} {S : List Nat} {v : DV} {s : DS} (sec : Int) (a : Option Addr) (n c2 : Nat) (x : List UInt8) (w : World) (ok : s.Ok p) (hv : s.v = v) (hops : v.ops < 4611686018427387904) (hl : x.length = n) (hr : CellsOut w S a (bs x)) (st : St w S (drI p s) w) :
    Calls Tryz.prog 38 #[bptr p.bd, .int .i64 sec, .slice a n c2] w (GivesS S (DrK p s.pl (v.write sec x).1 (v.write sec x).2) w) := by
  subst hv; exact dwrite_k sec a n c2 x s w ok hops hl hr st
theorem cutA_ne {a : Option Addr} {lo c1 c2 : Nat} (h1 : c1 ≠ lo) (h2 : c2 ≠ lo) : cutA a lo c1 1 = cutA a lo c2 1 := by simp [cutA, h1, h2]
section
variable {P : Program} {fn : Func} {R : Value → List HA → Prop} {ρ : Env} {A A' B : List HA} {n : Nat} {w0 : World} {S : List Nat}
theorem results_cell2 {t t2 : Tmp} {T T' T2 T2' : TypeId} {b b2 : Nat} {cs cs2 : Array Value} {fr fr2 : Nat × Nat} {w : World} {a : Act} {v v2 : Value} (hr : fn.results = #[.cell t T, .cell t2 T2]) (hg : ∀ w, (isAgg T).run P w = .ok false w) (hg2 : ∀ w, (isAgg T2).run P w = .ok false w) (f : Fr n ρ a)
    (hv : lk ρ t = some (.pointer (some ⟨b, 0, none⟩))) (hv2 : lk ρ t2 = some (.pointer (some ⟨b2, 0, none⟩)))
    (hm : HA.blk b (.cells cs T' fr) ∈ A) (hm2 : HA.blk b2 (.cells cs2 T2' fr2) ∈ A) (h0 : cs[0]? = some v) (h02 : cs2[0]? = some v2) (s : St w0 S A w) : (results fn a.tmps).run P w = .ok (.tuple #[v, v2]) w := by
  have hc := s.cell hm h0
  have hc2 := s.cell hm2 h02
  have h1 := f.get t _ hv
  have h2 := f.get t2 _ hv2
  rw [Array.getD_eq_getD_getElem?] at h1 h2
  simp [results, hr, h1, h2, asAddr, loadVar, hg, hg2, hc, hc2]
theorem WN.ret2CCM {D : Nat} {t t2 : Tmp} {T T' T2 T2' : TypeId} {b b2 : Nat} {cs cs2 : Array Value} {fr fr2 : Nat × Nat} {v v2 : Value} (hr : fn.results = #[.cell t T, .cell t2 T2]) (hg : ∀ w, (isAgg T).run P w = .ok false w) (hg2 : ∀ w, (isAgg T2).run P w = .ok false w)
    (hv : lk ρ t = some (.pointer (some ⟨b, 0, none⟩))) (hv2 : lk ρ t2 = some (.pointer (some ⟨b2, 0, none⟩)))
    (hm : HA.blk b (.cells cs T' fr) ∈ A) (hm2 : HA.blk b2 (.cells cs2 T2' fr2) ∈ A) (h0 : cs[0]? = some v) (h02 : cs2[0]? = some v2) (hR : R (.tuple #[v, v2]) B) (hp : Part A B) :
    WN ⟨P, n, w0, S⟩ (Post [mark D] (endM P fn (GivesS S R w0))) .ret ρ (.blk D (.deferred (some [])) :: A) := fun a w f s =>
  leave_mark (u := v) (.head _) s f.defers ⟨_, results_cell2 hr hg hg2 f hv hv2 hm hm2 h0 h02 s.unmark, _, B, rfl, hR, s.unmark.part hp⟩
end
def JWrV (dp : DP) (p : JP) (s : JS) (r : DV × Nat) (e : Nat) : Value → List HA → Prop := fun u B => u = .tuple #[.int .i64 ((if r.2 = 0 then e else 0 : Nat) : Int), .int .i64 (r.2 : Int)] ∧ ∃ ds', DS.Ok ds' dp ∧ ds'.v = r.1 ∧ B = jI dp.bd p s ++ drI dp ds'
theorem enc_len {kd ep tx ix no : Int} {d : List UInt8} (h : Frm.Ok kd ep tx ix no d.length) : (Frm.enc kd ep tx ix no d).2.length = 128 * (Frm.secs kd).1 := by
  rw [enc_ok h, Frm.chunks_length]
theorem enc_zero {kd ep tx ix no : Int} {d : List UInt8} (h : Frm.Ok kd ep tx ix no d.length) : (Frm.enc kd ep tx ix no d).1 = 0 := by rw [enc_ok h]
theorem secs_le (kd : Int) : (Frm.secs kd).1 ≤ 5 := by unfold Frm.secs; split; decide; split <;> decide
theorem secs_pos {kd ep tx ix no : Int} {n : Nat} (h : Frm.Ok kd ep tx ix no n) : 1 ≤ (Frm.secs kd).1 := by
  rcases h.2.2.2 with h | h
  · rw [h.1]; decide
  · rw [h.1]; decide
attribute [local irreducible] WL WC WN Yl WH WQ WT WE WU WG WV
section
variable {dp : DP} {ds : DS} {p : JP} {s : JS} {S : List Nat}
theorem jwrite_r (at_ : Nat) (kd ep0 tx0 ix no : Int) (a : Option Addr) (n cap : Nat) (dt : List UInt8) (w : World) (dok : ds.Ok dp) (jok : s.Ok) (hops : ds.ops < 2305843009213693952) (hat : at_ ≤ 100000)
    (hok : Frm.Ok kd s.v.ep ((s.v.tx + 1 : Nat) : Int) ix no dt.length) (hl : dt.length = n) (hr : CellsOut w S a (bs dt)) (hT : TabO w S) (st : St w S (jI dp.bd p s ++ drI dp ds) w) :
    Calls Tryz.prog 63 #[bptr p.bj, .int .i64 (at_ : Int), .agg #[.int .i64 kd, .int .i64 ep0, .int .i64 tx0, .int .i64 ix, .int .i64 no, .slice a n cap]] w (GivesS S (JWrV dp p s (wseq ds.v (s.v.first + at_) (pieces (Frm.enc kd s.v.ep ((s.v.tx + 1 : Nat) : Int) ix no dt).2 (Frm.secs kd).1)) (at_ + (Frm.secs kd).1)) w) := by
  have hle := dok.wf.le
  have hrow2 := jok.row
  have hused := jok.used
  have htx := jok.tx
  refine enterG (args := [.pointer (some ⟨p.bj, 0, none⟩), _, .agg #[.int .i64 kd, .int .i64 ep0, .int .i64 tx0, .int .i64 ix, .int .i64 no, .slice a n cap]]) Tryz.func63 Tryz.ntmps63 rfl rfl st ?_
  simp only [jI, List.cons_append, List.nil_append]
  (repeat (first | refine WG.seq ?_ | refine WG.region (fun _ _ h => h) rfl ?_))
  refine WL.box rfl rfl fun b3 => ?_
  refine WL.box rfl rfl fun b4 => ?_
  refine WL.boxA rfl rfl fun b5 => ?_
  refine WL.alloc (T := 3) Tryz.zeroValue3 rfl fun b6 => ?_
  refine WL.alloc (T := 27) Tryz.zeroValue27 rfl fun b7 => ?_
  (repeat (first | refine WG.seq ?_ | refine WL.nil ?_ | refine WN.g_then ?_))
  refine WG.regionH [.blk b3 (.cells #[.pointer (some ⟨p.bj, 0, none⟩)] 30 (0, 0)), .blk p.bj (jO dp.bd p s.v)] (by kernel_rfl) (fun _ _ h => h) rfl ?_
  (refine WH.order [0, 1, 2, 3, 4, 5, 6, 7, 8, 9] (by repeat (first | exact Part.nil | refine Part.cons zK ?_ | refine Part.free ?_)) (by kernel_rfl) ?_; (repeat (first | (refine WT.k_load rfl ?_; first | refine WT.take rfl rfl (fun _ _ _ h => h) (Yl.loadBlk (T := 30) Tryz.isAgg30 rfl zH (by rfl)) rfl (by kernel_rfl) (by kernel_rfl) ?_ | refine WT.take rfl rfl (fun _ _ _ h => h) (Yl.loadBlk (T := 3) Tryz.isAgg3 rfl zH (by rfl)) rfl (by kernel_rfl) (by kernel_rfl) ?_ | refine WT.take rfl rfl (fun _ _ _ h => h) (Yl.loadBlk (T := 2) Tryz.isAgg2 rfl zH (by rfl)) rfl (by kernel_rfl) (by kernel_rfl) ?_) | (refine WT.k_fld rfl ?_; first | refine WT.take rfl rfl (fun _ _ _ h => h) (Yl.fldN0 (i := 1) (o := 1) (by kernel_rfl) rfl) rfl (by kernel_rfl) (by kernel_rfl) ?_ | refine WT.take rfl rfl (fun _ _ _ h => h) (Yl.fldN0 (i := 3) (o := 3) (by kernel_rfl) rfl) rfl (by kernel_rfl) (by kernel_rfl) ?_ | refine WT.take rfl rfl (fun _ _ _ h => h) (Yl.fldN0 (i := 5) (o := 5) (by kernel_rfl) rfl) rfl (by kernel_rfl) (by kernel_rfl) ?_) | (refine WT.k_nilc rfl ?_; refine WT.take rfl rfl (fun _ _ _ h => h) (Yl.nilCheck rfl) rfl (by kernel_rfl) (by kernel_rfl) ?_) | (refine WT.k_bin .add rfl ?_; refine WT.take rfl rfl (fun _ _ _ h => h) (Yl.add64C rfl (by omega)) rfl (by kernel_rfl) (by kernel_rfl) ?_))); refine WT.nil ?_)
  refine WH.only (i := 10) (by kernel_rfl) rfl ?_
  refine WL.storeAt (T := 2) Tryz.sizeOf2 rfl rfl rfl (.there (.there .here)) rfl ?_
  refine WL.nil (WN.nextH (.cons (.there (.there (.there (.there .here)))) (.cons (.there (.there (.there (.there .here)))) .nil)) ?_)
  (refine WH.order [11] (by repeat (first | exact Part.nil | refine Part.cons zK ?_ | refine Part.free ?_)) (by kernel_rfl) ?_; (repeat (first | (refine WT.k_fld rfl ?_; refine WT.take rfl rfl (fun _ _ _ h => h) (Yl.fldN0 (i := 2) (o := 2) (by kernel_rfl) rfl) rfl (by kernel_rfl) (by kernel_rfl) ?_))); refine WT.nil ?_)
  refine WH.only (i := 12) (by kernel_rfl) rfl ?_
  refine WL.storeAt (T := 3) Tryz.sizeOf3 rfl rfl rfl .here rfl ?_
  refine WL.nil (WN.nextH (.cons (.there (.there (.there (.there .here)))) (.cons (.there (.there (.there (.there .here)))) .nil)) (WH.done (by kernel_rfl) ?_))
  simp only [List.setIfInBounds_toArray, List.set_cons_succ, List.set_cons_zero]
  (repeat (first | (refine WL.k_load ?_; refine WL.step (Yl.loadAll (T := 121) (T' := 121) Tryz.isAgg121 Tryz.sizeOf121 rfl zH rfl) rfl ?_) | refine WG.seq ?_ | refine WG.region (fun _ _ h => h) rfl ?_ | refine WN.g_then ?_))
  refine WL.call (g := 110) Tryz.call110 rfl (fun w0 st2 => encode_c kd s.v.ep ((s.v.tx + 1 : Nat) : Int) ix no a n cap dt w0 (Rd.out hT w0 st2) hl (Rd.out hr w0 st2)) rfl fun v B hv => ?_
  obtain ⟨ea, ec, hec, rfl, rfl⟩ := hv
  rw [List.singleton_append, enc_zero hok]
  have hel := enc_len hok
  have hk5 := secs_le kd
  obtain ⟨bb, hbb⟩ : ∃ bb, bb = (Frm.enc kd s.v.ep ((s.v.tx + 1 : Nat) : Int) ix no dt).2 := ⟨_, rfl⟩
  obtain ⟨k, hk⟩ : ∃ k, k = (Frm.secs kd).1 := ⟨_, rfl⟩
  rw [← hbb] at hel hec ⊢
  rw [← hk] at hel hk5 ⊢
  rw [hel] at hec ⊢
  (repeat (first | refine WL.step (Yl.move rfl) rfl ?_ | refine WL.step (Yl.assign rfl) rfl ?_ | refine WL.step (Yl.extract rfl rfl) rfl ?_ | refine WL.step (Yl.neqF rfl rfl rfl) rfl ?_ | refine WG.seq ?_ | refine WG.region (fun _ _ h => h) rfl ?_ | refine WL.nil ?_ | refine WN.g_then ?_))
  refine WG.cond_false rfl rfl ?_
  (repeat (first | refine WL.step (Yl.move rfl) rfl ?_ | refine WG.seq ?_ | refine WG.region (fun _ _ h => h) rfl ?_ | refine WN.g_then ?_ | refine WG.skip ?_))
  refine WL.call (g := 111) Tryz.call111 rfl (fun w0 st2 => chunk_c ea k ec w0) rfl fun v C hv => ?_
  obtain ⟨b2, b9, rfl, rfl⟩ := hv
  simp only [List.cons_append, List.nil_append]
  (repeat (first | refine WL.nil ?_ | refine WN.g_then ?_ | refine WG.block ?_))
  have hwops : ∀ l : List Nat, (wseq ds.v (s.v.first + at_) (pcl bb l)).1.ops ≤ ds.ops + l.length := fun l => by
    have := wseq_ops (pcl bb l) ds.v (s.v.first + at_)
    rw [pcl, List.length_map] at this
    exact this
  refine WG.rangeG (γ := DS × Nat) (enc := fun x : Sec k => piece ea x.1) (S := fun xs => xs.map (·.1) = List.range k) (Sp := fun pre => ∃ j, j ≤ k ∧ pre.map (·.1) = List.range j) (N := k) (lb := [.pointer (some ⟨b2, 0, none⟩), .pointer (some ⟨b9, 0, none⟩)]) rfl Tryz.call149 rfl rfl
    (fun g => .row ea ec 5 1 (bs bb) :: .blk b4 (.cells #[.int .i64 ((at_ + g.2 : Nat) : Int)] 3 (0, 0)) :: .blk b3 (.cells #[.pointer (some ⟨p.bj, 0, none⟩)] 30 (0, 0)) :: .blk b7 (.cells #[.int .i64 0] 27 (0, 0)) :: .blk b6 (.cells #[.int .i64 0] 3 (0, 0)) :: .blk p.bj (jO dp.bd p s.v) :: .blk p.bm (mobj encP s.M s.c) :: drI dp g.1)
    (fun g => .blk b7 (.cells #[.int .i64 (g.2 : Int)] 27 (0, 0)) :: .blk b6 (.cells #[.int .i64 0] 3 (0, 0)) :: .blk p.bj (jO dp.bd p s.v) :: .blk p.bm (mobj encP s.M s.c) :: drI dp g.1)
    (fun g pre => g.1.Ok dp ∧ g.2 = pre.length ∧ wseq ds.v (s.v.first + at_) (pcl bb (pre.map (·.1))) = (g.1.v, 0) ∧ PlSub ds.pl g.1.pl ∧ pre.length ≤ k)
    (fun g c pre => c = .ret ∧ g.1.Ok dp ∧ g.2 ≠ 0 ∧ wseq ds.v (s.v.first + at_) (pcl bb (pre.map (·.1))) = (g.1.v, g.2) ∧ PlSub ds.pl g.1.pl)
    (ds, 0) [.blk b9 (.cells #[.int .i64 128] 3 (0, 0)), .blk b2 (.cells #[.slice ea (128 * k) ec] 23 (0, 0))]
    (.cons .here (.cons .here (.cons .here (.cons (.there (.there (.there .here))) (.cons (.there (.there (.there .here))) (.cons (.there .here) (.cons (.there .here) (.more (Part.refl _)))))))))
    ⟨dok, rfl, rfl, PlSub.refl _, Nat.zero_le _⟩
    (fun w st => chunk_seq ea k ec b2 b9 w _ hk5 hec (st.holds _ (.tail _ (.head _))) (st.holds _ (.head _)) (by simp [HA.foot]) (by simp [HA.foot])) ?_ ?_ ?_ ?_ ?_
  · rintro g pre ⟨_, _, _, h, _⟩ b hb
    obtain ⟨x, hx, hf⟩ := feet_mem.1 hb
    simp only [List.mem_cons] at hx
    rcases hx with rfl | rfl | rfl | rfl | rfl | rfl | rfl | hx
    · exact feet_mem.2 ⟨_, .head _, hf⟩
    · exact feet_mem.2 ⟨_, .tail _ (.head _), hf⟩
    · exact feet_mem.2 ⟨_, .tail _ (.tail _ (.head _)), hf⟩
    · exact feet_mem.2 ⟨_, .tail _ (.tail _ (.tail _ (.head _))), hf⟩
    · exact feet_mem.2 ⟨_, .tail _ (.tail _ (.tail _ (.tail _ (.head _)))), hf⟩
    · exact feet_mem.2 ⟨_, .tail _ (.tail _ (.tail _ (.tail _ (.tail _ (.head _))))), hf⟩
    · exact feet_mem.2 ⟨_, .tail _ (.tail _ (.tail _ (.tail _ (.tail _ (.tail _ (.head _)))))), hf⟩
    · obtain ⟨y, hy, hf2⟩ := feet_mem.1 (drI_sub (p := dp) (s0 := ds) h b (feet_mem.2 ⟨x, hx, hf⟩))
      exact feet_mem.2 ⟨y, .tail _ (.tail _ (.tail _ (.tail _ (.tail _ (.tail _ (.tail _ hy)))))), hf2⟩
  · rintro g c pre ⟨_, _, _, _, h⟩ b hb
    obtain ⟨x, hx, hf⟩ := feet_mem.1 hb
    simp only [List.mem_cons] at hx
    rcases hx with rfl | rfl | rfl | rfl | hx
    · exact feet_mem.2 ⟨_, .tail _ (.tail _ (.tail _ (.head _))), hf⟩
    · exact feet_mem.2 ⟨_, .tail _ (.tail _ (.tail _ (.tail _ (.head _)))), hf⟩
    · exact feet_mem.2 ⟨_, .tail _ (.tail _ (.tail _ (.tail _ (.tail _ (.head _))))), hf⟩
    · exact feet_mem.2 ⟨_, .tail _ (.tail _ (.tail _ (.tail _ (.tail _ (.tail _ (.head _)))))), hf⟩
    · obtain ⟨y, hy, hf2⟩ := feet_mem.1 (drI_sub (p := dp) (s0 := ds) h b (feet_mem.2 ⟨x, hx, hf⟩))
      exact feet_mem.2 ⟨y, .tail _ (.tail _ (.tail _ (.tail _ (.tail _ (.tail _ (.tail _ hy)))))), hf2⟩
  · rintro l pre x w1 ⟨d1, i⟩ ⟨d1ok, hi, hw1, hps, hpk⟩ hlen st1
    simp only at d1ok hi hw1 hps ⊢
    subst hi
    have hx := x.2
    have hop := hwops (pre.map (·.1))
    rw [hw1, List.length_map] at hop
    simp only at hop
    have hbl : bb.length ≤ 128 * k := Nat.le_of_eq hel
    (repeat (first | refine WG.seq ?_ | refine WG.block ?_))
    refine WG.regionH [.blk b3 (.cells #[.pointer (some ⟨p.bj, 0, none⟩)] 30 (0, 0)), .blk p.bj (jO dp.bd p s.v), .blk b4 (.cells #[.int .i64 ((at_ + pre.length : Nat) : Int)] 3 (0, 0))] (by kernel_rfl) (fun _ _ h => h) rfl ?_
    (refine WH.order [0, 1, 2, 3, 4, 5, 6, 7, 8, 9, 10] (by repeat (first | exact Part.nil | refine Part.cons zK ?_ | refine Part.free ?_)) (by kernel_rfl) ?_; (repeat (first | (refine WT.k_move rfl ?_; refine WT.take rfl rfl (fun _ _ _ h => h) (Yl.move rfl) rfl (by kernel_rfl) (by kernel_rfl) ?_) | (refine WT.k_load rfl ?_; first | refine WT.take rfl rfl (fun _ _ _ h => h) (Yl.loadBlk (T := 30) Tryz.isAgg30 rfl zH (by rfl)) rfl (by kernel_rfl) (by kernel_rfl) ?_ | refine WT.take rfl rfl (fun _ _ _ h => h) (Yl.loadBlk (T := 26) Tryz.isAgg26 rfl zH (by rfl)) rfl (by kernel_rfl) (by kernel_rfl) ?_ | refine WT.take rfl rfl (fun _ _ _ h => h) (Yl.loadBlk (T := 3) Tryz.isAgg3 rfl zH (by rfl)) rfl (by kernel_rfl) (by kernel_rfl) ?_) | (refine WT.k_fld rfl ?_; first | refine WT.take rfl rfl (fun _ _ _ h => h) (Yl.fldN0 (i := 0) (o := 0) (by kernel_rfl) rfl) rfl (by kernel_rfl) (by kernel_rfl) ?_ | refine WT.take rfl rfl (fun _ _ _ h => h) (Yl.fldN0 (i := 1) (o := 1) (by kernel_rfl) rfl) rfl (by kernel_rfl) (by kernel_rfl) ?_) | (refine WT.k_nilc rfl ?_; refine WT.take rfl rfl (fun _ _ _ h => h) (Yl.nilCheck rfl) rfl (by kernel_rfl) (by kernel_rfl) ?_) | (refine WT.k_bin .add rfl ?_; refine WT.take rfl rfl (fun _ _ _ h => h) (Yl.add64N (m := s.v.first) (n := at_ + pre.length) rfl rfl (by omega)) rfl (by kernel_rfl) (by kernel_rfl) ?_))); refine WT.nil ?_)
    refine WH.only (i := 11) (by kernel_rfl) rfl ?_
    refine WL.callS (g := 38) (A0 := drI dp d1) (B := [_, _, _, _, _, _, _]) Tryz.call38 rfl (permJ7 _ _ _ _ _ _ _ _) (fun w0 st2 s1 => drive_k ((s.v.first + (at_ + pre.length) : Nat) : Int) (cutA ea (128 * x.1) (128 * (x.1 + 1)) 1) 128 128 ((bb.drop (128 * x.1)).take 128) w0 d1ok rfl (by omega) (by simp only [List.length_take, List.length_drop, hel]; omega) (by rw [cutA_ne (c2 := 128 * k) (by omega) (by omega)]; exact CellsOut.cut (row_out st2 (permJ7 _ _ _ _ _ _ _ _) (.head _)) (128 * x.1) 128 hbl) s1) rfl fun v C hv => ?_
    obtain ⟨rfl, d2, d2ok, hd2, hps2, rfl⟩ := hv
    refine WL.part (Part.perm (permJ7 _ _ _ _ _ _ _ _).symm) ?_
    refine WL.nil (WN.nextH (.cons (.there (.there .here)) (.cons (.there (.there (.there (.there .here)))) (.cons (.there .here) .nil))) ?_)
    (refine WH.order [12] (by repeat (first | exact Part.nil | refine Part.cons zK ?_ | refine Part.free ?_)) (by kernel_rfl) ?_; (repeat (first | (refine WT.k_assign rfl ?_; refine WT.take rfl rfl (fun _ _ _ h => h) (Yl.assign rfl) rfl (by kernel_rfl) (by kernel_rfl) ?_))); refine WT.nil ?_)
    refine WH.done (by kernel_rfl) ?_
    have hnx := wseq_next (i := x.1) hw1
    rw [List.length_map, Nat.add_assoc] at hnx
    have hpx : (pre ++ [x]).map (·.1) = pre.map (·.1) ++ [x.1] := by simp
    rw [← hpx] at hnx
    by_cases he : (d1.v.write ((s.v.first + (at_ + pre.length) : Nat) : Int) ((bb.drop (128 * x.1)).take 128)).2 = 0
    · rw [he]
      (repeat (first | refine WL.step (Yl.move rfl) rfl ?_ | refine WL.step (Yl.neqF rfl rfl rfl) rfl ?_ | refine WG.seq ?_ | refine WG.region (fun _ _ h => h) rfl ?_ | refine WL.nil ?_ | refine WN.g_then ?_))
      refine WG.cond_false rfl rfl ?_
      (repeat (first | (refine WL.k_load ?_; refine WL.step (Yl.loadBlk (T := 3) Tryz.isAgg3 rfl zH (by rfl)) rfl ?_) | (refine WL.k_bin .add ?_; refine WL.step (Yl.add64C rfl (by omega)) rfl ?_) | refine WG.region (fun _ _ h => h) rfl ?_ | refine WN.g_then ?_ | refine WG.skip ?_))
      refine WL.storeAt (T := 3) Tryz.sizeOf3 rfl rfl rfl (.there .here) rfl ?_
      simp only [List.setIfInBounds_toArray, List.set_cons_zero]
      (repeat (first | refine WL.nil ?_ | refine WN.g_bnormal ?_))
      refine WN.gnext (d2, pre.length + 1) ⟨d2ok, by simp, by rw [hnx, hd2, ← he], hps.trans hps2, by simp; omega⟩ ?_
      exact .cons (.there .here) (.cons .here (Part.refl _))
    · (repeat (first | refine WL.step (Yl.move rfl) rfl ?_ | (refine WL.k_bin .neq ?_; refine WL.step (Yl.neqT rfl rfl (by omega)) rfl ?_) | refine WG.seq ?_ | refine WG.region (fun _ _ h => h) rfl ?_ | refine WL.nil ?_ | refine WN.g_then ?_))
      refine WG.cond_true rfl rfl ?_
      (repeat (first | refine WL.step (Yl.move rfl) rfl ?_ | refine WG.seq ?_ | refine WG.region (fun _ _ h => h) rfl ?_))
      refine WL.storeAt (T := 3) Tryz.sizeOf3 rfl rfl rfl (.there (.there (.there (.there .here)))) rfl ?_
      skip
      refine WL.storeAt (T := 27) Tryz.sizeOf27 rfl rfl rfl (.there (.there (.there (.there .here)))) rfl ?_
      simp only [List.setIfInBounds_toArray, List.set_cons_zero]
      (repeat (first | refine WL.nil ?_ | refine WN.g_then ?_ | refine WG.ret ?_ | refine WN.g_ret ?_ | refine WN.g_bret ?_))
      refine WN.gret (d2, _) ⟨rfl, d2ok, he, by rw [hnx, hd2], hps.trans hps2⟩ ?_
      exact .cons .here (.cons .here (.more (.more (.more (Part.refl _)))))
  · rintro D xs ⟨d1, i⟩ hxs ⟨d1ok, hi, hw1, hps, hpk⟩
    simp only at d1ok hi hw1 hps hxs ⊢
    rw [hxs] at hw1
    have hik : i = k := by rw [hi, ← List.length_map (·.1), hxs, List.length_range]
    subst hik
    (repeat (first | (refine WL.k_load ?_; refine WL.step (Yl.loadBlk (T := 3) Tryz.isAgg3 rfl zH (by rfl)) rfl ?_) | refine WG.seq ?_ | refine WG.region (fun _ _ h => h) rfl ?_ | refine WN.g_then ?_ | refine WN.g_bnormal ?_))
    refine WL.storeAt (T := 3) Tryz.sizeOf3 rfl rfl rfl (.there (.there (.there (.there (.there .here))))) rfl ?_
    skip
    refine WL.storeAt (T := 27) Tryz.sizeOf27 rfl rfl rfl (.there (.there (.there (.there (.there .here))))) rfl ?_
    simp only [List.setIfInBounds_toArray, List.set_cons_zero]
    (repeat (first | refine WL.nil ?_ | refine WN.g_then ?_ | refine WG.ret ?_))
    refine WN.first (.there (.there .here)) ?_
    refine WN.ret2CCM (b := b6) (b2 := b7) (cs := #[.int .i64 ((at_ + i : Nat) : Int)]) (cs2 := #[.int .i64 0]) rfl Tryz.isAgg3 Tryz.isAgg27 rfl rfl (.tail _ (.head _)) (.head _) rfl rfl ⟨?_, d1, d1ok, (by rw [pieces, hw1]), rfl⟩ (.more (.more (.more (.more (.more (Part.refl _))))))
    rw [pieces, hw1]; rfl
  · rintro D c pre ⟨d1, e⟩ ⟨j, hj, hpj⟩ ⟨rfl, d1ok, he, hw1, hps⟩
    simp only at d1ok he hw1 hps ⊢
    rw [hpj] at hw1
    have hst := wseq_stop (k := k) (i := j) hw1 he hj
    refine WG.ret ?_
    (repeat (first | refine WN.g_ret ?_ | refine WN.g_bret ?_))
    refine WN.ret2CCM (b := b6) (b2 := b7) (cs := #[.int .i64 0]) (cs2 := #[.int .i64 (e : Int)]) rfl Tryz.isAgg3 Tryz.isAgg27 rfl rfl (.tail _ (.head _)) (.head _) rfl rfl ⟨?_, d1, d1ok, (by rw [hst]), rfl⟩ (.more (.more (Part.refl _)))
    rw [hst]
    simp only [if_neg he]; rfl
end
end Go.Proofs.YtbkdjfgkebkknaaGreatDoor
