/- The page of a node, by the reference. -/
import Derived.Test.YtbfhdggfdhlkfaaNod6
namespace Go.Proofs.Ytbfhdggfdhlkfaa
set_option linter.unusedVariables false
set_option linter.unusedSimpArgs false
open Go Go.RowKit
set_option maxRecDepth 100000
set_option maxHeartbeats 8000000
theorem kcells_drop {l : List Nod.K} {i : Nat} (hl : ∀ k ∈ l, k.Wf) (h : i < l.length) : ∃ s, (kcells l).drop (i * 33) = kv (Nod.key l i) ++ s := by
  have h1 := kcells_at hl h
  exact ⟨((kcells l).drop (i * 33)).drop (kv (Nod.key l i)).length, by conv => lhs; rw [← List.take_append_drop (kv (Nod.key l i)).length ((kcells l).drop (i * 33)), h1]⟩
theorem kcells_n {l : List Nod.K} {i : Nat} (hl : ∀ k ∈ l, k.Wf) (h : i < l.length) : (kcells l)[i * 33 + 0]? = some (.int .u64 ((Nod.key l i).n : Int)) := by
  obtain ⟨s, hs⟩ := kcells_drop hl h
  have := List.getElem?_drop (xs := kcells l) (i := i * 33) (j := 0)
  rw [← this, hs]; rfl
theorem kcells_d {l : List Nod.K} {i : Nat} (hl : ∀ k ∈ l, k.Wf) (h : i < l.length) : ((kcells l).drop (i * 33 + 1)).take (bs (Nod.key l i).d).length = bs (Nod.key l i).d := by
  obtain ⟨s, hs⟩ := kcells_drop hl h
  rw [← List.drop_drop, hs, kv, List.cons_append, List.drop_succ_cons, List.drop_zero, List.take_left]
attribute [local irreducible] WL WC WN Yl WH WQ WT Nod.page Nod.c0 Nod.c1 Nod.c2 Nod.c3 Nod.body Big.be
theorem rencode_c (x : Nod.N) (p : Pl) (w : World) (hx : x.Wf) (h : NdAt w x p) : Calls Try.prog 16 #[ndv x p] w (Gives (Slc (Nod.encR x)) w) := by
  have hkl := hx.kl
  have hvl := hx.vl
  have hcl := hx.cl
  have hck := fun w (q : NdAt w x p) => rcheck_c x p w hx q
  refine enter (args := [_]) Try.func16 Try.ntmps16 rfl rfl ?_
  (repeat (first | refine WL.step (Yl.assign rfl) rfl ?_ | refine WL.boxA (cs := (ndl x p).toArray) rfl rfl fun b1 => ?_ | refine WC.seq ?_ | refine WC.region ?_ | refine WL.nil ?_ | refine WN.then_normal ?_))
  by_cases h1 : Nod.Ok x
  · have e : Nod.encR x = (0, Nod.page x) := if_pos h1
    rw [e]
    rw [err_ok h1] at hck
    obtain ⟨o1, o2, o3, o4⟩ := Nod.ok_counts h1
    have hbl := Nod.body_le hx h1
    have hpl := Nod.page_len hx h1
    (repeat (first | (refine WL.k_load ?_; refine WL.step (Yl.loadAll (T := 32) (T' := 32) Try.isAgg32 Try.sizeOf32 rfl (by repeat (first | exact .head _ | refine .tail _ ?_)) rfl) rfl ?_) | (refine WL.k_call 20 ?_; refine WL.callV (g := 20) Try.call20 rfl (fun w s => hck w ((NdAt.old h).at_ s)) rfl ?_) | refine WL.step (Yl.neqF rfl rfl rfl) rfl ?_ | refine WL.nil ?_ | refine WN.then_normal ?_))
    refine WC.cond_false rfl rfl ?_
    (repeat (first | refine WC.seq ?_ | refine WC.region ?_ | refine WN.then_normal ?_ | refine WC.skip ?_))
    refine WL.lit (t := 34) Try.underlying34 elemU8 rfl rfl rfl (by simp [Value.cells]) rfl fun b2 => ?_
    (repeat (first | refine WL.step (Yl.assign rfl) rfl ?_ | (refine WL.k_load ?_; refine WL.step (Yl.loadBlk (T := 4) Try.isAgg4 rfl (by repeat (first | exact .head _ | refine .tail _ ?_)) (by rfl)) rfl ?_) | refine WL.step (Yl.fld0 (t := 32) Try.underlying32 fl32 rfl rfl) rfl ?_ | refine WC.seq ?_ | refine WC.region ?_ | refine WL.nil ?_ | refine WN.then_normal ?_))
    refine WC.join (α := Nat) (fun b => [(1, .pointer (some ⟨b1, 0, none⟩)), (4, .slice (some ⟨b, 0, none⟩) 1 1)]) (fun b => [.row (some ⟨b, 0, none⟩) 1 5 1 (bs [Nod.first x.leaf]), .blk b1 (.cells (ndl x p).toArray 32 (0, 0))]) (fun _ => True) ?_ (fun b _ => ?_)
    · refine WC.cond rfl (fun hl => ?_) (fun hl => ?_)
      · rw [hl]
        (repeat (first | refine WC.region ?_))
        refine WL.lit (t := 34) Try.underlying34 elemU8 rfl rfl rfl (by simp [Value.cells]) rfl fun b3 => ?_
        (repeat (first | refine WL.step (Yl.assign rfl) rfl ?_ | refine WL.nil ?_))
        exact WN.join b3 trivial (by repeat (first | exact Sub.nil | refine Sub.cons rfl rfl ?_)) (.cons .here (.cons (by repeat (first | exact Pick.here | apply Pick.there)) .nil))
      · rw [hl]
        (repeat (first | refine WC.skip ?_))
        exact WN.join b2 trivial (by repeat (first | exact Sub.nil | refine Sub.cons rfl rfl ?_)) (by repeat (first | exact Part.nil | refine Part.cons (by repeat (first | exact Pick.here | apply Pick.there)) ?_ | refine Part.free ?_))
    · (repeat (first | refine WL.step (Yl.move rfl) rfl ?_ | (refine WL.k_load ?_; refine WL.step (Yl.loadBlk (T := 29) Try.isAgg29 rfl (by repeat (first | exact .head _ | refine .tail _ ?_)) (by rfl)) rfl ?_) | refine WL.step (Yl.fld0 (t := 32) Try.underlying32 fl32 rfl rfl) rfl ?_ | refine WL.step (Yl.len (t := 29) Try.underlying29 rfl) rfl ?_ | (refine WL.k_conv ?_; refine WL.step (Yl.convLt (s := 3) (t := 39) Try.underlying3 Try.underlying39 rfl rfl (by show _ < 18446744073709551616; omega)) rfl ?_) | refine WC.seq ?_ | refine WC.region ?_))
      refine WL.callR (g := 34) Try.call34 rfl (fun w s => rbytes_c x.ks.length 2 w (by decide)) rfl fun q hq => ?_
      refine WL.appendRow (t := 34) (n := 1) (m := 2) (olds := bs [Nod.first x.leaf]) Try.underlying34 elemU8 rfl rfl (by repeat (first | exact Pick.here | apply Pick.there)) rfl (by decide) (Rd.row (by repeat (first | exact .head _ | refine .tail _ ?_))) (by rw [bs_length, Big.be_length]) (bs_one _) (by omega) (by simp only [maxLen]; omega) rfl fun q2 hq2 => ?_
      rw [← bs_append, show [Nod.first x.leaf] ++ Big.be 2 x.ks.length = Nod.c0 x by unfold Nod.c0; rfl]
      (repeat (first | refine WL.step (Yl.assign rfl) rfl ?_ | refine WC.seq ?_ | refine WC.region ?_ | refine WL.nil ?_ | refine WN.then_normal ?_ | refine WC.block ?_))
      refine WC.joinB (α := Option Addr × Nat) (fun g => [(1, .pointer (some ⟨b1, 0, none⟩)), (4, .slice g.1 (3 + x.ks.length * 40) g.2)]) (fun g => [.row g.1 g.2 5 1 (bs (Nod.c1 x x.ks.length)), .blk b1 (.cells (ndl x p).toArray 32 (0, 0))]) (fun g => 3 + x.ks.length * 40 ≤ g.2) ?_ ?_
      · refine WC.loop (α := Nat × Option Addr × Nat) (fun g => [(1, .pointer (some ⟨b1, 0, none⟩)), (4, .slice g.2.1 (3 + g.1 * 40) g.2.2), (5, .int .i64 (g.1 : Int))])
          (fun g => [.row g.2.1 g.2.2 5 1 (bs (Nod.c1 x g.1)), .blk b1 (.cells (ndl x p).toArray 32 (0, 0))]) (fun g => g.1 ≤ x.ks.length ∧ 3 + g.1 * 40 ≤ g.2.2) (fun g => x.ks.length - g.1) (0, q2) (by repeat (first | exact Sub.nil | refine Sub.cons rfl rfl ?_)) (by simp only [Nod.c1_zero]; exact (by repeat (first | exact Part.nil | refine Part.cons (by repeat (first | exact Pick.here | apply Pick.there)) ?_ | refine Part.free ?_))) ⟨by simp, by simpa using hq2⟩ ?_
        intro ⟨i, a, ac⟩ ⟨hi, ha⟩
        simp only at hi ha ⊢
        (repeat (first | refine WL.step (Yl.move rfl) rfl ?_ | (refine WL.k_load ?_; refine WL.step (Yl.loadBlk (T := 29) Try.isAgg29 rfl (by repeat (first | exact .head _ | refine .tail _ ?_)) (by rfl)) rfl ?_) | refine WL.step (Yl.fld0 (t := 32) Try.underlying32 fl32 rfl rfl) rfl ?_ | refine WL.step (Yl.len (t := 29) Try.underlying29 rfl) rfl ?_ | refine WL.step (Yl.lss rfl rfl) rfl ?_ | refine WC.seq ?_ | refine WC.region ?_ | refine WL.nil ?_ | refine WN.then_normal ?_))
        refine WC.ite rfl (fun h2 => ?_) (fun h2 => ?_)
        · have hil : i < x.ks.length := by omega
          have hkw := hx.ks _ (key_mem hil)
          have hcl1 := Nod.c1_len hx (i := i) hi
          have hbe := Big.be_length 8 (Nod.key x.ks i).n
          (repeat (first | refine WL.step (Yl.move rfl) rfl ?_ | (refine WL.k_load ?_; first | refine WL.step (Yl.loadBlk (T := 29) Try.isAgg29 rfl (by repeat (first | exact .head _ | refine .tail _ ?_)) (by rfl)) rfl ?_ | refine WL.step (Yl.load (T := 39) Try.isAgg39 rfl (.old h.ks) (kcells_n hx.ks hil)) rfl ?_) | (refine WL.k_fld ?_; first | refine WL.step (Yl.fld0 (t := 32) Try.underlying32 fl32 rfl rfl) rfl ?_ | refine WL.step (Yl.fldEl rkN (.old h.ks) (kcells_ne hil) rfl) rfl ?_) | (refine WL.k_idxa ?_; refine WL.step (Yl.indexAddr (t := 29) Try.underlying29 Try.sizeOf45 rfl rfl (.old h.ks) (kcells_ne hil) (by omega)) rfl ?_) | refine WC.seq ?_ | refine WC.region ?_ | refine WN.then_normal ?_ | refine WC.block ?_ | refine WC.skip ?_))
          refine WL.callR (g := 34) Try.call34 rfl (fun w s => rbytes_c (Nod.key x.ks i).n 8 w (by decide)) rfl fun q3 hq3 => ?_
          refine WL.appendRow (t := 34) (n := 3 + i * 40) (m := 8) (olds := bs (Nod.c1 x i)) Try.underlying34 elemU8 rfl rfl (by repeat (first | exact Pick.here | apply Pick.there)) (by rw [bs_length, hcl1, Nat.mul_one]) ha (Rd.row (by repeat (first | exact .head _ | refine .tail _ ?_))) (by rw [bs_length, hbe]) (bs_one _) (by omega) (by simp only [maxLen]; omega) rfl fun q4 hq4 => ?_
          rw [← bs_append]
          (repeat (first | refine WL.step (Yl.move rfl) rfl ?_ | refine WL.step (Yl.assign rfl) rfl ?_ | (refine WL.k_load ?_; refine WL.step (Yl.loadBlk (T := 29) Try.isAgg29 rfl (by repeat (first | exact .head _ | refine .tail _ ?_)) (by rfl)) rfl ?_) | (refine WL.k_fld ?_; first | refine WL.step (Yl.fld0 (t := 32) Try.underlying32 fl32 rfl rfl) rfl ?_ | refine WL.step (Yl.fldEl rkD (.old h.ks) (kcells_ne hil) rfl) rfl ?_) | (refine WL.k_idxa ?_; refine WL.step (Yl.indexAddr (t := 29) Try.underlying29 Try.sizeOf45 rfl rfl (.old h.ks) (kcells_ne hil) (by omega)) rfl ?_) | refine WL.step (Yl.arrEl Try.underlying40 Try.sizeOf5 (.old h.ks) (kcells_ne hil) rfl) rfl ?_ | refine WC.region ?_ | refine WL.nil ?_ | refine WN.then_normal ?_))
          refine WL.appendRow (n := 3 + i * 40 + 8) (m := 32) (olds := bs (Nod.c1 x i ++ Big.be 8 (Nod.key x.ks i).n)) Try.underlying34 elemU8 rfl rfl (by repeat (first | exact Pick.here | apply Pick.there)) (by rw [bs_length, List.length_append, hcl1, hbe, Nat.mul_one]) hq4 ((Rd.old h.ks).el_ _ (kcells_d hx.ks hil)) (by rw [bs_length, hkw.2]) (bs_one _) (by omega) (by simp only [maxLen]; omega) rfl fun q5 hq5 => ?_
          rw [← bs_append, Nod.c1_succ hil]
          (repeat (first | refine WL.step (Yl.move rfl) rfl ?_ | refine WL.step (Yl.assign rfl) rfl ?_ | (refine WL.k_bin .add ?_; refine WL.step (Yl.add64C rfl (by omega)) rfl ?_) | refine WC.region ?_ | refine WL.nil ?_ | refine WN.then_normal ?_ | refine WN.block_normal ?_))
          exact WN.next (i + 1, q5) ⟨by simp only; omega, by simp only; omega⟩ (by simp only; omega) (.cons rfl rfl (.cons rfl (by show Value.slice _ _ _ = Value.slice _ _ _; congr 1; simp only; omega) (.cons rfl rfl .nil))) (.cons .here (.cons (by repeat (first | exact Pick.here | apply Pick.there)) .nil))
        · obtain rfl : i = x.ks.length := by omega
          (repeat (first | refine WC.exit ?_ | refine WN.then_exit ?_ | refine WN.block_here ?_))
          exact WN.join (a, ac) ha (by repeat (first | exact Sub.nil | refine Sub.cons rfl rfl ?_)) (by repeat (first | exact Part.nil | refine Part.cons (by repeat (first | exact Pick.here | apply Pick.there)) ?_ | refine Part.free ?_))
      · intro ⟨a1, ac1⟩ hac1
        simp only at hac1 ⊢
        (repeat (first | refine WL.step (Yl.assign rfl) rfl ?_ | refine WC.seq ?_ | refine WC.region ?_ | refine WL.nil ?_ | refine WN.then_normal ?_ | refine WC.block ?_))
        refine WC.joinB (α := Option Addr × Nat) (fun g => [(1, .pointer (some ⟨b1, 0, none⟩)), (4, .slice g.1 (3 + x.ks.length * 40 + x.vs.length * 20) g.2)]) (fun g => [.row g.1 g.2 5 1 (bs (Nod.c2 x x.vs.length)), .blk b1 (.cells (ndl x p).toArray 32 (0, 0))]) (fun g => 3 + x.ks.length * 40 + x.vs.length * 20 ≤ g.2) ?_ ?_
        · refine WC.loop (α := Nat × Option Addr × Nat) (fun g => [(1, .pointer (some ⟨b1, 0, none⟩)), (4, .slice g.2.1 (3 + x.ks.length * 40 + g.1 * 20) g.2.2), (6, .int .i64 (g.1 : Int))])
            (fun g => [.row g.2.1 g.2.2 5 1 (bs (Nod.c2 x g.1)), .blk b1 (.cells (ndl x p).toArray 32 (0, 0))]) (fun g => g.1 ≤ x.vs.length ∧ 3 + x.ks.length * 40 + g.1 * 20 ≤ g.2.2) (fun g => x.vs.length - g.1) (0, a1, ac1) (by repeat (first | exact Sub.nil | refine Sub.cons rfl rfl ?_)) (by simp only [Nod.c2_zero]; exact (by repeat (first | exact Part.nil | refine Part.cons (by repeat (first | exact Pick.here | apply Pick.there)) ?_ | refine Part.free ?_))) ⟨by simp, by simpa using hac1⟩ ?_
          intro ⟨i, a, ac⟩ ⟨hi, ha⟩
          simp only at hi ha ⊢
          (repeat (first | refine WL.step (Yl.move rfl) rfl ?_ | (refine WL.k_load ?_; refine WL.step (Yl.loadBlk (T := 30) Try.isAgg30 rfl (by repeat (first | exact .head _ | refine .tail _ ?_)) (by rfl)) rfl ?_) | refine WL.step (Yl.fld0 (t := 32) Try.underlying32 fl32 rfl rfl) rfl ?_ | refine WL.step (Yl.len (t := 30) Try.underlying30 rfl) rfl ?_ | refine WL.step (Yl.lss rfl rfl) rfl ?_ | refine WC.seq ?_ | refine WC.region ?_ | refine WL.nil ?_ | refine WN.then_normal ?_))
          refine WC.ite rfl (fun h2 => ?_) (fun h2 => ?_)
          · have hil : i < x.vs.length := by omega
            have hvw := val_len hx.vs hil
            have hcl1 := Nod.c2_len hx (i := i) hi
            (repeat (first | refine WL.step (Yl.move rfl) rfl ?_ | (refine WL.k_load ?_; refine WL.step (Yl.loadBlk (T := 30) Try.isAgg30 rfl (by repeat (first | exact .head _ | refine .tail _ ?_)) (by rfl)) rfl ?_) | refine WL.step (Yl.fld0 (t := 32) Try.underlying32 fl32 rfl rfl) rfl ?_ | (refine WL.k_idxa ?_; refine WL.step (Yl.indexAddr (t := 30) Try.underlying30 Try.sizeOf78 rfl rfl (.old h.vs) (vcells_ne hx.vs hil) (by omega)) rfl ?_) | refine WL.step (Yl.arrEl Try.underlying78 Try.sizeOf5 (.old h.vs) (vcells_ne hx.vs hil) rfl) rfl ?_ | refine WC.seq ?_ | refine WC.region ?_ | refine WN.then_normal ?_ | refine WC.block ?_ | refine WC.skip ?_))
            refine WL.appendRow (t := 34) (n := 3 + x.ks.length * 40 + i * 20) (m := 20) (olds := bs (Nod.c2 x i)) Try.underlying34 elemU8 rfl rfl (by repeat (first | exact Pick.here | apply Pick.there)) (by rw [bs_length, hcl1, Nat.mul_one]) ha ((Rd.old h.vs).el_ _ (vcells_at hx.vs hil)) (by rw [bs_length, hvw]) (bs_one _) (by omega) (by simp only [maxLen]; omega) rfl fun q3 hq3 => ?_
            rw [← bs_append, Nod.c2_succ hil]
            (repeat (first | refine WL.step (Yl.move rfl) rfl ?_ | refine WL.step (Yl.assign rfl) rfl ?_ | (refine WL.k_bin .add ?_; refine WL.step (Yl.add64C rfl (by omega)) rfl ?_) | refine WC.region ?_ | refine WL.nil ?_ | refine WN.then_normal ?_ | refine WN.block_normal ?_))
            exact WN.next (i + 1, q3) ⟨by simp only; omega, by simp only; omega⟩ (by simp only; omega) (.cons rfl rfl (.cons rfl (by show Value.slice _ _ _ = Value.slice _ _ _; congr 1; simp only; omega) (.cons rfl rfl .nil))) (.cons .here (.cons (by repeat (first | exact Pick.here | apply Pick.there)) .nil))
          · obtain rfl : i = x.vs.length := by omega
            (repeat (first | refine WC.exit ?_ | refine WN.then_exit ?_ | refine WN.block_here ?_))
            exact WN.join (a, ac) ha (by repeat (first | exact Sub.nil | refine Sub.cons rfl rfl ?_)) (by repeat (first | exact Part.nil | refine Part.cons (by repeat (first | exact Pick.here | apply Pick.there)) ?_ | refine Part.free ?_))
        · intro ⟨a2, ac2⟩ hac2
          simp only at hac2 ⊢
          (repeat (first | refine WL.step (Yl.assign rfl) rfl ?_ | refine WC.seq ?_ | refine WC.region ?_ | refine WL.nil ?_ | refine WN.then_normal ?_ | refine WC.block ?_))
          refine WC.joinB (α := Option Addr × Nat) (fun g => [(4, .slice g.1 (3 + x.ks.length * 40 + x.vs.length * 20 + x.cs.length * 4) g.2)]) (fun g => [.row g.1 g.2 5 1 (bs (Nod.c3 x x.cs.length))]) (fun g => 3 + x.ks.length * 40 + x.vs.length * 20 + x.cs.length * 4 ≤ g.2) ?_ ?_
          · refine WC.loop (α := Nat × Option Addr × Nat) (fun g => [(1, .pointer (some ⟨b1, 0, none⟩)), (4, .slice g.2.1 (3 + x.ks.length * 40 + x.vs.length * 20 + g.1 * 4) g.2.2), (7, .int .i64 (g.1 : Int))])
              (fun g => [.row g.2.1 g.2.2 5 1 (bs (Nod.c3 x g.1)), .blk b1 (.cells (ndl x p).toArray 32 (0, 0))]) (fun g => g.1 ≤ x.cs.length ∧ 3 + x.ks.length * 40 + x.vs.length * 20 + g.1 * 4 ≤ g.2.2) (fun g => x.cs.length - g.1) (0, a2, ac2) (by repeat (first | exact Sub.nil | refine Sub.cons rfl rfl ?_)) (by simp only [Nod.c3_zero]; exact (by repeat (first | exact Part.nil | refine Part.cons (by repeat (first | exact Pick.here | apply Pick.there)) ?_ | refine Part.free ?_))) ⟨by simp, by simpa using hac2⟩ ?_
            intro ⟨i, a, ac⟩ ⟨hi, ha⟩
            simp only at hi ha ⊢
            (repeat (first | refine WL.step (Yl.move rfl) rfl ?_ | (refine WL.k_load ?_; refine WL.step (Yl.loadBlk (T := 24) Try.isAgg24 rfl (by repeat (first | exact .head _ | refine .tail _ ?_)) (by rfl)) rfl ?_) | refine WL.step (Yl.fld0 (t := 32) Try.underlying32 fl32 rfl rfl) rfl ?_ | refine WL.step (Yl.len (t := 24) Try.underlying24 rfl) rfl ?_ | refine WL.step (Yl.lss rfl rfl) rfl ?_ | refine WC.seq ?_ | refine WC.region ?_ | refine WL.nil ?_ | refine WN.then_normal ?_))
            refine WC.ite rfl (fun h2 => ?_) (fun h2 => ?_)
            · have hil : i < x.cs.length := by omega
              have hcl1 := Nod.c3_len hx (i := i) hi
              have hko := o4 _ (getD_mem hil)
              unfold Nod.kidOk at hko
              have hsucc := Nod.c3_succ hil
              have hat := icells_at hil
              obtain ⟨m, hm⟩ : ∃ m : Nat, x.cs.getD i 0 = (m : Int) := ⟨(x.cs.getD i 0).toNat, by omega⟩
              rw [hm] at hko hsucc hat
              rw [Int.toNat_natCast] at hsucc
              have hbe := Big.be_length 4 m
              (repeat (first | refine WL.step (Yl.move rfl) rfl ?_ | (refine WL.k_load ?_; first | refine WL.step (Yl.loadBlk (T := 24) Try.isAgg24 rfl (by repeat (first | exact .head _ | refine .tail _ ?_)) (by rfl)) rfl ?_ | refine WL.step (Yl.load (T := 3) Try.isAgg3 rfl (.old h.cs) hat) rfl ?_) | refine WL.step (Yl.fld0 (t := 32) Try.underlying32 fl32 rfl rfl) rfl ?_ | (refine WL.k_idxa ?_; refine WL.step (Yl.indexAddr1 (t := 24) Try.underlying24 Try.sizeOf3 rfl rfl (.old h.cs) (icells_ne hil) (by omega)) rfl ?_) | (refine WL.k_conv ?_; refine WL.step (Yl.convLt (s := 3) (t := 39) Try.underlying3 Try.underlying39 rfl rfl (by show _ < 18446744073709551616; omega)) rfl ?_) | refine WC.seq ?_ | refine WC.region ?_ | refine WN.then_normal ?_ | refine WC.block ?_ | refine WC.skip ?_))
              refine WL.callR (g := 34) Try.call34 rfl (fun w s => rbytes_c m 4 w (by decide)) rfl fun q3 hq3 => ?_
              refine WL.appendRow (t := 34) (n := 3 + x.ks.length * 40 + x.vs.length * 20 + i * 4) (m := 4) (olds := bs (Nod.c3 x i)) Try.underlying34 elemU8 rfl rfl (by repeat (first | exact Pick.here | apply Pick.there)) (by rw [bs_length, hcl1, Nat.mul_one]) ha (Rd.row (by repeat (first | exact .head _ | refine .tail _ ?_))) (by rw [bs_length, hbe]) (bs_one _) (by omega) (by simp only [maxLen]; omega) rfl fun q4 hq4 => ?_
              rw [← bs_append, hsucc]
              (repeat (first | refine WL.step (Yl.move rfl) rfl ?_ | refine WL.step (Yl.assign rfl) rfl ?_ | (refine WL.k_bin .add ?_; refine WL.step (Yl.add64C rfl (by omega)) rfl ?_) | refine WC.region ?_ | refine WL.nil ?_ | refine WN.then_normal ?_ | refine WN.block_normal ?_))
              exact WN.next (i + 1, q4) ⟨by simp only; omega, by simp only; omega⟩ (by simp only; omega) (.cons rfl rfl (.cons rfl (by show Value.slice _ _ _ = Value.slice _ _ _; congr 1; simp only; omega) (.cons rfl rfl .nil))) (.cons .here (.cons (by repeat (first | exact Pick.here | apply Pick.there)) .nil))
            · obtain rfl : i = x.cs.length := by omega
              (repeat (first | refine WC.exit ?_ | refine WN.then_exit ?_ | refine WN.block_here ?_))
              exact WN.join (a, ac) ha (by repeat (first | exact Sub.nil | refine Sub.cons rfl rfl ?_)) (by repeat (first | exact Part.nil | refine Part.cons (by repeat (first | exact Pick.here | apply Pick.there)) ?_ | refine Part.free ?_))
          · intro ⟨a3, ac3⟩ hac3
            simp only at hac3 ⊢
            have hb3 := Nod.body_len hx
            rw [Nod.c3_body] at *
            rw [← hb3] at hac3 ⊢
            have hfin : Nod.body x ++ List.replicate (512 - (Nod.body x).length) 0 = Nod.page x := by unfold Nod.page; rfl
            generalize hB : Nod.body x = B at *
            (repeat (first | refine WC.seq ?_ | refine WC.block ?_))
            refine WC.joinB (α := Option Addr × Nat) (fun g => [(4, .slice g.1 512 g.2)]) (fun g => [.row g.1 g.2 5 1 (bs (Nod.page x))]) (fun g => 512 ≤ g.2) ?_ ?_
            · refine WC.loop (α := Nat × Option Addr × Nat) (fun g => [(4, .slice g.2.1 (B.length + g.1) g.2.2)])
                (fun g => [.row g.2.1 g.2.2 5 1 (bs (B ++ List.replicate g.1 0))]) (fun g => B.length + g.1 ≤ 512 ∧ B.length + g.1 ≤ g.2.2) (fun g => 512 - g.1) (0, a3, ac3) (by repeat (first | exact Sub.nil | refine Sub.cons rfl rfl ?_)) (by simp only [List.replicate_zero, List.append_nil]; exact (by repeat (first | exact Part.nil | refine Part.cons (by repeat (first | exact Pick.here | apply Pick.there)) ?_ | refine Part.free ?_))) ⟨by simp only; omega, by simp only; omega⟩ ?_
              intro ⟨i, a, ac⟩ ⟨hi, ha⟩
              simp only at hi ha ⊢
              (repeat (first | refine WL.step (Yl.move rfl) rfl ?_ | refine WL.step (Yl.len (t := 34) Try.underlying34 rfl) rfl ?_ | refine WL.step (Yl.lss rfl rfl) rfl ?_ | refine WC.seq ?_ | refine WC.region ?_ | refine WL.nil ?_ | refine WN.then_normal ?_))
              refine WC.ite rfl (fun h2 => ?_) (fun h2 => ?_)
              · (repeat (first | refine WL.step (Yl.move rfl) rfl ?_ | refine WC.region ?_ | refine WN.then_normal ?_ | refine WC.block ?_ | refine WC.skip ?_))
                refine WL.lit (t := 34) Try.underlying34 elemU8 rfl rfl rfl (by simp [Value.cells]) rfl fun b3 => ?_
                refine WL.appendRow (t := 34) (n := B.length + i) (m := 1) (olds := bs (B ++ List.replicate i 0)) Try.underlying34 elemU8 rfl rfl (by repeat (first | exact Pick.here | apply Pick.there)) (by simp [bs_length]) ha (Rd.row (.head _)) rfl (bs_one [0]) (by omega) (by simp only [maxLen]; omega) rfl fun q3 hq3 => ?_
                have hnew : bs (B ++ List.replicate i 0) ++ flat [.int .u8 0] = bs (B ++ List.replicate (i + 1) 0) := by
                  rw [show flat [Value.int .u8 0] = bs [0] from rfl, ← bs_append, List.append_assoc, List.replicate_succ']
                rw [hnew]
                (repeat (first | refine WL.step (Yl.assign rfl) rfl ?_ | refine WL.nil ?_ | refine WN.block_normal ?_))
                exact WN.next (i + 1, q3) ⟨by simp only; omega, by simp only; omega⟩ (by simp only; omega) (by repeat (first | exact Sub.nil | refine Sub.cons rfl rfl ?_)) (.cons .here .nil)
              · have hi5 : B.length + i = 512 := by omega
                rw [hi5] at ha ⊢
                rw [show i = 512 - B.length by omega, hfin]
                (repeat (first | refine WC.exit ?_ | refine WN.then_exit ?_ | refine WN.block_here ?_))
                exact WN.join (a, ac) ha (by repeat (first | exact Sub.nil | refine Sub.cons rfl rfl ?_)) (by repeat (first | exact Part.nil | refine Part.cons (by repeat (first | exact Pick.here | apply Pick.there)) ?_ | refine Part.free ?_))
            · intro ⟨a4, ac4⟩ hac4
              simp only at hac4 ⊢
              (repeat (first | refine WL.step (Yl.move rfl) rfl ?_ | refine WL.step (Yl.assign rfl) rfl ?_ | refine WC.seq ?_ | refine WC.region ?_ | refine WL.nil ?_ | refine WN.then_normal ?_ | refine WC.ret ?_))
              exact WN.ret2 rfl rfl rfl ⟨a4, ac4, by rw [hpl]; exact hac4, by rw [hpl]; rfl, rfl⟩ (.cons .here .nil)
  · have e : Nod.encR x = (2, []) := if_neg h1
    rw [e]
    rw [err_bad h1] at hck
    (repeat (first | (refine WL.k_load ?_; refine WL.step (Yl.loadAll (T := 32) (T' := 32) Try.isAgg32 Try.sizeOf32 rfl (by repeat (first | exact .head _ | refine .tail _ ?_)) rfl) rfl ?_) | (refine WL.k_call 20 ?_; refine WL.callV (g := 20) Try.call20 rfl (fun w s => hck w ((NdAt.old h).at_ s)) rfl ?_) | (refine WL.k_bin .neq ?_; refine WL.step (Yl.neqT rfl rfl (by decide)) rfl ?_) | refine WL.nil ?_ | refine WN.then_normal ?_))
    refine WC.cond_true rfl rfl ?_
    (repeat (first | refine WL.step (Yl.assign rfl) rfl ?_ | refine WC.seq ?_ | refine WC.region ?_ | refine WL.nil ?_ | refine WN.then_normal ?_ | refine WC.ret ?_ | refine WN.then_ret ?_))
    exact WN.ret2 rfl rfl rfl (Slc.none 2) (.free .nil)
end Go.Proofs.Ytbfhdggfdhlkfaa
