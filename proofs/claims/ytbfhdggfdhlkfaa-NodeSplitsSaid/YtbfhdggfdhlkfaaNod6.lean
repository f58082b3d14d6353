/- The page of a node, by package node. -/
import Derived.Test.YtbfhdggfdhlkfaaNod4
namespace Go.Proofs.Ytbfhdggfdhlkfaa
set_option linter.unusedVariables false
set_option linter.unusedSimpArgs false
open Go Go.RowKit
set_option maxRecDepth 100000
set_option maxHeartbeats 8000000
/-- Bytes that are handed back, and an error number. -/
abbrev Slc (r : Nat × List UInt8) : Value → List HA → Prop := NewRow (fun s => .tuple #[s, .int .i64 ((r.1 : Nat) : Int)]) 5 1 r.2.length (bs r.2)
theorem Slc.none (e : Nat) : Slc (e, []) (.tuple #[.slice none 0 0, .int .i64 (e : Int)]) [.row none 0 5 1 []] := ⟨_, 0, Nat.le_refl _, rfl, rfl⟩
namespace Nod
def encR (x : N) : Nat × List UInt8 := if Ok x then (0, page x) else (2, [])
def c0 (x : N) : List UInt8 := [first x.leaf] ++ Big.be 2 x.ks.length
def c1 (x : N) (i : Nat) : List UInt8 := c0 x ++ (x.ks.take i).flatMap keyb
def c2 (x : N) (i : Nat) : List UInt8 := c1 x x.ks.length ++ (x.vs.take i).flatten
def c3 (x : N) (i : Nat) : List UInt8 := c2 x x.vs.length ++ (x.cs.take i).flatMap fun c => Big.be 4 c.toNat
theorem c1_succ {x : N} {i : Nat} (h : i < x.ks.length) : c1 x i ++ Big.be 8 (key x.ks i).n ++ (key x.ks i).d = c1 x (i + 1) := by
  have e : x.ks.take (i + 1) = x.ks.take i ++ [key x.ks i] := take_snoc _ _ h
  rw [c1, c1, e, List.flatMap_append, List.append_assoc, List.append_assoc]
  congr 2
  simp [keyb]
theorem c2_succ {x : N} {i : Nat} (h : i < x.vs.length) : c2 x i ++ x.vs.getD i [] = c2 x (i + 1) := by
  have e : x.vs.take (i + 1) = x.vs.take i ++ [x.vs.getD i []] := take_snoc _ _ h
  rw [c2, c2, e, List.flatten_append, List.append_assoc]
  simp
theorem c3_succ {x : N} {i : Nat} (h : i < x.cs.length) : c3 x i ++ Big.be 4 (x.cs.getD i 0).toNat = c3 x (i + 1) := by
  have e : x.cs.take (i + 1) = x.cs.take i ++ [x.cs.getD i 0] := take_snoc _ _ h
  rw [c3, c3, e, List.flatMap_append, List.append_assoc]
  simp
theorem c3_body (x : N) : c3 x x.cs.length = body x := by
  rw [c3, c2, c1, c0, body, List.take_length, List.take_length, List.take_length]
theorem c2_zero (x : N) : c2 x 0 = c1 x x.ks.length := by simp [c2]
theorem c3_zero (x : N) : c3 x 0 = c2 x x.vs.length := by simp [c3]
theorem c1_zero (x : N) : c1 x 0 = c0 x := by simp [c1]
theorem c0_len (x : N) : (c0 x).length = 3 := by simp [c0, Big.be_length]
theorem c1_len {x : N} (h : x.Wf) {i : Nat} (hi : i ≤ x.ks.length) : (c1 x i).length = 3 + i * 40 := by
  rw [c1, List.length_append, c0_len, flatMap_len (k := 40) (fun k hk => keyb_len (h.ks k (List.mem_of_mem_take hk))), List.length_take, Nat.min_eq_left hi]
theorem c2_len {x : N} (h : x.Wf) {i : Nat} (hi : i ≤ x.vs.length) : (c2 x i).length = 3 + x.ks.length * 40 + i * 20 := by
  rw [c2, List.length_append, c1_len h (Nat.le_refl _), flatten_len (k := 20) (fun k hk => h.vs k (List.mem_of_mem_take hk)), List.length_take, Nat.min_eq_left hi]
theorem c3_len {x : N} (h : x.Wf) {i : Nat} (hi : i ≤ x.cs.length) : (c3 x i).length = 3 + x.ks.length * 40 + x.vs.length * 20 + i * 4 := by
  rw [c3, List.length_append, c2_len h (Nat.le_refl _), flatMap_len (k := 4) (fun c _ => Big.be_length _ _), List.length_take, Nat.min_eq_left hi]
theorem ok_counts {x : N} (h : Ok x) : x.ks.length ≤ 11 ∧ x.vs.length ≤ 8 ∧ x.cs.length ≤ 12 ∧ ∀ c ∈ x.cs, kidOk c := by
  obtain ⟨⟨_, h1⟩, h2, _⟩ := h
  unfold most at h2
  split at h1
  · rename_i hl
    rw [if_pos hl] at h2
    refine ⟨by omega, by omega, by omega, ?_⟩
    rw [List.eq_nil_of_length_eq_zero h1.2]
    intro c hc; cases hc
  · rename_i hl
    rw [if_neg hl] at h2
    exact ⟨by omega, by omega, by omega, h1.1⟩
end Nod
theorem app_be {l : List UInt8} {n W : Nat} (hW : 1 ≤ W ∧ W ≤ 8) (hn : n < 2 ^ (8 * W)) : Big.appended l n (W : Int) = (0, l ++ Big.be W n) := by
  unfold Big.appended
  rw [if_neg (by omega), Int.toNat_natCast, if_neg (by omega)]
theorem bs_rep (n : Nat) : List.replicate n (Value.int .u8 0) = bs (List.replicate n 0) := by simp [bs, bv]
attribute [local irreducible] WL WC WN Yl WH WQ WT Nod.page Nod.c0 Nod.c1 Nod.c2 Nod.c3 Nod.body Big.be
theorem encode_c (x : Nod.N) (p : Pl) (w : World) (hx : x.Wf) (h : NdAt w x p) : Calls Try.prog 15 #[ndv x p] w (Gives (Slc (Nod.encR x)) w) := by
  have hkl := hx.kl
  have hvl := hx.vl
  have hcl := hx.cl
  have hck := fun w (q : NdAt w x p) => check_c x p w hx q
  refine enter (args := [_]) Try.func15 Try.ntmps15 rfl rfl ?_
  (repeat (first | refine WL.step (Yl.assign rfl) rfl ?_ | refine WL.boxA (cs := (ndl x p).toArray) rfl rfl fun b1 => ?_ | refine WC.seq ?_ | refine WC.region ?_ | refine WL.nil ?_ | refine WN.then_normal ?_))
  by_cases h1 : Nod.Ok x
  · have e : Nod.encR x = (0, Nod.page x) := if_pos h1
    rw [e]
    rw [err_ok h1] at hck
    obtain ⟨o1, o2, o3, o4⟩ := Nod.ok_counts h1
    have hbl := Nod.body_le hx h1
    have hpl := Nod.page_len hx h1
    (repeat (first | refine WL.step (Yl.move rfl) rfl ?_ | refine WL.step (Yl.assign rfl) rfl ?_ | (refine WL.k_load ?_; refine WL.step (Yl.loadAll (T := 26) (T' := 26) Try.isAgg26 Try.sizeOf26 rfl (by repeat (first | exact .head _ | refine .tail _ ?_)) rfl) rfl ?_) | (refine WL.k_call 19 ?_; refine WL.callV (g := 19) Try.call19 rfl (fun w s => hck w ((NdAt.old h).at_ s)) rfl ?_) | refine WL.step (Yl.neqF rfl rfl rfl) rfl ?_ | refine WC.seq ?_ | refine WC.region ?_ | refine WL.nil ?_ | refine WN.then_normal ?_))
    refine WC.cond_false rfl rfl ?_
    (repeat (first | refine WC.seq ?_ | refine WC.region ?_ | refine WN.then_normal ?_ | refine WC.skip ?_))
    refine WL.make (t := 34) (m := 1) (n := 512) Try.underlying34 elemU8 rfl rfl rfl (by decide) (by decide) (by decide) rfl fun b2 => ?_
    refine WL.shrink 1 .here ?_
    rw [show (List.replicate 512 (Value.int .u8 0)).take 1 = bs [0] from rfl]
    (repeat (first | refine WL.step (Yl.assign rfl) rfl ?_ | (refine WL.k_load ?_; refine WL.step (Yl.loadBlk (T := 4) Try.isAgg4 rfl (by repeat (first | exact .head _ | refine .tail _ ?_)) (by rfl)) rfl ?_) | refine WL.step (Yl.fld0 (t := 26) Try.underlying26 fl26 rfl rfl) rfl ?_ | refine WL.step (Yl.not rfl) rfl ?_ | refine WC.seq ?_ | refine WC.region ?_ | refine WL.nil ?_ | refine WN.then_normal ?_))
    refine WC.join (α := Unit) (fun _ => [(1, .pointer (some ⟨b1, 0, none⟩)), (5, .slice (some ⟨b2, 0, none⟩) 1 512)]) (fun _ => [.row (some ⟨b2, 0, none⟩) 512 5 1 (bs [Nod.first x.leaf]), .blk b1 (.cells (ndl x p).toArray 26 (0, 0))]) (fun _ => True) ?_ (fun _ _ => ?_)
    · refine WC.cond rfl (fun hl => ?_) (fun hl => ?_)
      · have hl : x.leaf = false := by simpa using hl
        rw [hl]
        (repeat (first | refine WL.step (Yl.move rfl) rfl ?_ | (refine WL.k_idxa ?_; refine WL.step (Yl.indexAddr1 (t := 34) (j := 0) Try.underlying34 Try.sizeOf5 rfl rfl (Rd.row (by repeat (first | exact .head _ | refine .tail _ ?_))) (by simp [bs]) (by decide)) rfl ?_) | refine WC.region ?_))
        refine WL.storeRow (T := 5) (v := .int .u8 1) Try.sizeOf5 rfl rfl rfl (by repeat (first | exact Pick.here | apply Pick.there)) (by decide) ?_
        (repeat (first | refine WL.nil ?_))
        exact WN.join () trivial (by repeat (first | exact Sub.nil | refine Sub.cons rfl rfl ?_)) (.cons .here (.cons (by repeat (first | exact Pick.here | apply Pick.there)) .nil))
      · have hl : x.leaf = true := by simpa using hl
        rw [hl]
        (repeat (first | refine WC.skip ?_))
        exact WN.join () trivial (by repeat (first | exact Sub.nil | refine Sub.cons rfl rfl ?_)) (by repeat (first | exact Part.nil | refine Part.cons (by repeat (first | exact Pick.here | apply Pick.there)) ?_ | refine Part.free ?_))
    · (repeat (first | refine WL.step (Yl.move rfl) rfl ?_ | (refine WL.k_load ?_; refine WL.step (Yl.loadBlk (T := 22) Try.isAgg22 rfl (by repeat (first | exact .head _ | refine .tail _ ?_)) (by rfl)) rfl ?_) | refine WL.step (Yl.fld0 (t := 26) Try.underlying26 fl26 rfl rfl) rfl ?_ | refine WL.step (Yl.len (t := 22) Try.underlying22 rfl) rfl ?_ | (refine WL.k_conv ?_; refine WL.step (Yl.convLt (s := 3) (t := 39) Try.underlying3 Try.underlying39 rfl rfl (by show _ < 18446744073709551616; omega)) rfl ?_) | refine WC.seq ?_ | refine WC.region ?_))
      refine WL.callR (g := 33) Try.call33 rfl (fun w s => append_v (some ⟨b2, 0, none⟩) 1 512 [Nod.first x.leaf] (Nod.c0 x) x.ks.length 0 2 w rfl (by decide) (by omega) (Rd.row (by repeat (first | exact .head _ | refine .tail _ ?_)) w s) (by rw [show (2 : Int) = ((2 : Nat) : Int) from rfl, app_be (by decide) (by omega)]; unfold Nod.c0; rfl)) rfl fun q hq => ?_
      rw [Nod.c0_len] at hq ⊢
      (repeat (first | refine WL.step (Yl.move rfl) rfl ?_ | refine WL.step (Yl.assign rfl) rfl ?_ | refine WL.step (Yl.extract rfl rfl) rfl ?_ | (refine WL.k_load ?_; refine WL.step (Yl.loadBlk (T := 22) Try.isAgg22 rfl (by repeat (first | exact .head _ | refine .tail _ ?_)) (by rfl)) rfl ?_) | refine WL.step (Yl.fld0 (t := 26) Try.underlying26 fl26 rfl rfl) rfl ?_ | refine WL.step (Yl.len (t := 22) Try.underlying22 rfl) rfl ?_ | refine WC.seq ?_ | refine WC.region ?_ | refine WL.nil ?_ | refine WN.then_normal ?_ | refine WC.block ?_))
      refine WC.joinB (α := Option Addr × Nat) (fun g => [(1, .pointer (some ⟨b1, 0, none⟩)), (5, .slice g.1 (3 + x.ks.length * 40) g.2)]) (fun g => [.row g.1 g.2 5 1 (bs (Nod.c1 x x.ks.length)), .blk b1 (.cells (ndl x p).toArray 26 (0, 0))]) (fun g => 3 + x.ks.length * 40 ≤ g.2) ?_ ?_
      · refine WC.loop (α := Nat × Option Addr × Nat) (fun g => [(1, .pointer (some ⟨b1, 0, none⟩)), (5, .slice g.2.1 (3 + g.1 * 40) g.2.2), (33, .slice p.ka x.ks.length p.kc), (34, .int .i64 (x.ks.length : Int)), (35, .int .i64 (g.1 : Int))])
          (fun g => [.row g.2.1 g.2.2 5 1 (bs (Nod.c1 x g.1)), .blk b1 (.cells (ndl x p).toArray 26 (0, 0))]) (fun g => g.1 ≤ x.ks.length ∧ 3 + g.1 * 40 ≤ g.2.2) (fun g => x.ks.length - g.1) (0, q) (by repeat (first | exact Sub.nil | refine Sub.cons rfl rfl ?_)) (by simp only [Nod.c1_zero]; exact (by repeat (first | exact Part.nil | refine Part.cons (by repeat (first | exact Pick.here | apply Pick.there)) ?_ | refine Part.free ?_))) ⟨by simp, by simpa using hq⟩ ?_
        intro ⟨i, a, ac⟩ ⟨hi, ha⟩
        simp only at hi ha ⊢
        (repeat (first | refine WL.step (Yl.lss rfl rfl) rfl ?_ | refine WC.seq ?_ | refine WC.region ?_ | refine WL.nil ?_ | refine WN.then_normal ?_))
        refine WC.ite rfl (fun h2 => ?_) (fun h2 => ?_)
        · have hil : i < x.ks.length := by omega
          have hkw := hx.ks _ (key_mem hil)
          have hks := kv_size hkw
          have hcl1 := Nod.c1_len hx (i := i) hi
          have hbe := Big.be_length 8 (Nod.key x.ks i).n
          (repeat (first | refine WL.step (Yl.loadEl (kv (Nod.key x.ks i)) Try.isAgg42 Try.sizeOf42 rfl (.old h.ks) (kv_len hkw) (kv_ne _) (kcells_at hx.ks hil)) rfl ?_ | (refine WL.k_idxa ?_; refine WL.step (Yl.indexAddr (t := 22) Try.underlying22 Try.sizeOf42 rfl rfl (.old h.ks) (kcells_ne hil) (by omega)) rfl ?_) | refine WC.seq ?_ | refine WC.region ?_ | refine WN.then_normal ?_ | refine WC.block ?_ | refine WC.skip ?_))
          refine WL.allocA zeroKey rfl fun b7 => ?_
          refine WL.storeWhole (k := 33) (us := (kv (Nod.key x.ks i)).toArray) Try.sizeOf42 rfl rfl (kv_all _) .here hks rfl ?_
          (repeat (first | refine WL.step (Yl.move rfl) rfl ?_ | (refine WL.k_load ?_; refine WL.step (Yl.loadBlk (T' := 42) (cs := (kv (Nod.key x.ks i)).toArray) Try.isAgg39 rfl (by repeat (first | exact .head _ | refine .tail _ ?_)) rfl) rfl ?_) | refine WL.step (Yl.fldN0 kN rfl) rfl ?_ | refine WC.seq ?_ | refine WC.region ?_ | refine WL.nil ?_ | refine WN.then_normal ?_))
          refine WL.callR (g := 33) Try.call33 rfl (fun w s => append_v a (3 + i * 40) ac (Nod.c1 x i) (Nod.c1 x i ++ Big.be 8 (Nod.key x.ks i).n) (Nod.key x.ks i).n 0 8 w hcl1 (by omega) (by have := hkw.1; omega) (Rd.row (by repeat (first | exact .head _ | refine .tail _ ?_)) w s) (by rw [show (8 : Int) = ((8 : Nat) : Int) from rfl, app_be (by decide) (by have := hkw.1; omega)])) rfl fun q2 hq2 => ?_
          rw [show (Nod.c1 x i ++ Big.be 8 (Nod.key x.ks i).n).length = 3 + i * 40 + 8 by rw [List.length_append, hcl1, hbe]] at hq2 ⊢
          (repeat (first | refine WL.step (Yl.move rfl) rfl ?_ | refine WL.step (Yl.assign rfl) rfl ?_ | refine WL.step (Yl.extract rfl rfl) rfl ?_ | refine WL.step (Yl.fldN0 kD rfl) rfl ?_ | refine WL.step (Yl.arrAll (t := 40) Try.underlying40 Try.sizeOf5 rfl) rfl ?_ | refine WC.region ?_ | refine WL.nil ?_ | refine WN.then_normal ?_))
          refine WL.appendRow (n := 3 + i * 40 + 8) (m := 32) (olds := bs (Nod.c1 x i ++ Big.be 8 (Nod.key x.ks i).n)) Try.underlying34 elemU8 rfl rfl (by repeat (first | exact Pick.here | apply Pick.there)) (by rw [bs_length, List.length_append, hcl1, hbe, Nat.mul_one]) hq2 (Rd.blk (by repeat (first | exact .head _ | refine .tail _ ?_)) kv_tail) (by rw [bs_length, hkw.2]) (bs_one _) (by omega) (by simp only [maxLen]; omega) rfl fun q3 hq3 => ?_
          rw [← bs_append, Nod.c1_succ hil]
          (repeat (first | refine WL.step (Yl.move rfl) rfl ?_ | refine WL.step (Yl.assign rfl) rfl ?_ | (refine WL.k_bin .add ?_; refine WL.step (Yl.add64C rfl (by omega)) rfl ?_) | refine WC.region ?_ | refine WL.nil ?_ | refine WN.then_normal ?_ | refine WN.block_normal ?_))
          exact WN.next (i + 1, q3) ⟨by simp only; omega, by simp only; omega⟩ (by simp only; omega) (.cons rfl rfl (.cons rfl (by show Value.slice _ _ _ = Value.slice _ _ _; congr 1; simp only; omega) (.cons rfl rfl (.cons rfl rfl (.cons rfl rfl .nil))))) (.cons .here (.cons (by repeat (first | exact Pick.here | apply Pick.there)) .nil))
        · obtain rfl : i = x.ks.length := by omega
          (repeat (first | refine WC.exit ?_ | refine WN.then_exit ?_ | refine WN.block_here ?_))
          exact WN.join (a, ac) ha (by repeat (first | exact Sub.nil | refine Sub.cons rfl rfl ?_)) (by repeat (first | exact Part.nil | refine Part.cons (by repeat (first | exact Pick.here | apply Pick.there)) ?_ | refine Part.free ?_))
      · intro ⟨a1, ac1⟩ hac1
        simp only at hac1 ⊢
        (repeat (first | refine WL.step (Yl.move rfl) rfl ?_ | (refine WL.k_load ?_; refine WL.step (Yl.loadBlk (T := 23) Try.isAgg23 rfl (by repeat (first | exact .head _ | refine .tail _ ?_)) (by rfl)) rfl ?_) | refine WL.step (Yl.fld0 (t := 26) Try.underlying26 fl26 rfl rfl) rfl ?_ | refine WL.step (Yl.len (t := 23) Try.underlying23 rfl) rfl ?_ | refine WC.seq ?_ | refine WC.region ?_ | refine WL.nil ?_ | refine WN.then_normal ?_ | refine WC.block ?_))
        refine WC.joinB (α := Option Addr × Nat) (fun g => [(1, .pointer (some ⟨b1, 0, none⟩)), (5, .slice g.1 (3 + x.ks.length * 40 + x.vs.length * 20) g.2)]) (fun g => [.row g.1 g.2 5 1 (bs (Nod.c2 x x.vs.length)), .blk b1 (.cells (ndl x p).toArray 26 (0, 0))]) (fun g => 3 + x.ks.length * 40 + x.vs.length * 20 ≤ g.2) ?_ ?_
        · refine WC.loop (α := Nat × Option Addr × Nat) (fun g => [(1, .pointer (some ⟨b1, 0, none⟩)), (5, .slice g.2.1 (3 + x.ks.length * 40 + g.1 * 20) g.2.2), (52, .slice p.va x.vs.length p.vc), (53, .int .i64 (x.vs.length : Int)), (54, .int .i64 (g.1 : Int))])
            (fun g => [.row g.2.1 g.2.2 5 1 (bs (Nod.c2 x g.1)), .blk b1 (.cells (ndl x p).toArray 26 (0, 0))]) (fun g => g.1 ≤ x.vs.length ∧ 3 + x.ks.length * 40 + g.1 * 20 ≤ g.2.2) (fun g => x.vs.length - g.1) (0, a1, ac1) (by repeat (first | exact Sub.nil | refine Sub.cons rfl rfl ?_)) (by simp only [Nod.c2_zero]; exact (by repeat (first | exact Part.nil | refine Part.cons (by repeat (first | exact Pick.here | apply Pick.there)) ?_ | refine Part.free ?_))) ⟨by simp, by simpa using hac1⟩ ?_
          intro ⟨i, a, ac⟩ ⟨hi, ha⟩
          simp only at hi ha ⊢
          (repeat (first | refine WL.step (Yl.lss rfl rfl) rfl ?_ | refine WC.seq ?_ | refine WC.region ?_ | refine WL.nil ?_ | refine WN.then_normal ?_))
          refine WC.ite rfl (fun h2 => ?_) (fun h2 => ?_)
          · have hil : i < x.vs.length := by omega
            have hvw := val_len hx.vs hil
            have hvs := bs_size hvw
            have hcl1 := Nod.c2_len hx (i := i) hi
            have hne : bs (x.vs.getD i []) ≠ [] := by intro e; have := bs_length (x.vs.getD i []); rw [e, hvw] at this; simp at this
            (repeat (first | (refine WL.k_load ?_; refine WL.step (Yl.loadEl (bs (x.vs.getD i [])) Try.isAgg73 Try.sizeOf73 rfl (.old h.vs) (by rw [bs_length, hvw]) hne (vcells_at hx.vs hil)) rfl ?_) | (refine WL.k_idxa ?_; refine WL.step (Yl.indexAddr (t := 23) Try.underlying23 Try.sizeOf73 rfl rfl (.old h.vs) (vcells_ne hx.vs hil) (by omega)) rfl ?_) | refine WC.seq ?_ | refine WC.region ?_ | refine WN.then_normal ?_ | refine WC.block ?_ | refine WC.skip ?_))
            refine WL.allocA zeroVal rfl fun b7 => ?_
            refine WL.storeWhole (k := 20) (us := (bs (x.vs.getD i [])).toArray) Try.sizeOf73 rfl rfl (bs_all _) .here hvs rfl ?_
            (repeat (first | refine WL.step (Yl.move rfl) rfl ?_ | refine WL.step (Yl.arrAll (t := 73) Try.underlying73 Try.sizeOf5 rfl) rfl ?_ | refine WC.region ?_ | refine WL.nil ?_ | refine WN.then_normal ?_))
            refine WL.appendRow (t := 34) (n := 3 + x.ks.length * 40 + i * 20) (m := 20) (olds := bs (Nod.c2 x i)) Try.underlying34 elemU8 rfl rfl (by repeat (first | exact Pick.here | apply Pick.there)) (by rw [bs_length, hcl1, Nat.mul_one]) ha (Rd.blk (vs := bs (x.vs.getD i [])) (by repeat (first | exact .head _ | refine .tail _ ?_)) (fun j v hv => by simpa using hv)) (by rw [bs_length, hvw]) (bs_one _) (by omega) (by simp only [maxLen]; omega) rfl fun q3 hq3 => ?_
            rw [← bs_append, Nod.c2_succ hil]
            (repeat (first | refine WL.step (Yl.move rfl) rfl ?_ | refine WL.step (Yl.assign rfl) rfl ?_ | (refine WL.k_bin .add ?_; refine WL.step (Yl.add64C rfl (by omega)) rfl ?_) | refine WC.region ?_ | refine WL.nil ?_ | refine WN.then_normal ?_ | refine WN.block_normal ?_))
            exact WN.next (i + 1, q3) ⟨by simp only; omega, by simp only; omega⟩ (by simp only; omega) (.cons rfl rfl (.cons rfl (by show Value.slice _ _ _ = Value.slice _ _ _; congr 1; simp only; omega) (.cons rfl rfl (.cons rfl rfl (.cons rfl rfl .nil))))) (.cons .here (.cons (by repeat (first | exact Pick.here | apply Pick.there)) .nil))
          · obtain rfl : i = x.vs.length := by omega
            (repeat (first | refine WC.exit ?_ | refine WN.then_exit ?_ | refine WN.block_here ?_))
            exact WN.join (a, ac) ha (by repeat (first | exact Sub.nil | refine Sub.cons rfl rfl ?_)) (by repeat (first | exact Part.nil | refine Part.cons (by repeat (first | exact Pick.here | apply Pick.there)) ?_ | refine Part.free ?_))
        · intro ⟨a2, ac2⟩ hac2
          simp only at hac2 ⊢
          (repeat (first | refine WL.step (Yl.move rfl) rfl ?_ | (refine WL.k_load ?_; refine WL.step (Yl.loadBlk (T := 24) Try.isAgg24 rfl (by repeat (first | exact .head _ | refine .tail _ ?_)) (by rfl)) rfl ?_) | refine WL.step (Yl.fld0 (t := 26) Try.underlying26 fl26 rfl rfl) rfl ?_ | refine WL.step (Yl.len (t := 24) Try.underlying24 rfl) rfl ?_ | refine WC.seq ?_ | refine WC.region ?_ | refine WL.nil ?_ | refine WN.then_normal ?_ | refine WC.block ?_))
          refine WC.joinB (α := Option Addr × Nat) (fun g => [(1, .pointer (some ⟨b1, 0, none⟩)), (5, .slice g.1 (3 + x.ks.length * 40 + x.vs.length * 20 + x.cs.length * 4) g.2)]) (fun g => [.row g.1 g.2 5 1 (bs (Nod.c3 x x.cs.length)), .blk b1 (.cells (ndl x p).toArray 26 (0, 0))]) (fun g => 3 + x.ks.length * 40 + x.vs.length * 20 + x.cs.length * 4 ≤ g.2) ?_ ?_
          · refine WC.loop (α := Nat × Option Addr × Nat) (fun g => [(1, .pointer (some ⟨b1, 0, none⟩)), (5, .slice g.2.1 (3 + x.ks.length * 40 + x.vs.length * 20 + g.1 * 4) g.2.2), (63, .slice p.ca x.cs.length p.cc), (64, .int .i64 (x.cs.length : Int)), (65, .int .i64 (g.1 : Int))])
              (fun g => [.row g.2.1 g.2.2 5 1 (bs (Nod.c3 x g.1)), .blk b1 (.cells (ndl x p).toArray 26 (0, 0))]) (fun g => g.1 ≤ x.cs.length ∧ 3 + x.ks.length * 40 + x.vs.length * 20 + g.1 * 4 ≤ g.2.2) (fun g => x.cs.length - g.1) (0, a2, ac2) (by repeat (first | exact Sub.nil | refine Sub.cons rfl rfl ?_)) (by simp only [Nod.c3_zero]; exact (by repeat (first | exact Part.nil | refine Part.cons (by repeat (first | exact Pick.here | apply Pick.there)) ?_ | refine Part.free ?_))) ⟨by simp, by simpa using hac2⟩ ?_
            intro ⟨i, a, ac⟩ ⟨hi, ha⟩
            simp only at hi ha ⊢
            (repeat (first | refine WL.step (Yl.lss rfl rfl) rfl ?_ | refine WC.seq ?_ | refine WC.region ?_ | refine WL.nil ?_ | refine WN.then_normal ?_))
            refine WC.ite rfl (fun h2 => ?_) (fun h2 => ?_)
            · have hil : i < x.cs.length := by omega
              have hcl1 := Nod.c3_len hx (i := i) hi
              have hko := o4 _ (getD_mem hil)
              unfold Nod.kidOk at hko
              have hsucc := Nod.c3_succ hil
              have hat := icells_at hil
              obtain ⟨m, hm⟩ : ∃ m : Nat, x.cs.getD i 0 = (m : Int) := ⟨(x.cs.getD i 0).toNat, by omega⟩
              rw [hm] at hko hsucc hat
              rw [Int.toNat_natCast] at hsucc
              have hbe := Big.be_length 4 m
              (repeat (first | refine WL.step (Yl.move rfl) rfl ?_ | refine WL.step (Yl.assign rfl) rfl ?_ | refine WL.step (Yl.load (T := 3) Try.isAgg3 rfl (.old h.cs) hat) rfl ?_ | (refine WL.k_idxa ?_; refine WL.step (Yl.indexAddr1 (t := 24) Try.underlying24 Try.sizeOf3 rfl rfl (.old h.cs) (icells_ne hil) (by omega)) rfl ?_) | (refine WL.k_conv ?_; refine WL.step (Yl.convLt (s := 3) (t := 39) Try.underlying3 Try.underlying39 rfl rfl (by show _ < 18446744073709551616; omega)) rfl ?_) | refine WC.seq ?_ | refine WC.region ?_ | refine WL.nil ?_ | refine WN.then_normal ?_ | refine WC.block ?_ | refine WC.skip ?_))
              refine WL.callR (g := 33) Try.call33 rfl (fun w s => append_v a (3 + x.ks.length * 40 + x.vs.length * 20 + i * 4) ac (Nod.c3 x i) (Nod.c3 x i ++ Big.be 4 m) m 0 4 w hcl1 (by omega) (by omega) (Rd.row (by repeat (first | exact .head _ | refine .tail _ ?_)) w s) (by rw [show (4 : Int) = ((4 : Nat) : Int) from rfl, app_be (by decide) (by omega)])) rfl fun q2 hq2 => ?_
              rw [show (Nod.c3 x i ++ Big.be 4 m).length = 3 + x.ks.length * 40 + x.vs.length * 20 + (i + 1) * 4 by rw [List.length_append, hcl1, hbe]; omega] at hq2 ⊢
              rw [hsucc]
              (repeat (first | refine WL.step (Yl.move rfl) rfl ?_ | refine WL.step (Yl.assign rfl) rfl ?_ | refine WL.step (Yl.extract rfl rfl) rfl ?_ | (refine WL.k_bin .add ?_; refine WL.step (Yl.add64C rfl (by omega)) rfl ?_) | refine WC.region ?_ | refine WL.nil ?_ | refine WN.then_normal ?_ | refine WN.block_normal ?_))
              exact WN.next (i + 1, q2) ⟨by simp only; omega, hq2⟩ (by simp only; omega) (by repeat (first | exact Sub.nil | refine Sub.cons rfl rfl ?_)) (.cons .here (.cons (by repeat (first | exact Pick.here | apply Pick.there)) .nil))
            · obtain rfl : i = x.cs.length := by omega
              (repeat (first | refine WC.exit ?_ | refine WN.then_exit ?_ | refine WN.block_here ?_))
              exact WN.join (a, ac) ha (by repeat (first | exact Sub.nil | refine Sub.cons rfl rfl ?_)) (by repeat (first | exact Part.nil | refine Part.cons (by repeat (first | exact Pick.here | apply Pick.there)) ?_ | refine Part.free ?_))
          · intro ⟨a3, ac3⟩ hac3
            simp only at hac3 ⊢
            have hb3 := Nod.body_len hx
            rw [Nod.c3_body] at *
            rw [← hb3] at hac3 ⊢
            (repeat (first | refine WL.step (Yl.move rfl) rfl ?_ | refine WL.step (Yl.len (t := 34) Try.underlying34 rfl) rfl ?_ | (refine WL.k_bin .sub ?_; refine WL.step (Yl.subC64 rfl (by omega) (by decide)) rfl ?_) | refine WC.seq ?_ | refine WC.region ?_))
            refine WL.appendZ (olds := bs (Nod.body x)) Try.underlying34 Try.underlying3 elemU8 rfl rfl rfl (by repeat (first | exact Pick.here | apply Pick.there)) (bs_length _) hac3 (by omega) (by simp only [maxLen]; omega) rfl fun q hq => ?_
            have hfin : bs (Nod.body x) ++ List.replicate (512 - (Nod.body x).length) (Value.int .u8 0) = bs (Nod.page x) := by
              rw [bs_rep, ← bs_append]; unfold Nod.page; rfl
            have hlen : (Nod.body x).length + (512 - (Nod.body x).length) = (Nod.page x).length := by omega
            rw [hfin, hlen]
            rw [hlen] at hq
            (repeat (first | refine WL.step (Yl.assign rfl) rfl ?_ | refine WL.nil ?_ | refine WN.then_normal ?_ | refine WC.ret ?_))
            exact WN.ret2 rfl rfl rfl ⟨q.1, q.2, hq, rfl, rfl⟩ (.cons .here .nil)
  · have e : Nod.encR x = (2, []) := if_neg h1
    rw [e]
    rw [err_bad h1] at hck
    (repeat (first | refine WL.step (Yl.move rfl) rfl ?_ | refine WL.step (Yl.assign rfl) rfl ?_ | (refine WL.k_load ?_; refine WL.step (Yl.loadAll (T := 26) (T' := 26) Try.isAgg26 Try.sizeOf26 rfl (by repeat (first | exact .head _ | refine .tail _ ?_)) rfl) rfl ?_) | (refine WL.k_call 19 ?_; refine WL.callV (g := 19) Try.call19 rfl (fun w s => hck w ((NdAt.old h).at_ s)) rfl ?_) | (refine WL.k_bin .neq ?_; refine WL.step (Yl.neqT rfl rfl (by decide)) rfl ?_) | refine WC.seq ?_ | refine WC.region ?_ | refine WL.nil ?_ | refine WN.then_normal ?_))
    refine WC.cond_true rfl rfl ?_
    (repeat (first | refine WL.step (Yl.move rfl) rfl ?_ | refine WL.step (Yl.assign rfl) rfl ?_ | refine WC.seq ?_ | refine WC.region ?_ | refine WL.nil ?_ | refine WN.then_normal ?_ | refine WC.ret ?_ | refine WN.then_ret ?_))
    exact WN.ret2 rfl rfl rfl (Slc.none 2) (.free .nil)
end Go.Proofs.Ytbfhdggfdhlkfaa
