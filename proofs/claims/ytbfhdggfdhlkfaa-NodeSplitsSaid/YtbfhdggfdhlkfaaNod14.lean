/- Nodes that drafts make. -/
import Derived.Test.YtbfhdggfdhlkfaaNod13
namespace Go.Proofs.Ytbfhdggfdhlkfaa
set_option linter.unusedVariables false
set_option linter.unusedSimpArgs false
open Go Go.RowKit
set_option maxRecDepth 100000
set_option maxHeartbeats 8000000
def u16s (l : List Nat) : List Value := l.map fun n : Nat => .int .u16 (n : Int)
theorem u16s_len (l : List Nat) : (u16s l).length = l.length := List.length_map _
theorem u16s_at {l : List Nat} {i : Nat} (h : i < l.length) : (u16s l)[i]? = some (.int .u16 ((l.getD i 0 : Nat) : Int)) := by simp [u16s, List.getD, h]
theorem u16s_ne {l : List Nat} {i : Nat} (h : i < l.length) : u16s l ≠ [] := ne_nil_of (u16s_at h)
theorem fl65 : flatT Try.prog 65 = true := by kernel_rfl
theorem mkeys_succ (st : List Nat) (f i : Nat) : Nod.mkeys st f (i + 1) = Nod.mkeys st f i ++ [Nod.keyI st f i] := by simp [Nod.mkeys, List.range_succ]
theorem mval_nil (i : Nat) : bs (UInt8.ofNat i :: List.replicate 19 0) = bs (Nod.mval [] i) := rfl
theorem mval_put {vals : List UInt8} {i : Nat} (h : 0 < vals.length) : ((bs (UInt8.ofNat i :: List.replicate 19 0)).toArray.toList.set 19 (bv (vals.getD (i % vals.length) 0))) = bs (Nod.mval vals i) := by
  have h0 : ¬ vals.length = 0 := by omega
  have e : Nod.mval vals i = (UInt8.ofNat i :: List.replicate 19 0).set 19 (vals.getD (i % vals.length) 0) := by
    unfold Nod.mval; rw [if_neg h0]; rfl
  rw [e, bs_set]
theorem u8_succ (c : UInt8) : Value.int .u8 (((c.toNat + 1) % 2 ^ IntKind.u8.bits : Nat) : Int) = bv (c + 1) := by
  unfold bv; rw [UInt8.toNat_add]; rfl
/-- Where a draft's rows lie. -/
structure DAt (w : World) (d : Nod.D) (sa va ka : Option Addr) : Prop where
  st : CellsAt w sa (u16s d.steps)
  vs : CellsAt w va (bs d.vals)
  cs : CellsAt w ka (u16s d.kids)
  sl : d.steps.length ≤ 9223372036854775807
  vl : d.vals.length ≤ 9223372036854775807
  cl : d.kids.length ≤ 9223372036854775807
structure DRd (X : Cx) (A : List HA) (d : Nod.D) (sa va ka : Option Addr) : Prop where
  st : Rd X A sa (u16s d.steps)
  vs : Rd X A va (bs d.vals)
  cs : Rd X A ka (u16s d.kids)
  sl : d.steps.length ≤ 9223372036854775807
  vl : d.vals.length ≤ 9223372036854775807
  cl : d.kids.length ≤ 9223372036854775807
theorem DAt.old {P : Program} {n : Nat} {w0 : World} {A : List HA} {d : Nod.D} {sa va ka : Option Addr} (h : DAt w0 d sa va ka) : DRd ⟨P, n, w0, []⟩ A d sa va ka := ⟨.old h.st, .old h.vs, .old h.cs, h.sl, h.vl, h.cl⟩
theorem DRd.at_ {X : Cx} {A : List HA} {d : Nod.D} {sa va ka : Option Addr} {w : World} (h : DRd X A d sa va ka) (s : St X.w0 X.S A w) : DAt w d sa va ka := ⟨h.st w s, h.vs w s, h.cs w s, h.sl, h.vl, h.cl⟩
def drv (lf : Bool) (f : Nat) (sa va ka : Option Addr) (sl sc vl vc cl cc : Nat) : Value := .agg #[.bool lf, .int .u64 (f : Int), .slice sa sl sc, .slice va vl vc, .slice ka cl cc]
theorem buildD0 (c : UInt8) (w : World) : (Instr.build 40 [(0, bv c)].toArray).run Try.prog w = .ok (.agg (bs (c :: List.replicate 31 0)).toArray) w := by
  have h : (Try.prog.info? 40).map (fun i => i.zero) = some (some (.agg (bs (List.replicate 32 0)).toArray)) := by kernel_rfl
  simp only [Instr.build, zero_of h, run_underlying Try.underlying40, Try.sizeOf5, show (bs (List.replicate 32 0)).toArray = #[.int .u8 0, .int .u8 0, .int .u8 0, .int .u8 0, .int .u8 0, .int .u8 0, .int .u8 0, .int .u8 0, .int .u8 0, .int .u8 0, .int .u8 0, .int .u8 0, .int .u8 0, .int .u8 0, .int .u8 0, .int .u8 0, .int .u8 0, .int .u8 0, .int .u8 0, .int .u8 0, .int .u8 0, .int .u8 0, .int .u8 0, .int .u8 0, .int .u8 0, .int .u8 0, .int .u8 0, .int .u8 0, .int .u8 0, .int .u8 0, .int .u8 0, .int .u8 0] from rfl, Value.cells, Instr.fill, Sem.run_bind, Result.andThen_ok, bv]
  simp
  rfl
attribute [local irreducible] WL WC WN Yl WH WQ WT WE WU
theorem at_c (a : Option Addr) (n cap i : Nat) (l : List Nat) (w : World) (hl : l.length = n) (hn : n ≤ 9223372036854775807) (hw : ∀ s ∈ l, s < 65536) (hi : i ≤ 1000) (hr : CellsAt w a (u16s l)) :
    Calls Try.prog 54 #[.slice a n cap, .int .i64 (i : Int)] w (Gives (Val (.int .i64 ((Nod.at_ l i : Nat) : Int))) w) := by
  refine enter (args := [_, _]) Try.func54 Try.ntmps54 rfl rfl ?_
  by_cases h0 : n = 0
  · rw [show Nod.at_ l i = 0 from if_pos (by omega)]
    (repeat (first | refine WL.step (Yl.move rfl) rfl ?_ | refine WL.step (Yl.assign rfl) rfl ?_ | refine WL.step (Yl.len (t := 63) Try.underlying63 rfl) rfl ?_ | (refine WL.k_bin .eql ?_; refine WL.step (Yl.eqlT rfl rfl (by omega)) rfl ?_) | refine WC.seq ?_ | refine WC.region ?_ | refine WL.nil ?_ | refine WN.then_normal ?_))
    refine WC.cond_true rfl rfl ?_
    (repeat (first | refine WL.step (Yl.assign rfl) rfl ?_ | refine WC.seq ?_ | refine WC.region ?_ | refine WL.nil ?_ | refine WN.then_normal ?_ | refine WC.ret ?_ | refine WN.then_ret ?_))
    exact WN.ret1 rfl rfl ⟨rfl, rfl⟩ .nil
  · have hat := Nod.at_lt hw i
    have e : Nod.at_ l i = l.getD (i % n) 0 := by unfold Nod.at_; rw [if_neg (by omega), hl]
    rw [e] at hat ⊢
    have him : i % n < n := Nat.mod_lt _ (by omega)
    have hil : i % n < l.length := by omega
    (repeat (first | refine WL.step (Yl.move rfl) rfl ?_ | refine WL.step (Yl.assign rfl) rfl ?_ | refine WL.step (Yl.len (t := 63) Try.underlying63 rfl) rfl ?_ | (refine WL.k_bin .eql ?_; refine WL.step (Yl.eqlF rfl rfl (by omega)) rfl ?_) | refine WC.seq ?_ | refine WC.region ?_ | refine WL.nil ?_ | refine WN.then_normal ?_))
    refine WC.cond_false rfl rfl ?_
    (repeat (first | refine WL.step (Yl.move rfl) rfl ?_ | refine WL.step (Yl.assign rfl) rfl ?_ | refine WL.step (Yl.load (T := 66) Try.isAgg66 rfl (.old hr) (u16s_at hil)) rfl ?_ | refine WL.step (Yl.len (t := 63) Try.underlying63 rfl) rfl ?_ | (refine WL.k_bin .rem ?_; refine WL.step (Yl.remN rfl rfl (by omega)) rfl ?_) | refine WL.step (Yl.indexAddr1 (t := 63) Try.underlying63 Try.sizeOf66 rfl rfl (.old hr) (u16s_ne hil) him) rfl ?_ | (refine WL.k_conv ?_; refine WL.step (Yl.conv64 (s := 66) (t := 3) Try.underlying66 Try.underlying3 rfl (by omega)) rfl ?_) | refine WC.seq ?_ | refine WC.region ?_ | refine WL.nil ?_ | refine WN.then_normal ?_ | refine WC.skip ?_ | refine WC.ret ?_))
    exact WN.ret1 rfl rfl ⟨rfl, rfl⟩ .nil
theorem keys_c (lf : Bool) (f n : Nat) (st : List Nat) (sa va ka : Option Addr) (sc vl vc cl cc : Nat) (w : World) (hn : n ≤ 12) (hf : f < 18446744073709551616) (hst : ∀ s ∈ st, s < 65536) (hsl : st.length ≤ 9223372036854775807) (hr : CellsAt w sa (u16s st)) :
    Calls Try.prog 53 #[drv lf f sa va ka st.length sc vl vc cl cc, .int .i64 (n : Int)] w (Gives (NewRow id 42 33 n (kcells (Nod.mkeys st f n))) w) := by
  have hD : (⟨lf, f, st, [], []⟩ : Nod.D).Wf := ⟨hf, hst, fun s hs => by cases hs⟩
  refine enter (args := [_, _]) Try.func53 Try.ntmps53 rfl rfl ?_
  (repeat (first | refine WL.step (Yl.assign rfl) rfl ?_ | refine WL.boxA (cs := #[.bool lf, .int .u64 (f : Int), .slice sa st.length sc, .slice va vl vc, .slice ka cl cc]) rfl rfl fun b2 => ?_ | refine WC.seq ?_ | refine WC.region ?_ | refine WL.nil ?_ | refine WN.then_normal ?_))
  (repeat (first | (refine WL.k_load ?_; refine WL.step (Yl.loadBlk (T := 39) Try.isAgg39 rfl (by repeat (first | exact .head _ | refine .tail _ ?_)) (by rfl)) rfl ?_) | refine WL.step (Yl.fld0 (t := 65) Try.underlying65 fl65 rfl rfl) rfl ?_ | (refine WL.k_bin .rem ?_; refine WL.step (Yl.remC rfl (by decide)) rfl ?_) | refine WL.step (Yl.build (ps := [(0, .tmp 11)]) rfl (buildKN _)) rfl ?_))
  refine WL.allocA zeroKey rfl fun b6 => ?_
  refine WL.storeWhole (T := 42) (k := 33) (us := (kv ⟨f % 1152921504606846976, List.replicate 32 0⟩).toArray) Try.sizeOf42 rfl rfl (kv_all _) (by repeat (first | exact Pick.here | apply Pick.there)) rfl rfl ?_
  rw [show (⟨f % 1152921504606846976, List.replicate 32 0⟩ : Nod.K) = Nod.keyI st f 0 from rfl]
  (repeat (first | refine WL.step (Yl.assign rfl) rfl ?_ | refine WC.seq ?_ | refine WC.region ?_ | refine WL.nil ?_ | refine WN.then_normal ?_ | refine WC.block ?_))
  refine WC.joinB (α := Option Addr × Nat) (fun g => [(5, .slice g.1 n g.2)]) (fun g => [.row g.1 g.2 42 33 (kcells (Nod.mkeys st f n))]) (fun g => n ≤ g.2) ?_ ?_
  · refine WC.loop (α := Nat × Option Addr × Nat) (fun g => [(1, .int .i64 (n : Int)), (2, .pointer (some ⟨b2, 0, none⟩)), (5, .slice g.2.1 g.1 g.2.2), (6, .pointer (some ⟨b6, 0, none⟩)), (7, .int .i64 (g.1 : Int))])
      (fun g => [.row g.2.1 g.2.2 42 33 (kcells (Nod.mkeys st f g.1)), .blk b6 (.cells (kv (Nod.keyI st f g.1)).toArray 42 (0, 0)), .blk b2 (.cells #[.bool lf, .int .u64 (f : Int), .slice sa st.length sc, .slice va vl vc, .slice ka cl cc] 65 (0, 0))])
      (fun g => g.1 ≤ n ∧ g.1 ≤ g.2.2) (fun g => n - g.1) (0, none, 0) (by repeat (first | exact Sub.nil | refine Sub.cons rfl rfl ?_)) (.free (by repeat (first | exact Part.nil | refine Part.cons (by repeat (first | exact Pick.here | apply Pick.there)) ?_ | refine Part.free ?_))) ⟨by simp, by simp⟩ ?_
    intro ⟨i, a, ac⟩ ⟨hi, ha⟩
    simp only at hi ha ⊢
    (repeat (first | refine WL.step (Yl.move rfl) rfl ?_ | refine WL.step (Yl.lss rfl rfl) rfl ?_ | refine WC.seq ?_ | refine WC.region ?_ | refine WL.nil ?_ | refine WN.then_normal ?_))
    refine WC.ite rfl (fun h1 => ?_) (fun h1 => ?_)
    · have hKw := Nod.keyI_wf hD i
      have hat := Nod.at_lt hst i
      have hms := mkeys_succ st f i
      have hks1 := Nod.keyI_succ st f i
      simp only at hKw
      have hmw : ∀ k ∈ Nod.mkeys st f i, k.Wf := Nod.mkeys_wf (d := ⟨lf, f, st, [], []⟩) hD (by omega)
      have hml := Nod.mkeys_len st f i
      generalize Nod.keyI st f i = K at *
      have hKW : K.Wf := ⟨by omega, hKw.2⟩
      have hks := kv_size hKW
      have hkl := kv_len hKW
      (repeat (first | refine WL.step (Yl.move rfl) rfl ?_ | (refine WL.k_load ?_; refine WL.step (Yl.loadAll (T := 42) (T' := 42) (cs := (kv K).toArray) Try.isAgg42 Try.sizeOf42 rfl (by repeat (first | exact .head _ | refine .tail _ ?_)) hks) rfl ?_) | refine WC.seq ?_ | refine WC.region ?_ | refine WN.then_normal ?_ | refine WC.block ?_ | refine WC.skip ?_))
      refine WL.lit (t := 22) Try.underlying22 elemKey rfl rfl rfl (fun u hu => by rw [List.mem_singleton.1 hu]; show (kv _).toArray.size = 33; rw [List.size_toArray, hkl]) rfl fun b9 => ?_
      rw [flatK]
      refine WL.appendRow (t := 22) (n := i) (m := 1) (olds := kcells (Nod.mkeys st f i)) Try.underlying22 elemKey rfl rfl (by repeat (first | exact Pick.here | apply Pick.there)) (by rw [kcells_len hmw, hml]) ha (Rd.row (.head _)) (by rw [hkl]) (kv_one _) (by omega) (by simp only [maxLen]; omega) rfl fun q1 hq1 => ?_
      rw [← kcells_snoc, ← hms]
      have hac := fun w (q : CellsAt w sa (u16s st)) => at_c sa st.length sc i st w rfl hsl hst (by omega) q
      obtain ⟨S, hS⟩ : ∃ S, Nod.at_ st i = S := ⟨_, rfl⟩
      rw [hS] at hat hks1 hac
      have hS2 : S / 2 % 32 < 32 := Nat.mod_lt _ (by decide)
      have hSd : S / 2 % 32 < K.d.length := by rw [hKw.2]; exact hS2
      have hg : (kv K).toArray[1 + S / 2 % 32 * 1]? = some (bv (K.d.getD (S / 2 % 32) 0)) := by rw [Nat.mul_one]; exact kv_get hSd
      by_cases h2 : S % 2 = 0
      · by_cases h3 : (K.d.getD (S / 2 % 32) 0).toNat < 255
        · have hnk : Nod.nextK K S = ⟨K.n, K.d.set (S / 2 % 32) (K.d.getD (S / 2 % 32) 0 + 1)⟩ := if_pos ⟨h2, h3⟩
          (repeat (first | refine WL.want rfl rfl rfl ?_ | refine WL.step (Yl.move rfl) rfl ?_ | refine WL.step (Yl.assign rfl) rfl ?_ | (refine WL.k_load ?_; first | refine WL.step (Yl.loadBlk (T := 63) Try.isAgg63 rfl (by repeat (first | exact .head _ | refine .tail _ ?_)) (by rfl)) rfl ?_ | refine WL.step (Yl.loadBlk (T := 5) (T' := 42) (cs := (kv K).toArray) Try.isAgg5 rfl (by repeat (first | exact .head _ | refine .tail _ ?_)) hg) rfl ?_) | (refine WL.k_fld ?_; first | refine WL.step (Yl.fld0 (t := 65) Try.underlying65 fl65 rfl rfl) rfl ?_ | refine WL.step (Yl.fldN0 kD rfl) rfl ?_) | refine WL.step (Yl.pick_t rfl rfl rfl) rfl ?_ | (refine WL.k_call 54 ?_; refine WL.callV (g := 54) Try.call54 rfl (fun w s => hac w (Rd.old hr w s)) rfl ?_) | (refine WL.k_bin .rem ?_; refine WL.step (Yl.remC rfl (by decide)) rfl ?_) | (refine WL.k_bin .quo ?_; refine WL.step (Yl.quo64C rfl (by omega) (by decide)) rfl ?_) | refine WL.step (Yl.indexArr (t := 40) Try.underlying40 Try.sizeOf5 rfl rfl hS2) rfl ?_ | (refine WL.k_bin .lss ?_; refine WL.step (Yl.lssT rfl rfl (by omega)) rfl ?_) | (refine WL.k_bin .eql ?_; refine WL.step (Yl.eqlT rfl rfl (by omega)) rfl ?_) | refine WC.seq ?_ | refine WC.region ?_ | refine WL.nil ?_ | refine WN.then_normal ?_))
          refine WC.cond_true rfl rfl ?_
          (repeat (first | refine WL.step (Yl.move rfl) rfl ?_ | (refine WL.k_load ?_; refine WL.step (Yl.loadBlk (T := 5) (T' := 42) (cs := (kv K).toArray) Try.isAgg5 rfl (by repeat (first | exact .head _ | refine .tail _ ?_)) hg) rfl ?_) | refine WL.step (Yl.fldN0 kD rfl) rfl ?_ | refine WL.step (Yl.indexArr (t := 40) Try.underlying40 Try.sizeOf5 rfl rfl hS2) rfl ?_ | refine WL.step (Yl.addC rfl rfl) rfl ?_ | (refine WL.k_bin .quo ?_; refine WL.step (Yl.quo64C rfl (by omega) (by decide)) rfl ?_) | (refine WL.k_bin .rem ?_; refine WL.step (Yl.remC rfl (by decide)) rfl ?_) | refine WC.seq ?_ | refine WC.region ?_))
          refine WL.store1 (v := bv (K.d.getD (S / 2 % 32) 0 + 1)) Try.sizeOf5 rfl (by show some (Value.int .u8 ((((K.d.getD (S / 2 % 32) 0).toNat + 1) % 2 ^ IntKind.u8.bits : Nat) : Int)) = _; rw [u8_succ]) rfl (by repeat (first | exact Pick.here | apply Pick.there)) (by rw [List.size_toArray, hkl]; omega) ?_
          rw [show ((kv K).toArray.toList.set (1 + S / 2 % 32 * 1) (bv (K.d.getD (S / 2 % 32) 0 + 1))) = kv (Nod.nextK K S) by rw [hnk, List.toList_toArray, Nat.mul_one, Nat.add_comm 1, kv, kv, List.set_cons_succ, bs_set], ← hks1]
          (repeat (first | refine WL.step (Yl.move rfl) rfl ?_ | refine WL.step (Yl.assign rfl) rfl ?_ | (refine WL.k_bin .add ?_; refine WL.step (Yl.add64C rfl (by omega)) rfl ?_) | refine WC.region ?_ | refine WL.nil ?_ | refine WN.then_normal ?_ | refine WC.exit ?_ | refine WN.then_exit ?_ | refine WN.block_here ?_))
          exact WN.next (i + 1, q1) ⟨by simp only; omega, hq1⟩ (by simp only; omega) (by repeat (first | exact Sub.nil | refine Sub.cons rfl rfl ?_)) (by repeat (first | exact Part.nil | refine Part.cons (by repeat (first | exact Pick.here | apply Pick.there)) ?_ | refine Part.free ?_))
        · have hnk : Nod.nextK K S = ⟨K.n + 1 + S, UInt8.ofNat S :: List.replicate 31 0⟩ := if_neg fun q => h3 q.2
          (repeat (first | refine WL.want rfl rfl rfl ?_ | refine WL.step (Yl.move rfl) rfl ?_ | refine WL.step (Yl.assign rfl) rfl ?_ | (refine WL.k_load ?_; first | refine WL.step (Yl.loadBlk (T := 63) Try.isAgg63 rfl (by repeat (first | exact .head _ | refine .tail _ ?_)) (by rfl)) rfl ?_ | refine WL.step (Yl.loadBlk (T := 5) (T' := 42) (cs := (kv K).toArray) Try.isAgg5 rfl (by repeat (first | exact .head _ | refine .tail _ ?_)) hg) rfl ?_) | (refine WL.k_fld ?_; first | refine WL.step (Yl.fld0 (t := 65) Try.underlying65 fl65 rfl rfl) rfl ?_ | refine WL.step (Yl.fldN0 kD rfl) rfl ?_) | refine WL.step (Yl.pick_t rfl rfl rfl) rfl ?_ | (refine WL.k_call 54 ?_; refine WL.callV (g := 54) Try.call54 rfl (fun w s => hac w (Rd.old hr w s)) rfl ?_) | (refine WL.k_bin .rem ?_; refine WL.step (Yl.remC rfl (by decide)) rfl ?_) | (refine WL.k_bin .quo ?_; refine WL.step (Yl.quo64C rfl (by omega) (by decide)) rfl ?_) | refine WL.step (Yl.indexArr (t := 40) Try.underlying40 Try.sizeOf5 rfl rfl hS2) rfl ?_ | (refine WL.k_bin .lss ?_; refine WL.step (Yl.lssF rfl rfl (by omega)) rfl ?_) | (refine WL.k_bin .eql ?_; refine WL.step (Yl.eqlT rfl rfl (by omega)) rfl ?_) | refine WC.seq ?_ | refine WC.region ?_ | refine WL.nil ?_ | refine WN.then_normal ?_))
          refine WC.cond_false rfl rfl ?_
          (repeat (first | refine WL.step (Yl.move rfl) rfl ?_ | (refine WL.k_load ?_; refine WL.step (Yl.loadBlk (T := 39) (T' := 42) (cs := (kv K).toArray) (v := .int .u64 (K.n : Int)) Try.isAgg39 rfl (by repeat (first | exact .head _ | refine .tail _ ?_)) rfl) rfl ?_) | refine WL.step (Yl.fldN0 kN rfl) rfl ?_ | (refine WL.k_conv ?_; refine WL.step (Yl.convLt (s := 3) (t := 39) Try.underlying3 Try.underlying39 rfl rfl (by show _ < 18446744073709551616; omega)) rfl ?_) | (refine WL.k_bin .add ?_; first | refine WL.step (Yl.addN (m := 1) rfl rfl rfl) rfl ?_ | refine WL.step (Yl.addN (m := K.n) rfl rfl rfl) rfl ?_) | refine WC.seq ?_ | refine WC.region ?_ | refine WN.then_normal ?_ | refine WC.skip ?_))
          have hsum : ((K.n + (1 + S) % 2 ^ IntKind.u64.bits) % 2 ^ IntKind.u64.bits : Nat) = K.n + 1 + S := by
            have h64 : (2 : Nat) ^ IntKind.u64.bits = 18446744073709551616 := by decide
            rw [h64]; omega
          rw [hsum]
          refine WL.store1 (v := .int .u64 ((K.n + 1 + S : Nat) : Int)) Try.sizeOf39 rfl rfl rfl (by repeat (first | exact Pick.here | apply Pick.there)) (by rw [List.size_toArray, hkl]; omega) ?_
          rw [show ((kv K).toArray.toList.set 0 (Value.int .u64 ((K.n + 1 + S : Nat) : Int))) = kv ⟨K.n + 1 + S, K.d⟩ from rfl]
          (repeat (first | refine WL.step (Yl.move rfl) rfl ?_ | refine WL.step (Yl.fldN0 kD rfl) rfl ?_ | refine WL.step (Yl.convN (s := 3) (t := 5) Try.underlying3 Try.underlying5 rfl rfl) rfl ?_ | (refine WL.k_build ?_; refine WL.step (Yl.build (ps := [(0, .tmp 55)]) rfl (fun w => by rw [bvof]; exact buildD0 _ w)) rfl ?_) | refine WC.region ?_ | refine WL.nil ?_ | refine WN.then_normal ?_))
          refine WL.storeBlk (T := 40) (us := bs (UInt8.ofNat S :: List.replicate 31 0)) Try.sizeOf40 rfl rfl rfl (bs_one _) (by repeat (first | exact Pick.here | apply Pick.there)) (by rw [bs_length, List.size_toArray]; show 1 + 32 ≤ (kv _).length; rw [kv, List.length_cons, bs_length, hKw.2]; omega) ?_
          rw [show (kv ⟨K.n + 1 + S, K.d⟩).toArray.toList.take 1 ++ bs (UInt8.ofNat S :: List.replicate 31 0) ++ (kv ⟨K.n + 1 + S, K.d⟩).toArray.toList.drop (1 + (bs (UInt8.ofNat S :: List.replicate 31 0)).length) = kv (Nod.nextK K S) by
            rw [hnk, List.toList_toArray, List.drop_eq_nil_of_le (by rw [bs_length, kv, List.length_cons, bs_length, hKw.2]; simp), List.append_nil]; rfl, ← hks1]
          (repeat (first | refine WL.step (Yl.move rfl) rfl ?_ | refine WL.step (Yl.assign rfl) rfl ?_ | (refine WL.k_bin .add ?_; refine WL.step (Yl.add64C rfl (by omega)) rfl ?_) | refine WC.region ?_ | refine WL.nil ?_ | refine WN.then_normal ?_ | refine WN.block_normal ?_))
          exact WN.next (i + 1, q1) ⟨by simp only; omega, hq1⟩ (by simp only; omega) (by repeat (first | exact Sub.nil | refine Sub.cons rfl rfl ?_)) (by repeat (first | exact Part.nil | refine Part.cons (by repeat (first | exact Pick.here | apply Pick.there)) ?_ | refine Part.free ?_))
      · have hnk : Nod.nextK K S = ⟨K.n + 1 + S, UInt8.ofNat S :: List.replicate 31 0⟩ := if_neg fun q => h2 q.1
        (repeat (first | refine WL.pass rfl rfl rfl rfl ?_ | refine WL.step (Yl.move rfl) rfl ?_ | refine WL.step (Yl.assign rfl) rfl ?_ | (refine WL.k_load ?_; refine WL.step (Yl.loadBlk (T := 63) Try.isAgg63 rfl (by repeat (first | exact .head _ | refine .tail _ ?_)) (by rfl)) rfl ?_) | refine WL.step (Yl.fld0 (t := 65) Try.underlying65 fl65 rfl rfl) rfl ?_ | refine WL.step (Yl.pick_f rfl rfl rfl) rfl ?_ | (refine WL.k_call 54 ?_; refine WL.callV (g := 54) Try.call54 rfl (fun w s => hac w (Rd.old hr w s)) rfl ?_) | (refine WL.k_bin .rem ?_; refine WL.step (Yl.remC rfl (by decide)) rfl ?_) | (refine WL.k_bin .eql ?_; refine WL.step (Yl.eqlF rfl rfl (by omega)) rfl ?_) | refine WC.seq ?_ | refine WC.region ?_ | refine WL.nil ?_ | refine WN.then_normal ?_))
        refine WC.cond_false rfl rfl ?_
        (repeat (first | refine WL.step (Yl.move rfl) rfl ?_ | (refine WL.k_load ?_; refine WL.step (Yl.loadBlk (T := 39) (T' := 42) (cs := (kv K).toArray) (v := .int .u64 (K.n : Int)) Try.isAgg39 rfl (by repeat (first | exact .head _ | refine .tail _ ?_)) rfl) rfl ?_) | refine WL.step (Yl.fldN0 kN rfl) rfl ?_ | (refine WL.k_conv ?_; refine WL.step (Yl.convLt (s := 3) (t := 39) Try.underlying3 Try.underlying39 rfl rfl (by show _ < 18446744073709551616; omega)) rfl ?_) | (refine WL.k_bin .add ?_; first | refine WL.step (Yl.addN (m := 1) rfl rfl rfl) rfl ?_ | refine WL.step (Yl.addN (m := K.n) rfl rfl rfl) rfl ?_) | refine WC.seq ?_ | refine WC.region ?_ | refine WN.then_normal ?_ | refine WC.skip ?_))
        have hsum : ((K.n + (1 + S) % 2 ^ IntKind.u64.bits) % 2 ^ IntKind.u64.bits : Nat) = K.n + 1 + S := by
          have h64 : (2 : Nat) ^ IntKind.u64.bits = 18446744073709551616 := by decide
          rw [h64]; omega
        rw [hsum]
        refine WL.store1 (v := .int .u64 ((K.n + 1 + S : Nat) : Int)) Try.sizeOf39 rfl rfl rfl (by repeat (first | exact Pick.here | apply Pick.there)) (by rw [List.size_toArray, hkl]; omega) ?_
        rw [show ((kv K).toArray.toList.set 0 (Value.int .u64 ((K.n + 1 + S : Nat) : Int))) = kv ⟨K.n + 1 + S, K.d⟩ from rfl]
        (repeat (first | refine WL.step (Yl.move rfl) rfl ?_ | refine WL.step (Yl.fldN0 kD rfl) rfl ?_ | refine WL.step (Yl.convN (s := 3) (t := 5) Try.underlying3 Try.underlying5 rfl rfl) rfl ?_ | (refine WL.k_build ?_; refine WL.step (Yl.build (ps := [(0, .tmp 55)]) rfl (fun w => by rw [bvof]; exact buildD0 _ w)) rfl ?_) | refine WC.region ?_ | refine WL.nil ?_ | refine WN.then_normal ?_))
        refine WL.storeBlk (T := 40) (us := bs (UInt8.ofNat S :: List.replicate 31 0)) Try.sizeOf40 rfl rfl rfl (bs_one _) (by repeat (first | exact Pick.here | apply Pick.there)) (by rw [bs_length, List.size_toArray]; show 1 + 32 ≤ (kv _).length; rw [kv, List.length_cons, bs_length, hKw.2]; omega) ?_
        rw [show (kv ⟨K.n + 1 + S, K.d⟩).toArray.toList.take 1 ++ bs (UInt8.ofNat S :: List.replicate 31 0) ++ (kv ⟨K.n + 1 + S, K.d⟩).toArray.toList.drop (1 + (bs (UInt8.ofNat S :: List.replicate 31 0)).length) = kv (Nod.nextK K S) by
          rw [hnk, List.toList_toArray, List.drop_eq_nil_of_le (by rw [bs_length, kv, List.length_cons, bs_length, hKw.2]; simp), List.append_nil]; rfl, ← hks1]
        (repeat (first | refine WL.step (Yl.move rfl) rfl ?_ | refine WL.step (Yl.assign rfl) rfl ?_ | (refine WL.k_bin .add ?_; refine WL.step (Yl.add64C rfl (by omega)) rfl ?_) | refine WC.region ?_ | refine WL.nil ?_ | refine WN.then_normal ?_ | refine WN.block_normal ?_))
        exact WN.next (i + 1, q1) ⟨by simp only; omega, hq1⟩ (by simp only; omega) (by repeat (first | exact Sub.nil | refine Sub.cons rfl rfl ?_)) (by repeat (first | exact Part.nil | refine Part.cons (by repeat (first | exact Pick.here | apply Pick.there)) ?_ | refine Part.free ?_))
    · obtain rfl : i = n := by omega
      (repeat (first | refine WC.exit ?_ | refine WN.then_exit ?_ | refine WN.block_here ?_))
      exact WN.join (a, ac) ha (by repeat (first | exact Sub.nil | refine Sub.cons rfl rfl ?_)) (by repeat (first | exact Part.nil | refine Part.cons (by repeat (first | exact Pick.here | apply Pick.there)) ?_ | refine Part.free ?_))
  · intro ⟨a, ac⟩ hac
    simp only at hac ⊢
    (repeat (first | refine WL.step (Yl.move rfl) rfl ?_ | refine WL.step (Yl.assign rfl) rfl ?_ | refine WC.seq ?_ | refine WC.region ?_ | refine WL.nil ?_ | refine WN.then_normal ?_ | refine WC.ret ?_))
    exact WN.ret1 rfl rfl ⟨a, ac, hac, rfl, rfl⟩ (.cons .here .nil)
end Go.Proofs.Ytbfhdggfdhlkfaa
