/- Halves of nodes, by package node and by the reference. -/
import Derived.Test.YtbfhdggfdhlkfaaNod10
import Derived.Test.YtbfhdggfdhlkfaaNod9
namespace Go.Proofs.Ytbfhdggfdhlkfaa
set_option linter.unusedVariables false
set_option linter.unusedSimpArgs false
open Go Go.RowKit
set_option maxRecDepth 100000
set_option maxHeartbeats 8000000
theorem buildLK (v : Bool) (a : Option Addr) (n c : Nat) (w : World) : (Instr.build 26 [(0, Value.bool v), (1, .slice a n c)].toArray).run Try.prog w = .ok (.agg #[.bool v, .slice a n c, .slice none 0 0, .slice none 0 0]) w := by
  simp [Instr.build, Try.zeroValue26, run_underlying Try.underlying26, Try.sizeOf4, Try.sizeOf22, Value.cells, Instr.fill]
theorem buildKZ (w : World) : (Instr.build 42 [].toArray).run Try.prog w = .ok (.agg (kv zkey).toArray) w := by
  have h : (Try.prog.info? 42).map (fun i => i.zero) = some (some (.agg (kv zkey).toArray)) := by kernel_rfl
  simp [Instr.build, zero_of h, run_underlying Try.underlying42, Value.cells, Instr.fill]
theorem buildRKZ (w : World) : (Instr.build 45 [].toArray).run Try.prog w = .ok (.agg (kv zkey).toArray) w := by
  have h : (Try.prog.info? 45).map (fun i => i.zero) = some (some (.agg (kv zkey).toArray)) := by kernel_rfl
  simp [Instr.build, zero_of h, run_underlying Try.underlying45, Value.cells, Instr.fill]
theorem buildRLKV (a b : Option Addr) (n c m d : Nat) (w : World) : (Instr.build 32 [(0, Value.bool true), (1, .slice a n c), (2, .slice b m d)].toArray).run Try.prog w = .ok (.agg #[.bool true, .slice a n c, .slice b m d, .slice none 0 0]) w := by
  simp [Instr.build, Try.zeroValue32, run_underlying Try.underlying32, Try.sizeOf4, Try.sizeOf29, Try.sizeOf30, Value.cells, Instr.fill]
theorem buildRKC (a b : Option Addr) (n c m d : Nat) (w : World) : (Instr.build 32 [(1, Value.slice a n c), (3, .slice b m d)].toArray).run Try.prog w = .ok (.agg #[.bool false, .slice a n c, .slice none 0 0, .slice b m d]) w := by
  simp [Instr.build, Try.zeroValue32, run_underlying Try.underlying32, Try.sizeOf29, Try.sizeOf24, Value.cells, Instr.fill]
/-- Two nodes in new memory, the key between them, and an error number. -/
abbrev ndRows (TK TV : TypeId) (x : Nod.N) (p : Pl) : List HA := [.row p.ka p.kc TK 33 (kcells x.ks), .row p.va p.vc TV 20 (vcells x.vs), .row p.ca p.cc 3 1 (icells x.cs)]
structure Caps (x : Nod.N) (p : Pl) : Prop where
  kc : x.ks.length ≤ p.kc
  vc : x.vs.length ≤ p.vc
  cc : x.cs.length ≤ p.cc
def SpV (s : Nod.N × Nod.K × Nod.N × Nat) (p q : Pl) : Value := .tuple #[ndv s.1 p, kval s.2.1, ndv s.2.2.1 q, .int .i64 (s.2.2.2 : Int)]
def SpP (s : Nod.N × Nod.K × Nod.N × Nat) : Value → List HA → Prop := fun u B => ∃ p q, Caps s.1 p ∧ Caps s.2.2.1 q ∧ u = SpV s p q ∧ B = ndRows 42 73 s.1 p ++ ndRows 42 73 s.2.2.1 q
def SpR (x : Nod.N) (p0 : Pl) (s : Nod.N × Nod.K × Nod.N × Nat) : Value → List HA → Prop := fun u B => B = [] ∧ ∃ p q, (∀ w, NdAt w x p0 → NdAt w s.1 p) ∧ (∀ w, NdAt w x p0 → NdAt w s.2.2.1 q) ∧ u = SpV s p q
theorem zero_at (w : World) : NdAt w Nod.zero pz := ⟨.nil _ _, .nil _ _, .nil _ _, Nat.le_refl _, Nat.le_refl _, Nat.le_refl _⟩
theorem cut_kl {x : Nod.N} {lo hi : Nat} (h1 : lo ≤ hi) (h2 : hi ≤ x.ks.length) : ((x.ks.drop lo).take (hi - lo)).length = hi - lo := by rw [List.length_take, List.length_drop]; omega
theorem cut_vl {x : Nod.N} {lo hi : Nat} (h1 : lo ≤ hi) (h2 : hi ≤ x.vs.length) : ((x.vs.drop lo).take (hi - lo)).length = hi - lo := by rw [List.length_take, List.length_drop]; omega
theorem cut_cl {x : Nod.N} {lo hi : Nat} (h1 : lo ≤ hi) (h2 : hi ≤ x.cs.length) : ((x.cs.drop lo).take (hi - lo)).length = hi - lo := by rw [List.length_take, List.length_drop]; omega
attribute [local irreducible] WL WC WN Yl WH WQ WT WE WU
theorem part_c (x : Nod.N) (p : Pl) (lo hi : Nat) (w : World) (hx : x.Wf) (h : NdAt w x p) (h1 : lo ≤ hi) (h2 : hi ≤ x.ks.length) (hv : x.leaf = true → hi ≤ x.vs.length) (hc : x.leaf = false → hi + 1 ≤ x.cs.length) :
    Calls Try.prog 37 #[ndv x p, .int .i64 (lo : Int), .int .i64 (hi : Int)] w (Gives (NdP (Nod.cutN x lo hi)) w) := by
  have hkl := hx.kl
  have hvl := hx.vl
  have hcl := hx.cl
  have gk := h.kc
  have gv := h.vc
  have gc := h.cc
  have ckl := cut_kl h1 h2
  have hwk : ∀ k ∈ (x.ks.drop lo).take (hi - lo), k.Wf := fun k hk => hx.ks k (List.mem_of_mem_drop (List.mem_of_mem_take hk))
  have hwv : ∀ k ∈ (x.vs.drop lo).take (hi - lo), k.length = 20 := fun k hk => hx.vs k (List.mem_of_mem_drop (List.mem_of_mem_take hk))
  refine enter (args := [_, _, _]) Try.func37 Try.ntmps37 rfl rfl ?_
  (repeat (first | refine WL.boxA (cs := (ndl x p).toArray) rfl rfl fun b3 => ?_ | refine WC.seq ?_ | refine WC.region ?_))
  refine WL.allocA Try.zeroValue26 rfl fun b6 => ?_
  (repeat (first | refine WC.seq ?_ | refine WL.nil ?_ | refine WN.then_normal ?_))
  refine WC.join (α := Nat × Option Addr × Nat) (fun g => [(1, .int .i64 (lo : Int)), (2, .int .i64 (hi : Int)), (3, .pointer (some ⟨b3, 0, none⟩)), (6, .pointer (some ⟨b6, 0, none⟩)), (7, .pointer (some ⟨g.1, 0, none⟩))])
    (fun g => [.blk g.1 (.cells #[.bool x.leaf, .slice g.2.1 (hi - lo) g.2.2, .slice none 0 0, .slice none 0 0] 26 (0, 0)), .row g.2.1 g.2.2 42 33 (kcells ((x.ks.drop lo).take (hi - lo))), .blk b6 (.cells #[.bool false, .slice none 0 0, .slice none 0 0, .slice none 0 0] 26 (0, 0)), .blk b3 (.cells (ndl x p).toArray 26 (0, 0))])
    (fun g => hi - lo ≤ g.2.2) ?_ ?_
  · refine WC.regionH [.blk b3 (.cells (ndl x p).toArray 26 (0, 0))] (by kernel_rfl) ?_
    (refine WH.order [0, 1, 2, 3, 4, 5, 6] (by repeat (first | exact Part.nil | refine Part.cons (by repeat (first | exact Pick.here | apply Pick.there)) ?_ | refine Part.free ?_)) (by kernel_rfl) ?_; (repeat (first | (refine WT.k_move rfl ?_; refine WT.take rfl rfl (fun _ _ _ h => h) (Yl.move rfl) rfl (by kernel_rfl) (by kernel_rfl) ?_) | (refine WT.k_load rfl ?_; first | refine WT.take rfl rfl (fun _ _ _ h => h) (Yl.loadBlk (T := 4) Try.isAgg4 rfl (by repeat (first | exact .head _ | refine .tail _ ?_)) (by rfl)) rfl (by kernel_rfl) (by kernel_rfl) ?_ | refine WT.take rfl rfl (fun _ _ _ h => h) (Yl.loadBlk (T := 22) Try.isAgg22 rfl (by repeat (first | exact .head _ | refine .tail _ ?_)) (by rfl)) rfl (by kernel_rfl) (by kernel_rfl) ?_) | (refine WT.k_fld rfl ?_; refine WT.take rfl rfl (fun _ _ _ h => h) (Yl.fld0 (t := 26) Try.underlying26 fl26 rfl rfl) rfl (by kernel_rfl) (by kernel_rfl) ?_) | (refine WT.k_slice rfl ?_; refine WT.take rfl rfl (fun _ _ _ h => h) (Yl.cut (t := 22) Try.underlying22 Try.sizeOf42 rfl rfl rfl h1 (by omega)) rfl (by kernel_rfl) (by kernel_rfl) ?_))); refine WT.nil ?_)
    refine WH.two (i := 7) (j := 9) (by kernel_rfl) rfl rfl ?hA ?hB
    case' hA =>
      refine WL.callR (g := 62) Try.call62 rfl (fun w s => clk_c _ (hi - lo) _ ((x.ks.drop lo).take (hi - lo)) w ckl (by omega) hwk (Rd.kcut hx.ks (Rd.old h.ks) _ gk w s)) rfl fun q hq => ?_
      refine WL.nil (WN.nextH (by repeat (first | exact Part.nil | refine Part.cons (by repeat (first | exact Pick.here | apply Pick.there)) ?_ | refine Part.free ?_)) ?_)
      (refine WH.order [8] (by repeat (first | exact Part.nil | refine Part.cons (by repeat (first | exact Pick.here | apply Pick.there)) ?_ | refine Part.free ?_)) (by kernel_rfl) ?_; (repeat (first | (refine WT.k_build rfl ?_; refine WT.take rfl rfl (fun _ _ _ h => h) (Yl.build (ps := [(0, .tmp 9), (1, .tmp 15)]) rfl (buildLK _ _ _ _)) rfl (by kernel_rfl) (by kernel_rfl) ?_))); refine WT.nil ?_)
      refine WH.only (i := 9) (by kernel_rfl) rfl ?_
      refine WL.allocA Try.zeroValue26 rfl fun b7 => ?_
      refine WL.nil (WN.nextH (by repeat (first | exact Part.nil | refine Part.cons (by repeat (first | exact Pick.here | apply Pick.there)) ?_ | refine Part.free ?_)) ?_)
    case' hB =>
      refine WL.allocA Try.zeroValue26 rfl fun b7 => ?_
      refine WL.nil (WN.nextH (by repeat (first | exact Part.nil | refine Part.cons (by repeat (first | exact Pick.here | apply Pick.there)) ?_ | refine Part.free ?_)) ?_)
      refine WH.only (i := 7) (by kernel_rfl) rfl ?_
      refine WL.callR (g := 62) Try.call62 rfl (fun w s => clk_c _ (hi - lo) _ ((x.ks.drop lo).take (hi - lo)) w ckl (by omega) hwk (Rd.kcut hx.ks (Rd.old h.ks) _ gk w s)) rfl fun q hq => ?_
      refine WL.nil (WN.nextH (by repeat (first | exact Part.nil | refine Part.cons (by repeat (first | exact Pick.here | apply Pick.there)) ?_ | refine Part.free ?_)) ?_)
      (refine WH.order [8] (by repeat (first | exact Part.nil | refine Part.cons (by repeat (first | exact Pick.here | apply Pick.there)) ?_ | refine Part.free ?_)) (by kernel_rfl) ?_; (repeat (first | (refine WT.k_build rfl ?_; refine WT.take rfl rfl (fun _ _ _ h => h) (Yl.build (ps := [(0, .tmp 9), (1, .tmp 15)]) rfl (buildLK _ _ _ _)) rfl (by kernel_rfl) (by kernel_rfl) ?_))); refine WT.nil ?_)
    all_goals
      refine WH.only (i := 10) (by kernel_rfl) rfl ?_
      refine WL.storeWhole (T := 26) (k := 4) Try.sizeOf26 rfl rfl rfl (by repeat (first | exact Pick.here | apply Pick.there)) rfl rfl ?_
      refine WL.nil (WN.nextH (by repeat (first | exact Part.nil | refine Part.cons (by repeat (first | exact Pick.here | apply Pick.there)) ?_ | refine Part.free ?_)) ?_)
      refine WH.done (by kernel_rfl) ?_
      exact WN.join (b7, q.1, q.2) hq (by repeat (first | exact Sub.nil | refine Sub.cons rfl rfl ?_)) (by repeat (first | exact Part.nil | refine Part.cons (by repeat (first | exact Pick.here | apply Pick.there)) ?_ | refine Part.free ?_))
  · intro ⟨b7, ka, kc⟩ hkc
    simp only at hkc ⊢
    (repeat (first | (refine WL.k_load ?_; refine WL.step (Yl.loadBlk (T := 4) Try.isAgg4 rfl (by repeat (first | exact .head _ | refine .tail _ ?_)) (by rfl)) rfl ?_) | refine WL.step (Yl.fld0 (t := 26) Try.underlying26 fl26 rfl rfl) rfl ?_ | refine WC.seq ?_ | refine WC.region ?_ | refine WL.nil ?_ | refine WN.then_normal ?_))
    refine WC.cond rfl (fun hl => ?_) (fun hl => ?_)
    · have hcut : Nod.cutN x lo hi = ⟨true, (x.ks.drop lo).take (hi - lo), (x.vs.drop lo).take (hi - lo), []⟩ := if_pos hl
      have cvl := cut_vl h1 (hv hl)
      have hv' := hv hl
      rw [hcut, hl]
      (repeat (first | refine WL.step (Yl.move rfl) rfl ?_ | (refine WL.k_load ?_; refine WL.step (Yl.loadBlk (T := 23) Try.isAgg23 rfl (by repeat (first | exact .head _ | refine .tail _ ?_)) (by rfl)) rfl ?_) | refine WL.step (Yl.fld0 (t := 26) Try.underlying26 fl26 rfl rfl) rfl ?_ | (refine WL.k_slice ?_; refine WL.step (Yl.cut (t := 23) Try.underlying23 Try.sizeOf73 rfl rfl rfl h1 (by omega)) rfl ?_) | refine WC.region ?_))
      refine WL.callR (g := 63) Try.call63 rfl (fun w s => clv_c _ (hi - lo) _ ((x.vs.drop lo).take (hi - lo)) w cvl (by omega) hwv (Rd.vcut hx.vs (Rd.old h.vs) _ gv w s)) rfl fun q hq => ?_
      (repeat (first | refine WL.step (Yl.fld0 (t := 26) Try.underlying26 fl26 rfl rfl) rfl ?_))
      refine WL.storeAt (T := 23) Try.sizeOf23 rfl rfl rfl (by repeat (first | exact Pick.here | apply Pick.there)) rfl ?_
      (repeat (first | (refine WL.k_load ?_; refine WL.step (Yl.loadAll (T := 26) (T' := 26) Try.isAgg26 Try.sizeOf26 rfl (by repeat (first | exact .head _ | refine .tail _ ?_)) rfl) rfl ?_) | refine WC.seq ?_ | refine WC.region ?_ | refine WL.nil ?_ | refine WN.then_normal ?_))
      refine WL.storeWhole (T := 26) (k := 4) (us := #[.bool true, .slice ka (hi - lo) kc, .slice q.1 (hi - lo) q.2, .slice none 0 0]) Try.sizeOf26 rfl rfl rfl (by repeat (first | exact Pick.here | apply Pick.there)) rfl rfl ?_
      (repeat (first | refine WL.nil ?_ | refine WN.then_normal ?_ | refine WC.ret ?_))
      exact WN.ret1C rfl Try.isAgg26 Try.sizeOf26 rfl (by repeat (first | exact .head _ | refine .tail _ ?_)) rfl ⟨⟨ka, kc, q.1, q.2, none, 0⟩, by simp only [ckl]; exact hkc, by simp only [cvl]; exact hq, Nat.le_refl _, by simp only [id, ndv, ndl, ckl, cvl]; rfl, rfl⟩ (.cons (by repeat (first | exact Pick.here | apply Pick.there)) (.cons (by repeat (first | exact Pick.here | apply Pick.there)) (.free .nil)))
    · have hcut : Nod.cutN x lo hi = ⟨false, (x.ks.drop lo).take (hi - lo), [], (x.cs.drop lo).take (hi + 1 - lo)⟩ := if_neg (by rw [hl]; decide)
      have hc' := hc hl
      have ccl := cut_cl (x := x) (lo := lo) (hi := hi + 1) (by omega) hc'
      rw [hcut, hl]
      (repeat (first | refine WL.step (Yl.move rfl) rfl ?_ | (refine WL.k_load ?_; refine WL.step (Yl.loadBlk (T := 24) Try.isAgg24 rfl (by repeat (first | exact .head _ | refine .tail _ ?_)) (by rfl)) rfl ?_) | refine WL.step (Yl.fld0 (t := 26) Try.underlying26 fl26 rfl rfl) rfl ?_ | (refine WL.k_slice ?_; refine WL.step (Yl.cut (t := 24) Try.underlying24 Try.sizeOf3 rfl rfl rfl (by omega) (by omega)) rfl ?_) | (refine WL.k_bin .add ?_; refine WL.step (Yl.add64C rfl (by omega)) rfl ?_) | refine WC.region ?_))
      refine WL.callR (g := 64) Try.call64 rfl (fun w s => cli_c _ (hi + 1 - lo) _ ((x.cs.drop lo).take (hi + 1 - lo)) w ccl (by omega) (Rd.icut (Rd.old h.cs) _ gc w s)) rfl fun q hq => ?_
      (repeat (first | refine WL.step (Yl.fld0 (t := 26) Try.underlying26 fl26 rfl rfl) rfl ?_))
      refine WL.storeAt (T := 24) Try.sizeOf24 rfl rfl rfl (by repeat (first | exact Pick.here | apply Pick.there)) rfl ?_
      (repeat (first | (refine WL.k_load ?_; refine WL.step (Yl.loadAll (T := 26) (T' := 26) Try.isAgg26 Try.sizeOf26 rfl (by repeat (first | exact .head _ | refine .tail _ ?_)) rfl) rfl ?_) | refine WC.seq ?_ | refine WC.region ?_ | refine WL.nil ?_ | refine WN.then_normal ?_))
      refine WL.storeWhole (T := 26) (k := 4) (us := #[.bool false, .slice ka (hi - lo) kc, .slice none 0 0, .slice q.1 (hi + 1 - lo) q.2]) Try.sizeOf26 rfl rfl rfl (by repeat (first | exact Pick.here | apply Pick.there)) rfl rfl ?_
      (repeat (first | refine WL.nil ?_ | refine WN.then_normal ?_ | refine WC.ret ?_))
      exact WN.ret1C rfl Try.isAgg26 Try.sizeOf26 rfl (by repeat (first | exact .head _ | refine .tail _ ?_)) rfl ⟨⟨ka, kc, none, 0, q.1, q.2⟩, by simp only [ckl]; exact hkc, Nat.le_refl _, by simp only [ccl]; exact hq, by simp only [id, ndv, ndl, ckl, ccl]; rfl, rfl⟩ (.cons (by repeat (first | exact Pick.here | apply Pick.there)) (.free (.cons (by repeat (first | exact Pick.here | apply Pick.there)) .nil)))
theorem sp_full {x : Nod.N} (h : Nod.Full x) : Nod.sp x = (Nod.low x, Nod.mid x, Nod.high x, 0) := if_pos h
theorem sp_not {x : Nod.N} (h : ¬ Nod.Full x) : Nod.sp x = (Nod.zero, zkey, Nod.zero, 2) := if_neg h
theorem split_c (x : Nod.N) (p : Pl) (w : World) (hx : x.Wf) (h : NdAt w x p) : Calls Try.prog 17 #[ndv x p] w (Gives (SpP (Nod.sp x)) w) := by
  have hkl := hx.kl
  have hfo := fun w (q : NdAt w x p) => formed_c x p w hx q
  have hm := fun w => most_c x p w
  have hmb : Nod.most x.leaf ≤ 11 := by unfold Nod.most; split <;> decide
  refine enter (args := [_]) Try.func17 Try.ntmps17 rfl rfl ?_
  (repeat (first | refine WL.boxA (cs := (ndl x p).toArray) rfl rfl fun b1 => ?_ | refine WC.seq ?_ | refine WC.region ?_))
  refine WL.allocA Try.zeroValue26 rfl fun b2 => ?_
  refine WL.allocA zeroKey rfl fun b3 => ?_
  refine WL.allocA Try.zeroValue26 rfl fun b4 => ?_
  by_cases h1 : Nod.Formed x
  · rw [decide_eq_true h1] at hfo
    by_cases h2 : x.ks.length = Nod.most x.leaf + 1
    · have hF : Nod.Full x := ⟨h1, h2⟩
      have hfl := Nod.full_len hF
      rw [sp_full hF]
      (repeat (first | refine WL.want rfl rfl rfl ?_ | refine WL.step (Yl.move rfl) rfl ?_ | refine WL.step (Yl.assign rfl) rfl ?_ | (refine WL.k_load ?_; first | refine WL.step (Yl.loadBlk (T := 22) Try.isAgg22 rfl (by repeat (first | exact .head _ | refine .tail _ ?_)) (by rfl)) rfl ?_ | refine WL.step (Yl.loadAll (T := 26) (T' := 26) Try.isAgg26 Try.sizeOf26 rfl (by repeat (first | exact .head _ | refine .tail _ ?_)) rfl) rfl ?_) | refine WL.step (Yl.fld0 (t := 26) Try.underlying26 fl26 rfl rfl) rfl ?_ | refine WL.step (Yl.pick_f rfl rfl rfl) rfl ?_ | refine WL.step (Yl.len (t := 22) Try.underlying22 rfl) rfl ?_ | (refine WL.k_call 35 ?_; refine WL.callV (g := 35) Try.call35 rfl (fun w s => hfo w ((NdAt.old h).at_ s)) rfl ?_) | (refine WL.k_call 36 ?_; refine WL.callV (g := 36) Try.call36 rfl (fun w s => hm w) rfl ?_) | (refine WL.k_bin .neq ?_; refine WL.step (Yl.neqF rfl rfl (by omega)) rfl ?_) | refine WL.step (Yl.not rfl) rfl ?_ | (refine WL.k_bin .add ?_; refine WL.step (Yl.add64C rfl (by omega)) rfl ?_) | refine WC.seq ?_ | refine WC.region ?_ | refine WL.nil ?_ | refine WN.then_normal ?_ | refine WC.block ?_))
      refine WC.cond_false rfl rfl ?_
      (repeat (first | refine WL.step (Yl.assign rfl) rfl ?_ | (refine WL.k_load ?_; refine WL.step (Yl.loadBlk (T := 4) Try.isAgg4 rfl (by repeat (first | exact .head _ | refine .tail _ ?_)) (by rfl)) rfl ?_) | refine WL.step (Yl.fld0 (t := 26) Try.underlying26 fl26 rfl rfl) rfl ?_ | refine WC.seq ?_ | refine WC.region ?_ | refine WL.nil ?_ | refine WN.then_normal ?_))
      refine WC.cond rfl (fun hl => ?_) (fun hl => ?_)
      · have hlen : x.ks.length = 9 := by rw [hfl, hl]; rfl
        have hix : 4 < x.ks.length := by omega
        have hkw := hx.ks _ (key_mem hix)
        have hf := h1.2
        rw [if_pos hl] at hf
        have e1 : Nod.low x = Nod.cutN x 0 4 := by rw [Nod.low_cut, if_pos hl]
        have e2 : Nod.high x = Nod.cutN x 4 x.ks.length := by rw [Nod.high_cut hF, if_pos hl, hlen]
        have e3 : Nod.mid x = Nod.key x.ks 4 := by unfold Nod.mid; rw [if_pos hl]
        rw [e1, e2, e3]
        have hks := kv_size hkw
        (repeat (first | refine WC.seq ?_))
        refine WC.regionH [.blk b1 (.cells (ndl x p).toArray 26 (0, 0))] (by kernel_rfl) ?_
        (refine WH.order [0, 2, 3, 4, 5, 6, 7] (by repeat (first | exact Part.nil | refine Part.cons (by repeat (first | exact Pick.here | apply Pick.there)) ?_ | refine Part.free ?_)) (by kernel_rfl) ?_; (repeat (first | (refine WT.k_move rfl ?_; (refine WT.kn rfl ?_; refine WT.take rfl rfl (fun _ _ _ h => h) (Yl.move rfl) rfl (by kernel_rfl) (by kernel_rfl) ?_)) | (refine WT.k_load rfl ?_; (refine WT.kn rfl ?_; first | refine WT.take rfl rfl (fun _ _ _ h => h) (Yl.loadBlk (T := 22) Try.isAgg22 rfl (by repeat (first | exact .head _ | refine .tail _ ?_)) (by rfl)) rfl (by kernel_rfl) (by kernel_rfl) ?_ | refine WT.take rfl rfl (fun _ _ _ h => h) (Yl.loadAll (T := 26) (T' := 26) Try.isAgg26 Try.sizeOf26 rfl (by repeat (first | exact .head _ | refine .tail _ ?_)) rfl) rfl (by kernel_rfl) (by kernel_rfl) ?_ | refine WT.take rfl rfl (fun _ _ _ h => h) (Yl.loadEl (kv (Nod.key x.ks 4)) Try.isAgg42 Try.sizeOf42 rfl (.old h.ks) (kv_len hkw) (kv_ne _) (kcells_at hx.ks hix)) rfl (by kernel_rfl) (by kernel_rfl) ?_)) | (refine WT.k_fld rfl ?_; (refine WT.kn rfl ?_; refine WT.take rfl rfl (fun _ _ _ h => h) (Yl.fld0 (t := 26) Try.underlying26 fl26 rfl rfl) rfl (by kernel_rfl) (by kernel_rfl) ?_)) | (refine WT.k_idxa rfl ?_; (refine WT.kn rfl ?_; refine WT.take rfl rfl (fun _ _ _ h => h) (Yl.indexAddr (t := 22) (j := 4) Try.underlying22 Try.sizeOf42 rfl rfl (.old h.ks) (kcells_ne hix) (by omega)) rfl (by kernel_rfl) (by kernel_rfl) ?_)))); refine WT.nil ?_)
        refine WH.only (i := 1) (by kernel_rfl) rfl ?_
        refine WL.call (g := 37) Try.call37 rfl (fun w s => part_c x p 0 4 w hx ((NdAt.old h).at_ s) (by decide) (by omega) (fun q => by omega) (fun q => by rw [hl] at q; cases q)) rfl fun v1 B1 hv1 => ?_
        obtain ⟨p1, g1, g2, g3, rfl, rfl⟩ := hv1
        simp only [List.cons_append, List.nil_append, id]
        refine WL.nil (WN.nextH (by repeat (first | exact Part.nil | refine Part.cons (by repeat (first | exact Pick.here | apply Pick.there)) ?_ | refine Part.free ?_)) ?_)
        refine WH.only (i := 8) (by kernel_rfl) rfl ?_
        refine WL.call (g := 37) Try.call37 rfl (fun w s => part_c x p 4 x.ks.length w hx ((NdAt.old h).at_ s) (by omega) (by omega) (fun q => by omega) (fun q => by rw [hl] at q; cases q)) rfl fun v1 B1 hv1 => ?_
        obtain ⟨p2, g4, g5, g6, rfl, rfl⟩ := hv1
        simp only [List.cons_append, List.nil_append, id]
        refine WL.nil (WN.nextH (by repeat (first | exact Part.nil | refine Part.cons (by repeat (first | exact Pick.here | apply Pick.there)) ?_ | refine Part.free ?_)) ?_)
        refine WH.only (i := 9) (by kernel_rfl) rfl ?_
        refine WL.storeWhole (k := 4) (us := (ndl (Nod.cutN x 0 4) p1).toArray) Try.sizeOf26 rfl rfl rfl (by repeat (first | exact Pick.here | apply Pick.there)) rfl rfl ?_
        refine WL.nil (WN.nextH (by repeat (first | exact Part.nil | refine Part.cons (by repeat (first | exact Pick.here | apply Pick.there)) ?_ | refine Part.free ?_)) ?_)
        refine WH.only (i := 10) (by kernel_rfl) rfl ?_
        refine WL.storeWhole (k := 33) (us := (kv (Nod.key x.ks 4)).toArray) Try.sizeOf42 rfl rfl (kv_all _) (by repeat (first | exact Pick.here | apply Pick.there)) hks rfl ?_
        refine WL.nil (WN.nextH (by repeat (first | exact Part.nil | refine Part.cons (by repeat (first | exact Pick.here | apply Pick.there)) ?_ | refine Part.free ?_)) ?_)
        refine WH.only (i := 11) (by kernel_rfl) rfl ?_
        refine WL.storeWhole (k := 4) (us := (ndl (Nod.cutN x 4 x.ks.length) p2).toArray) Try.sizeOf26 rfl rfl rfl (by repeat (first | exact Pick.here | apply Pick.there)) rfl rfl ?_
        refine WL.nil (WN.nextH (by repeat (first | exact Part.nil | refine Part.cons (by repeat (first | exact Pick.here | apply Pick.there)) ?_ | refine Part.free ?_)) ?_)
        (refine WH.order [12] (by repeat (first | exact Part.nil | refine Part.cons (by repeat (first | exact Pick.here | apply Pick.there)) ?_ | refine Part.free ?_)) (by kernel_rfl) ?_; (repeat (first | (refine WT.k_assign rfl ?_; (refine WT.kn rfl ?_; refine WT.take rfl rfl (fun _ _ _ h => h) (Yl.assign rfl) rfl (by kernel_rfl) (by kernel_rfl) ?_)))); refine WT.nil ?_)
        refine WH.done (by kernel_rfl) ?_
        (repeat (first | refine WN.then_normal ?_ | refine WC.ret ?_ | refine WN.then_ret ?_ | refine WN.block_ret ?_))
        exact WN.ret4C rfl Try.isAgg26 Try.sizeOf26 Try.isAgg42 Try.sizeOf42 Try.isAgg26 Try.sizeOf26 rfl rfl rfl rfl (by repeat (first | exact .head _ | refine .tail _ ?_)) (by repeat (first | exact .head _ | refine .tail _ ?_)) (by repeat (first | exact .head _ | refine .tail _ ?_)) rfl hks rfl ⟨p1, p2, ⟨g1, g2, g3⟩, ⟨g4, g5, g6⟩, rfl, rfl⟩
          (.cons (by repeat (first | exact Pick.here | apply Pick.there)) (.cons (by repeat (first | exact Pick.here | apply Pick.there)) (.cons (by repeat (first | exact Pick.here | apply Pick.there)) (.cons (by repeat (first | exact Pick.here | apply Pick.there)) (.cons (by repeat (first | exact Pick.here | apply Pick.there)) (.cons (by repeat (first | exact Pick.here | apply Pick.there)) .nil))))))
      · have hlen : x.ks.length = 12 := by rw [hfl, hl]; rfl
        have hix : 6 < x.ks.length := by omega
        have hkw := hx.ks _ (key_mem hix)
        have hf := h1.2
        rw [if_neg (by rw [hl]; decide)] at hf
        have e1 : Nod.low x = Nod.cutN x 0 6 := by rw [Nod.low_cut, if_neg (by rw [hl]; decide)]
        have e2 : Nod.high x = Nod.cutN x 7 x.ks.length := by rw [Nod.high_cut hF, if_neg (by rw [hl]; decide), hlen]
        have e3 : Nod.mid x = Nod.key x.ks 6 := by unfold Nod.mid; rw [if_neg (by rw [hl]; decide)]
        rw [e1, e2, e3]
        have hks := kv_size hkw
        (repeat (first | refine WC.seq ?_ | refine WN.then_normal ?_ | refine WC.skip ?_ | refine WN.block_normal ?_))
        refine WC.regionH [.blk b1 (.cells (ndl x p).toArray 26 (0, 0))] (by kernel_rfl) ?_
        (refine WH.order [0, 2, 3, 4, 5, 6, 7] (by repeat (first | exact Part.nil | refine Part.cons (by repeat (first | exact Pick.here | apply Pick.there)) ?_ | refine Part.free ?_)) (by kernel_rfl) ?_; (repeat (first | (refine WT.k_move rfl ?_; (refine WT.kn rfl ?_; refine WT.take rfl rfl (fun _ _ _ h => h) (Yl.move rfl) rfl (by kernel_rfl) (by kernel_rfl) ?_)) | (refine WT.k_load rfl ?_; (refine WT.kn rfl ?_; first | refine WT.take rfl rfl (fun _ _ _ h => h) (Yl.loadBlk (T := 22) Try.isAgg22 rfl (by repeat (first | exact .head _ | refine .tail _ ?_)) (by rfl)) rfl (by kernel_rfl) (by kernel_rfl) ?_ | refine WT.take rfl rfl (fun _ _ _ h => h) (Yl.loadAll (T := 26) (T' := 26) Try.isAgg26 Try.sizeOf26 rfl (by repeat (first | exact .head _ | refine .tail _ ?_)) rfl) rfl (by kernel_rfl) (by kernel_rfl) ?_ | refine WT.take rfl rfl (fun _ _ _ h => h) (Yl.loadEl (kv (Nod.key x.ks 6)) Try.isAgg42 Try.sizeOf42 rfl (.old h.ks) (kv_len hkw) (kv_ne _) (kcells_at hx.ks hix)) rfl (by kernel_rfl) (by kernel_rfl) ?_)) | (refine WT.k_fld rfl ?_; (refine WT.kn rfl ?_; refine WT.take rfl rfl (fun _ _ _ h => h) (Yl.fld0 (t := 26) Try.underlying26 fl26 rfl rfl) rfl (by kernel_rfl) (by kernel_rfl) ?_)) | (refine WT.k_idxa rfl ?_; (refine WT.kn rfl ?_; refine WT.take rfl rfl (fun _ _ _ h => h) (Yl.indexAddr (t := 22) (j := 6) Try.underlying22 Try.sizeOf42 rfl rfl (.old h.ks) (kcells_ne hix) (by omega)) rfl (by kernel_rfl) (by kernel_rfl) ?_)))); refine WT.nil ?_)
        refine WH.only (i := 1) (by kernel_rfl) rfl ?_
        refine WL.call (g := 37) Try.call37 rfl (fun w s => part_c x p 0 6 w hx ((NdAt.old h).at_ s) (by decide) (by omega) (fun q => by rw [hl] at q; cases q) (fun q => by omega)) rfl fun v1 B1 hv1 => ?_
        obtain ⟨p1, g1, g2, g3, rfl, rfl⟩ := hv1
        simp only [List.cons_append, List.nil_append, id]
        refine WL.nil (WN.nextH (by repeat (first | exact Part.nil | refine Part.cons (by repeat (first | exact Pick.here | apply Pick.there)) ?_ | refine Part.free ?_)) ?_)
        refine WH.only (i := 8) (by kernel_rfl) rfl ?_
        refine WL.call (g := 37) Try.call37 rfl (fun w s => part_c x p 7 x.ks.length w hx ((NdAt.old h).at_ s) (by omega) (by omega) (fun q => by rw [hl] at q; cases q) (fun q => by omega)) rfl fun v1 B1 hv1 => ?_
        obtain ⟨p2, g4, g5, g6, rfl, rfl⟩ := hv1
        simp only [List.cons_append, List.nil_append, id]
        refine WL.nil (WN.nextH (by repeat (first | exact Part.nil | refine Part.cons (by repeat (first | exact Pick.here | apply Pick.there)) ?_ | refine Part.free ?_)) ?_)
        refine WH.only (i := 9) (by kernel_rfl) rfl ?_
        refine WL.storeWhole (k := 4) (us := (ndl (Nod.cutN x 0 6) p1).toArray) Try.sizeOf26 rfl rfl rfl (by repeat (first | exact Pick.here | apply Pick.there)) rfl rfl ?_
        refine WL.nil (WN.nextH (by repeat (first | exact Part.nil | refine Part.cons (by repeat (first | exact Pick.here | apply Pick.there)) ?_ | refine Part.free ?_)) ?_)
        refine WH.only (i := 10) (by kernel_rfl) rfl ?_
        refine WL.storeWhole (k := 33) (us := (kv (Nod.key x.ks 6)).toArray) Try.sizeOf42 rfl rfl (kv_all _) (by repeat (first | exact Pick.here | apply Pick.there)) hks rfl ?_
        refine WL.nil (WN.nextH (by repeat (first | exact Part.nil | refine Part.cons (by repeat (first | exact Pick.here | apply Pick.there)) ?_ | refine Part.free ?_)) ?_)
        refine WH.only (i := 11) (by kernel_rfl) rfl ?_
        refine WL.storeWhole (k := 4) (us := (ndl (Nod.cutN x 7 x.ks.length) p2).toArray) Try.sizeOf26 rfl rfl rfl (by repeat (first | exact Pick.here | apply Pick.there)) rfl rfl ?_
        refine WL.nil (WN.nextH (by repeat (first | exact Part.nil | refine Part.cons (by repeat (first | exact Pick.here | apply Pick.there)) ?_ | refine Part.free ?_)) ?_)
        (refine WH.order [12] (by repeat (first | exact Part.nil | refine Part.cons (by repeat (first | exact Pick.here | apply Pick.there)) ?_ | refine Part.free ?_)) (by kernel_rfl) ?_; (repeat (first | (refine WT.k_assign rfl ?_; (refine WT.kn rfl ?_; refine WT.take rfl rfl (fun _ _ _ h => h) (Yl.assign rfl) rfl (by kernel_rfl) (by kernel_rfl) ?_)))); refine WT.nil ?_)
        refine WH.done (by kernel_rfl) ?_
        (repeat (first | refine WN.then_normal ?_ | refine WC.ret ?_))
        exact WN.ret4C rfl Try.isAgg26 Try.sizeOf26 Try.isAgg42 Try.sizeOf42 Try.isAgg26 Try.sizeOf26 rfl rfl rfl rfl (by repeat (first | exact .head _ | refine .tail _ ?_)) (by repeat (first | exact .head _ | refine .tail _ ?_)) (by repeat (first | exact .head _ | refine .tail _ ?_)) rfl hks rfl ⟨p1, p2, ⟨g1, g2, g3⟩, ⟨g4, g5, g6⟩, rfl, rfl⟩
          (.cons (by repeat (first | exact Pick.here | apply Pick.there)) (.cons (by repeat (first | exact Pick.here | apply Pick.there)) (.cons (by repeat (first | exact Pick.here | apply Pick.there)) (.cons (by repeat (first | exact Pick.here | apply Pick.there)) (.cons (by repeat (first | exact Pick.here | apply Pick.there)) (.cons (by repeat (first | exact Pick.here | apply Pick.there)) .nil))))))
    · have hF : ¬ Nod.Full x := fun q => h2 q.2
      rw [sp_not hF]
      (repeat (first | refine WL.want rfl rfl rfl ?_ | refine WL.step (Yl.move rfl) rfl ?_ | refine WL.step (Yl.assign rfl) rfl ?_ | (refine WL.k_load ?_; first | refine WL.step (Yl.loadBlk (T := 22) Try.isAgg22 rfl (by repeat (first | exact .head _ | refine .tail _ ?_)) (by rfl)) rfl ?_ | refine WL.step (Yl.loadAll (T := 26) (T' := 26) Try.isAgg26 Try.sizeOf26 rfl (by repeat (first | exact .head _ | refine .tail _ ?_)) rfl) rfl ?_) | refine WL.step (Yl.fld0 (t := 26) Try.underlying26 fl26 rfl rfl) rfl ?_ | refine WL.step (Yl.pick_f rfl rfl rfl) rfl ?_ | refine WL.step (Yl.len (t := 22) Try.underlying22 rfl) rfl ?_ | (refine WL.k_call 35 ?_; refine WL.callV (g := 35) Try.call35 rfl (fun w s => hfo w ((NdAt.old h).at_ s)) rfl ?_) | (refine WL.k_call 36 ?_; refine WL.callV (g := 36) Try.call36 rfl (fun w s => hm w) rfl ?_) | (refine WL.k_bin .neq ?_; refine WL.step (Yl.neqT rfl rfl (by omega)) rfl ?_) | refine WL.step (Yl.not rfl) rfl ?_ | (refine WL.k_bin .add ?_; refine WL.step (Yl.add64C rfl (by omega)) rfl ?_) | refine WC.seq ?_ | refine WC.region ?_ | refine WL.nil ?_ | refine WN.then_normal ?_ | refine WC.block ?_))
      refine WC.cond_true rfl rfl ?_
      (repeat (first | (refine WL.k_build ?_; first | refine WL.step (Yl.build (ps := []) rfl buildZ) rfl ?_ | refine WL.step (Yl.build (ps := []) rfl buildKZ) rfl ?_) | refine WC.seq ?_ | refine WC.region ?_))
      refine WL.storeWhole (T := 26) (k := 4) (us := (ndl Nod.zero pz).toArray) Try.sizeOf26 rfl rfl rfl (by repeat (first | exact Pick.here | apply Pick.there)) rfl rfl ?_
      refine WL.storeWhole (T := 42) (k := 33) (us := (kv zkey).toArray) Try.sizeOf42 rfl rfl (kv_all _) (by repeat (first | exact Pick.here | apply Pick.there)) rfl rfl ?_
      refine WL.storeWhole (T := 26) (k := 4) (us := (ndl Nod.zero pz).toArray) Try.sizeOf26 rfl rfl rfl (by repeat (first | exact Pick.here | apply Pick.there)) rfl rfl ?_
      (repeat (first | refine WL.step (Yl.assign rfl) rfl ?_ | refine WL.nil ?_ | refine WN.then_normal ?_ | refine WC.ret ?_ | refine WN.then_ret ?_ | refine WN.block_ret ?_))
      exact WN.ret4C rfl Try.isAgg26 Try.sizeOf26 Try.isAgg42 Try.sizeOf42 Try.isAgg26 Try.sizeOf26 rfl rfl rfl rfl (by repeat (first | exact .head _ | refine .tail _ ?_)) (by repeat (first | exact .head _ | refine .tail _ ?_)) (by repeat (first | exact .head _ | refine .tail _ ?_)) rfl rfl rfl ⟨pz, pz, ⟨Nat.le_refl _, Nat.le_refl _, Nat.le_refl _⟩, ⟨Nat.le_refl _, Nat.le_refl _, Nat.le_refl _⟩, rfl, rfl⟩ (.free (.free (.free (.free (.free (.free .nil))))))
  · have hF : ¬ Nod.Full x := fun q => h1 q.1
    rw [sp_not hF]
    rw [decide_eq_false h1] at hfo
    (repeat (first | refine WL.pass rfl rfl rfl rfl ?_ | refine WL.step (Yl.move rfl) rfl ?_ | refine WL.step (Yl.assign rfl) rfl ?_ | (refine WL.k_load ?_; first | refine WL.step (Yl.loadBlk (T := 22) Try.isAgg22 rfl (by repeat (first | exact .head _ | refine .tail _ ?_)) (by rfl)) rfl ?_ | refine WL.step (Yl.loadAll (T := 26) (T' := 26) Try.isAgg26 Try.sizeOf26 rfl (by repeat (first | exact .head _ | refine .tail _ ?_)) rfl) rfl ?_) | refine WL.step (Yl.fld0 (t := 26) Try.underlying26 fl26 rfl rfl) rfl ?_ | refine WL.step (Yl.pick_t rfl rfl rfl) rfl ?_ | refine WL.step (Yl.len (t := 22) Try.underlying22 rfl) rfl ?_ | (refine WL.k_call 35 ?_; refine WL.callV (g := 35) Try.call35 rfl (fun w s => hfo w ((NdAt.old h).at_ s)) rfl ?_) | refine WL.step (Yl.not rfl) rfl ?_ | refine WC.seq ?_ | refine WC.region ?_ | refine WL.nil ?_ | refine WN.then_normal ?_ | refine WC.block ?_))
    refine WC.cond_true rfl rfl ?_
    (repeat (first | (refine WL.k_build ?_; first | refine WL.step (Yl.build (ps := []) rfl buildZ) rfl ?_ | refine WL.step (Yl.build (ps := []) rfl buildKZ) rfl ?_) | refine WC.seq ?_ | refine WC.region ?_))
    refine WL.storeWhole (T := 26) (k := 4) (us := (ndl Nod.zero pz).toArray) Try.sizeOf26 rfl rfl rfl (by repeat (first | exact Pick.here | apply Pick.there)) rfl rfl ?_
    refine WL.storeWhole (T := 42) (k := 33) (us := (kv zkey).toArray) Try.sizeOf42 rfl rfl (kv_all _) (by repeat (first | exact Pick.here | apply Pick.there)) rfl rfl ?_
    refine WL.storeWhole (T := 26) (k := 4) (us := (ndl Nod.zero pz).toArray) Try.sizeOf26 rfl rfl rfl (by repeat (first | exact Pick.here | apply Pick.there)) rfl rfl ?_
    (repeat (first | refine WL.step (Yl.assign rfl) rfl ?_ | refine WL.nil ?_ | refine WN.then_normal ?_ | refine WC.ret ?_ | refine WN.then_ret ?_ | refine WN.block_ret ?_))
    exact WN.ret4C rfl Try.isAgg26 Try.sizeOf26 Try.isAgg42 Try.sizeOf42 Try.isAgg26 Try.sizeOf26 rfl rfl rfl rfl (by repeat (first | exact .head _ | refine .tail _ ?_)) (by repeat (first | exact .head _ | refine .tail _ ?_)) (by repeat (first | exact .head _ | refine .tail _ ?_)) rfl rfl rfl ⟨pz, pz, ⟨Nat.le_refl _, Nat.le_refl _, Nat.le_refl _⟩, ⟨Nat.le_refl _, Nat.le_refl _, Nat.le_refl _⟩, rfl, rfl⟩ (.free (.free (.free (.free (.free (.free .nil))))))
theorem cells_k {w : World} {x : Nod.N} {p : Pl} (h : NdAt w x p) (hx : x.Wf) (lo m : Nat) : CellsAt w (cutA p.ka lo p.kc 33) (kcells ((x.ks.drop lo).take m)) :=
  Rd.kcut (X := ⟨Try.prog, 0, w, []⟩) (A := []) hx.ks (Rd.old h.ks) m h.kc w (St.start w)
theorem cells_v {w : World} {x : Nod.N} {p : Pl} (h : NdAt w x p) (hx : x.Wf) (lo m : Nat) : CellsAt w (cutA p.va lo p.vc 20) (vcells ((x.vs.drop lo).take m)) :=
  Rd.vcut (X := ⟨Try.prog, 0, w, []⟩) (A := []) hx.vs (Rd.old h.vs) m h.vc w (St.start w)
theorem cells_i {w : World} {x : Nod.N} {p : Pl} (h : NdAt w x p) (lo m : Nat) : CellsAt w (cutA p.ca lo p.cc 1) (icells ((x.cs.drop lo).take m)) :=
  Rd.icut (X := ⟨Try.prog, 0, w, []⟩) (A := []) (Rd.old h.cs) m h.cc w (St.start w)
theorem rsplit_c (x : Nod.N) (p : Pl) (w : World) (hx : x.Wf) (h : NdAt w x p) : Calls Try.prog 18 #[ndv x p] w (Gives (SpR x p (Nod.sp x)) w) := by
  have hkl := hx.kl
  have gk := h.kc
  have gv := h.vc
  have gc := h.cc
  refine enter (args := [_]) Try.func18 Try.ntmps18 rfl rfl ?_
  (repeat (first | refine WL.boxA (cs := (ndl x p).toArray) rfl rfl fun b1 => ?_ | refine WC.seq ?_ | refine WC.region ?_))
  refine WL.allocA Try.zeroValue32 rfl fun b2 => ?_
  refine WL.allocA zeroRKey rfl fun b3 => ?_
  refine WL.allocA Try.zeroValue32 rfl fun b4 => ?_
  have hboth : (∀ m, decide (m ≤ x.ks.length ∧ x.ks.length ≤ m ∧ Nod.Formed x) = decide (x.ks.length = m ∧ Nod.Formed x)) := fun m => by
    rw [decide_eq_decide]; constructor
    · intro q; exact ⟨by omega, q.2.2⟩
    · intro q; exact ⟨by omega, by omega, q.2⟩
  rcases Bool.eq_false_or_eq_true x.leaf with hl | hl
  · have hform := fun w (q : NdAt w x p) => form_c x p 9 9 w hx q (by decide) (by decide)
    rw [hboth] at hform
    by_cases h1 : x.ks.length = 9 ∧ Nod.Formed x
    · have hF : Nod.Full x := ⟨h1.2, by rw [hl]; exact h1.1⟩
      rw [decide_eq_true h1] at hform
      obtain ⟨hlen, h1⟩ := h1
      have hix : 4 < x.ks.length := by omega
      have hkw := hx.ks _ (key_mem hix)
      have hks := kv_size hkw
      have hf := h1.2
      rw [if_pos hl] at hf
      have e1 : Nod.low x = Nod.cutN x 0 4 := by rw [Nod.low_cut, if_pos hl]
      have e2 : Nod.high x = Nod.cutN x 4 9 := by rw [Nod.high_cut hF, if_pos hl]
      have e3 : Nod.mid x = Nod.key x.ks 4 := by unfold Nod.mid; rw [if_pos hl]
      rw [sp_full hF, e1, e2, e3]
      have k1 := cut_kl (x := x) (lo := 0) (hi := 4) (by decide) (by omega)
      have k2 := cut_kl (x := x) (lo := 4) (hi := 9) (by decide) (by omega)
      have hyl : x.vs.length = 9 := by omega
      have y1 := cut_vl (x := x) (lo := 0) (hi := 4) (by decide) (by omega)
      have y2 := cut_vl (x := x) (lo := 4) (hi := 9) (by decide) (by omega)
      have c1 : Nod.cutN x 0 4 = (⟨true, (x.ks.drop 0).take (4 - 0), (x.vs.drop 0).take (4 - 0), []⟩ : Nod.N) := if_pos hl
      have c2 : Nod.cutN x 4 9 = (⟨true, (x.ks.drop 4).take (9 - 4), (x.vs.drop 4).take (9 - 4), []⟩ : Nod.N) := if_pos hl
      rw [c1, c2]
      (repeat (first | refine WL.want rfl rfl rfl ?_ | refine WL.step (Yl.move rfl) rfl ?_ | refine WL.step (Yl.assign rfl) rfl ?_ | (refine WL.k_load ?_; first | refine WL.step (Yl.loadBlk (T := 4) (v := .bool true) Try.isAgg4 rfl (by repeat (first | exact .head _ | refine .tail _ ?_)) (by show some (Value.bool x.leaf) = _; rw [hl])) rfl ?_ | refine WL.step (Yl.loadAll (T := 32) (T' := 32) Try.isAgg32 Try.sizeOf32 rfl (by repeat (first | exact .head _ | refine .tail _ ?_)) rfl) rfl ?_) | refine WL.step (Yl.fld0 (t := 32) Try.underlying32 fl32 rfl rfl) rfl ?_ | refine WL.step (Yl.pick_t rfl rfl rfl) rfl ?_ | (refine WL.k_call 38 ?_; refine WL.callV (g := 38) Try.call38 rfl (fun w s => hform w ((NdAt.old h).at_ s)) rfl ?_) | refine WC.seq ?_ | refine WC.region ?_ | refine WL.nil ?_ | refine WN.then_normal ?_))
      refine WC.cond_true rfl rfl ?_
      (repeat (first | refine WC.seq ?_))
      refine WC.regionH [.blk b1 (.cells (ndl x p).toArray 32 (0, 0))] (by kernel_rfl) ?_
      (refine WH.order [0, 1, 2, 3, 4, 5, 6, 7, 8, 9, 10, 11, 12, 13, 14, 15, 16, 17] (by repeat (first | exact Part.nil | refine Part.cons (by repeat (first | exact Pick.here | apply Pick.there)) ?_ | refine Part.free ?_)) (by kernel_rfl) ?_; (repeat (first | (refine WT.k_load rfl ?_; (refine WT.kn rfl ?_; first | refine WT.take rfl rfl (fun _ _ _ h => h) (Yl.loadBlk (T := 29) Try.isAgg29 rfl (by repeat (first | exact .head _ | refine .tail _ ?_)) (by rfl)) rfl (by kernel_rfl) (by kernel_rfl) ?_ | refine WT.take rfl rfl (fun _ _ _ h => h) (Yl.loadBlk (T := 30) Try.isAgg30 rfl (by repeat (first | exact .head _ | refine .tail _ ?_)) (by rfl)) rfl (by kernel_rfl) (by kernel_rfl) ?_ | refine WT.take rfl rfl (fun _ _ _ h => h) (Yl.loadEl (kv (Nod.key x.ks 4)) Try.isAgg45 Try.sizeOf45 rfl (.old h.ks) (kv_len hkw) (kv_ne _) (kcells_at hx.ks hix)) rfl (by kernel_rfl) (by kernel_rfl) ?_)) | (refine WT.k_fld rfl ?_; (refine WT.kn rfl ?_; refine WT.take rfl rfl (fun _ _ _ h => h) (Yl.fld0 (t := 32) Try.underlying32 fl32 rfl rfl) rfl (by kernel_rfl) (by kernel_rfl) ?_)) | (refine WT.k_slice rfl ?_; (refine WT.kn rfl ?_; first | refine WT.take rfl rfl (fun _ _ _ h => h) (Yl.cutTo (t := 29) (hi := 4) Try.underlying29 Try.sizeOf45 rfl rfl (by omega)) rfl (by kernel_rfl) (by kernel_rfl) ?_ | refine WT.take rfl rfl (fun _ _ _ h => h) (Yl.cutTo (t := 30) (hi := 4) Try.underlying30 Try.sizeOf78 rfl rfl (by omega)) rfl (by kernel_rfl) (by kernel_rfl) ?_ | refine WT.take rfl rfl (fun _ _ _ h => h) (Yl.cutFrom (t := 29) (lo := 4) Try.underlying29 Try.sizeOf45 rfl rfl (by omega)) rfl (by kernel_rfl) (by kernel_rfl) ?_ | refine WT.take rfl rfl (fun _ _ _ h => h) (Yl.cutFrom (t := 30) (lo := 4) Try.underlying30 Try.sizeOf78 rfl rfl (by omega)) rfl (by kernel_rfl) (by kernel_rfl) ?_)) | (refine WT.k_build rfl ?_; (refine WT.kn rfl ?_; first | refine WT.take rfl rfl (fun _ _ _ h => h) (Yl.build (ps := [(0, .const (.bool true)), (1, .tmp 14), (2, .tmp 17)]) rfl (buildRLKV _ _ _ _ _ _)) rfl (by kernel_rfl) (by kernel_rfl) ?_ | refine WT.take rfl rfl (fun _ _ _ h => h) (Yl.build (ps := [(0, .const (.bool true)), (1, .tmp 25), (2, .tmp 28)]) rfl (buildRLKV _ _ _ _ _ _)) rfl (by kernel_rfl) (by kernel_rfl) ?_)) | (refine WT.k_idxa rfl ?_; (refine WT.kn rfl ?_; refine WT.take rfl rfl (fun _ _ _ h => h) (Yl.indexAddr (t := 29) (j := 4) Try.underlying29 Try.sizeOf45 rfl rfl (.old h.ks) (kcells_ne hix) (by omega)) rfl (by kernel_rfl) (by kernel_rfl) ?_)))); refine WT.nil ?_)
      refine WH.only (i := 18) (by kernel_rfl) rfl ?_
      refine WL.storeWhole (T := 32) (k := 4) Try.sizeOf32 rfl rfl rfl (by repeat (first | exact Pick.here | apply Pick.there)) rfl rfl ?_
      refine WL.nil (WN.nextH (by repeat (first | exact Part.nil | refine Part.cons (by repeat (first | exact Pick.here | apply Pick.there)) ?_ | refine Part.free ?_)) ?_)
      refine WH.only (i := 19) (by kernel_rfl) rfl ?_
      refine WL.storeWhole (k := 33) (us := (kv (Nod.key x.ks 4)).toArray) Try.sizeOf45 rfl rfl (kv_all _) (by repeat (first | exact Pick.here | apply Pick.there)) hks rfl ?_
      refine WL.nil (WN.nextH (by repeat (first | exact Part.nil | refine Part.cons (by repeat (first | exact Pick.here | apply Pick.there)) ?_ | refine Part.free ?_)) ?_)
      refine WH.only (i := 20) (by kernel_rfl) rfl ?_
      refine WL.storeWhole (T := 32) (k := 4) Try.sizeOf32 rfl rfl rfl (by repeat (first | exact Pick.here | apply Pick.there)) rfl rfl ?_
      refine WL.nil (WN.nextH (by repeat (first | exact Part.nil | refine Part.cons (by repeat (first | exact Pick.here | apply Pick.there)) ?_ | refine Part.free ?_)) ?_)
      (refine WH.order [21] (by repeat (first | exact Part.nil | refine Part.cons (by repeat (first | exact Pick.here | apply Pick.there)) ?_ | refine Part.free ?_)) (by kernel_rfl) ?_; (repeat (first | (refine WT.k_assign rfl ?_; (refine WT.kn rfl ?_; refine WT.take rfl rfl (fun _ _ _ h => h) (Yl.assign rfl) rfl (by kernel_rfl) (by kernel_rfl) ?_)))); refine WT.nil ?_)
      refine WH.done (by kernel_rfl) ?_
      (repeat (first | refine WN.then_normal ?_ | refine WC.ret ?_ | refine WN.then_ret ?_))
      exact WN.ret4C rfl Try.isAgg32 Try.sizeOf32 Try.isAgg45 Try.sizeOf45 Try.isAgg32 Try.sizeOf32 rfl rfl rfl rfl (by repeat (first | exact .head _ | refine .tail _ ?_)) (by repeat (first | exact .head _ | refine .tail _ ?_)) (by repeat (first | exact .head _ | refine .tail _ ?_)) rfl hks rfl
        ⟨rfl, (⟨cutA p.ka 0 p.kc 33, p.kc, cutA p.va 0 p.vc 20, p.vc, none, 0⟩ : Pl), (⟨cutA p.ka 4 p.kc 33, p.kc - 4, cutA p.va 4 p.vc 20, p.vc - 4, none, 0⟩ : Pl), fun w h => ⟨cells_k h hx 0 _, cells_v h hx 0 _, .nil _ _, by rw [k1]; show _ ≤ p.kc; omega, by rw [y1]; show _ ≤ p.vc; omega, Nat.le_refl _⟩, fun w h => ⟨cells_k h hx 4 _, cells_v h hx 4 _, .nil _ _, by rw [k2]; show _ ≤ p.kc - 4; omega, by rw [y2]; show _ ≤ p.vc - 4; omega, Nat.le_refl _⟩, by simp only [SpV, ndv, ndl, k1, k2, y1, y2, hlen, hyl]; rfl⟩ .nil
    · have hF : ¬ Nod.Full x := fun q => h1 ⟨by have := q.2; rw [hl] at this; exact this, q.1⟩
      rw [decide_eq_false h1] at hform
      rw [sp_not hF]
      (repeat (first | refine WL.want rfl rfl rfl ?_ | refine WL.step (Yl.move rfl) rfl ?_ | refine WL.step (Yl.assign rfl) rfl ?_ | (refine WL.k_load ?_; first | refine WL.step (Yl.loadBlk (T := 4) (v := .bool true) Try.isAgg4 rfl (by repeat (first | exact .head _ | refine .tail _ ?_)) (by show some (Value.bool x.leaf) = _; rw [hl])) rfl ?_ | refine WL.step (Yl.loadAll (T := 32) (T' := 32) Try.isAgg32 Try.sizeOf32 rfl (by repeat (first | exact .head _ | refine .tail _ ?_)) rfl) rfl ?_) | refine WL.step (Yl.fld0 (t := 32) Try.underlying32 fl32 rfl rfl) rfl ?_ | refine WL.step (Yl.pick_t rfl rfl rfl) rfl ?_ | (refine WL.k_call 38 ?_; refine WL.callV (g := 38) Try.call38 rfl (fun w s => hform w ((NdAt.old h).at_ s)) rfl ?_) | refine WC.seq ?_ | refine WC.region ?_ | refine WL.nil ?_ | refine WN.then_normal ?_))
      refine WC.cond_false rfl rfl ?_
      (repeat (first | refine WL.pass rfl rfl rfl rfl ?_ | refine WL.step (Yl.move rfl) rfl ?_ | (refine WL.k_load ?_; refine WL.step (Yl.loadBlk (T := 4) (v := .bool true) Try.isAgg4 rfl (by repeat (first | exact .head _ | refine .tail _ ?_)) (by show some (Value.bool x.leaf) = _; rw [hl])) rfl ?_) | refine WL.step (Yl.fld0 (t := 32) Try.underlying32 fl32 rfl rfl) rfl ?_ | refine WL.step (Yl.pick_f rfl rfl rfl) rfl ?_ | refine WL.step (Yl.not rfl) rfl ?_ | refine WC.seq ?_ | refine WC.region ?_ | refine WL.nil ?_ | refine WN.then_normal ?_ | refine WC.skip ?_))
      refine WC.cond_false rfl rfl ?_
      (repeat (first | (refine WL.k_build ?_; first | refine WL.step (Yl.build (ps := []) rfl buildRZ) rfl ?_ | refine WL.step (Yl.build (ps := []) rfl buildRKZ) rfl ?_) | refine WC.seq ?_ | refine WC.region ?_ | refine WN.then_normal ?_ | refine WC.skip ?_))
      refine WL.storeWhole (T := 32) (k := 4) (us := (ndl Nod.zero pz).toArray) Try.sizeOf32 rfl rfl rfl (by repeat (first | exact Pick.here | apply Pick.there)) rfl rfl ?_
      refine WL.storeWhole (T := 45) (k := 33) (us := (kv zkey).toArray) Try.sizeOf45 rfl rfl (kv_all _) (by repeat (first | exact Pick.here | apply Pick.there)) rfl rfl ?_
      refine WL.storeWhole (T := 32) (k := 4) (us := (ndl Nod.zero pz).toArray) Try.sizeOf32 rfl rfl rfl (by repeat (first | exact Pick.here | apply Pick.there)) rfl rfl ?_
      (repeat (first | refine WL.step (Yl.assign rfl) rfl ?_ | refine WL.nil ?_ | refine WN.then_normal ?_ | refine WC.ret ?_))
      exact WN.ret4C rfl Try.isAgg32 Try.sizeOf32 Try.isAgg45 Try.sizeOf45 Try.isAgg32 Try.sizeOf32 rfl rfl rfl rfl (by repeat (first | exact .head _ | refine .tail _ ?_)) (by repeat (first | exact .head _ | refine .tail _ ?_)) (by repeat (first | exact .head _ | refine .tail _ ?_)) rfl rfl rfl ⟨rfl, pz, pz, fun w _ => zero_at w, fun w _ => zero_at w, rfl⟩ .nil
  · have hform := fun w (q : NdAt w x p) => form_c x p 12 12 w hx q (by decide) (by decide)
    rw [hboth] at hform
    by_cases h1 : x.ks.length = 12 ∧ Nod.Formed x
    · have hF : Nod.Full x := ⟨h1.2, by rw [hl]; exact h1.1⟩
      rw [decide_eq_true h1] at hform
      obtain ⟨hlen, h1⟩ := h1
      have hix : 6 < x.ks.length := by omega
      have hkw := hx.ks _ (key_mem hix)
      have hks := kv_size hkw
      have hf := h1.2
      rw [if_neg (by rw [hl]; decide)] at hf
      have e1 : Nod.low x = Nod.cutN x 0 6 := by rw [Nod.low_cut, if_neg (by rw [hl]; decide)]
      have e2 : Nod.high x = Nod.cutN x 7 12 := by rw [Nod.high_cut hF, if_neg (by rw [hl]; decide)]
      have e3 : Nod.mid x = Nod.key x.ks 6 := by unfold Nod.mid; rw [if_neg (by rw [hl]; decide)]
      rw [sp_full hF, e1, e2, e3]
      have k1 := cut_kl (x := x) (lo := 0) (hi := 6) (by decide) (by omega)
      have k2 := cut_kl (x := x) (lo := 7) (hi := 12) (by decide) (by omega)
      have hyl : x.cs.length = 13 := by omega
      have y1 := cut_cl (x := x) (lo := 0) (hi := 6 + 1) (by decide) (by omega)
      have y2 := cut_cl (x := x) (lo := 7) (hi := 12 + 1) (by decide) (by omega)
      have c1 : Nod.cutN x 0 6 = (⟨false, (x.ks.drop 0).take (6 - 0), [], (x.cs.drop 0).take (6 + 1 - 0)⟩ : Nod.N) := if_neg (by rw [hl]; decide)
      have c2 : Nod.cutN x 7 12 = (⟨false, (x.ks.drop 7).take (12 - 7), [], (x.cs.drop 7).take (12 + 1 - 7)⟩ : Nod.N) := if_neg (by rw [hl]; decide)
      rw [c1, c2]
      (repeat (first | refine WL.pass rfl rfl rfl rfl ?_ | refine WL.step (Yl.move rfl) rfl ?_ | refine WL.step (Yl.assign rfl) rfl ?_ | (refine WL.k_load ?_; refine WL.step (Yl.loadBlk (T := 4) (v := .bool false) Try.isAgg4 rfl (by repeat (first | exact .head _ | refine .tail _ ?_)) (by show some (Value.bool x.leaf) = _; rw [hl])) rfl ?_) | refine WL.step (Yl.fld0 (t := 32) Try.underlying32 fl32 rfl rfl) rfl ?_ | refine WL.step (Yl.pick_f rfl rfl rfl) rfl ?_ | refine WC.seq ?_ | refine WC.region ?_ | refine WL.nil ?_ | refine WN.then_normal ?_))
      refine WC.cond_false rfl rfl ?_
      (repeat (first | refine WL.want rfl rfl rfl ?_ | refine WL.step (Yl.move rfl) rfl ?_ | (refine WL.k_load ?_; first | refine WL.step (Yl.loadBlk (T := 4) (v := .bool false) Try.isAgg4 rfl (by repeat (first | exact .head _ | refine .tail _ ?_)) (by show some (Value.bool x.leaf) = _; rw [hl])) rfl ?_ | refine WL.step (Yl.loadAll (T := 32) (T' := 32) Try.isAgg32 Try.sizeOf32 rfl (by repeat (first | exact .head _ | refine .tail _ ?_)) rfl) rfl ?_) | refine WL.step (Yl.fld0 (t := 32) Try.underlying32 fl32 rfl rfl) rfl ?_ | refine WL.step (Yl.pick_t rfl rfl rfl) rfl ?_ | (refine WL.k_call 38 ?_; refine WL.callV (g := 38) Try.call38 rfl (fun w s => hform w ((NdAt.old h).at_ s)) rfl ?_) | refine WL.step (Yl.not rfl) rfl ?_ | refine WC.seq ?_ | refine WC.region ?_ | refine WL.nil ?_ | refine WN.then_normal ?_ | refine WC.skip ?_))
      refine WC.cond_true rfl rfl ?_
      (repeat (first | refine WC.seq ?_))
      refine WC.regionH [.blk b1 (.cells (ndl x p).toArray 32 (0, 0))] (by kernel_rfl) ?_
      (refine WH.order [0, 1, 2, 3, 4, 5, 6, 7, 8, 9, 10, 11, 12, 13, 14, 15, 16, 17] (by repeat (first | exact Part.nil | refine Part.cons (by repeat (first | exact Pick.here | apply Pick.there)) ?_ | refine Part.free ?_)) (by kernel_rfl) ?_; (repeat (first | (refine WT.k_load rfl ?_; (refine WT.kn rfl ?_; first | refine WT.take rfl rfl (fun _ _ _ h => h) (Yl.loadBlk (T := 29) Try.isAgg29 rfl (by repeat (first | exact .head _ | refine .tail _ ?_)) (by rfl)) rfl (by kernel_rfl) (by kernel_rfl) ?_ | refine WT.take rfl rfl (fun _ _ _ h => h) (Yl.loadBlk (T := 24) Try.isAgg24 rfl (by repeat (first | exact .head _ | refine .tail _ ?_)) (by rfl)) rfl (by kernel_rfl) (by kernel_rfl) ?_ | refine WT.take rfl rfl (fun _ _ _ h => h) (Yl.loadEl (kv (Nod.key x.ks 6)) Try.isAgg45 Try.sizeOf45 rfl (.old h.ks) (kv_len hkw) (kv_ne _) (kcells_at hx.ks hix)) rfl (by kernel_rfl) (by kernel_rfl) ?_)) | (refine WT.k_fld rfl ?_; (refine WT.kn rfl ?_; refine WT.take rfl rfl (fun _ _ _ h => h) (Yl.fld0 (t := 32) Try.underlying32 fl32 rfl rfl) rfl (by kernel_rfl) (by kernel_rfl) ?_)) | (refine WT.k_slice rfl ?_; (refine WT.kn rfl ?_; first | refine WT.take rfl rfl (fun _ _ _ h => h) (Yl.cutTo (t := 29) (hi := 6) Try.underlying29 Try.sizeOf45 rfl rfl (by omega)) rfl (by kernel_rfl) (by kernel_rfl) ?_ | refine WT.take rfl rfl (fun _ _ _ h => h) (Yl.cutTo (t := 24) (hi := 7) Try.underlying24 Try.sizeOf3 rfl rfl (by omega)) rfl (by kernel_rfl) (by kernel_rfl) ?_ | refine WT.take rfl rfl (fun _ _ _ h => h) (Yl.cutFrom (t := 29) (lo := 7) Try.underlying29 Try.sizeOf45 rfl rfl (by omega)) rfl (by kernel_rfl) (by kernel_rfl) ?_ | refine WT.take rfl rfl (fun _ _ _ h => h) (Yl.cutFrom (t := 24) (lo := 7) Try.underlying24 Try.sizeOf3 rfl rfl (by omega)) rfl (by kernel_rfl) (by kernel_rfl) ?_)) | (refine WT.k_build rfl ?_; (refine WT.kn rfl ?_; first | refine WT.take rfl rfl (fun _ _ _ h => h) (Yl.build (ps := [(1, .tmp 39), (3, .tmp 42)]) rfl (buildRKC _ _ _ _ _ _)) rfl (by kernel_rfl) (by kernel_rfl) ?_ | refine WT.take rfl rfl (fun _ _ _ h => h) (Yl.build (ps := [(1, .tmp 50), (3, .tmp 53)]) rfl (buildRKC _ _ _ _ _ _)) rfl (by kernel_rfl) (by kernel_rfl) ?_)) | (refine WT.k_idxa rfl ?_; (refine WT.kn rfl ?_; refine WT.take rfl rfl (fun _ _ _ h => h) (Yl.indexAddr (t := 29) (j := 6) Try.underlying29 Try.sizeOf45 rfl rfl (.old h.ks) (kcells_ne hix) (by omega)) rfl (by kernel_rfl) (by kernel_rfl) ?_)))); refine WT.nil ?_)
      refine WH.only (i := 18) (by kernel_rfl) rfl ?_
      refine WL.storeWhole (T := 32) (k := 4) Try.sizeOf32 rfl rfl rfl (by repeat (first | exact Pick.here | apply Pick.there)) rfl rfl ?_
      refine WL.nil (WN.nextH (by repeat (first | exact Part.nil | refine Part.cons (by repeat (first | exact Pick.here | apply Pick.there)) ?_ | refine Part.free ?_)) ?_)
      refine WH.only (i := 19) (by kernel_rfl) rfl ?_
      refine WL.storeWhole (k := 33) (us := (kv (Nod.key x.ks 6)).toArray) Try.sizeOf45 rfl rfl (kv_all _) (by repeat (first | exact Pick.here | apply Pick.there)) hks rfl ?_
      refine WL.nil (WN.nextH (by repeat (first | exact Part.nil | refine Part.cons (by repeat (first | exact Pick.here | apply Pick.there)) ?_ | refine Part.free ?_)) ?_)
      refine WH.only (i := 20) (by kernel_rfl) rfl ?_
      refine WL.storeWhole (T := 32) (k := 4) Try.sizeOf32 rfl rfl rfl (by repeat (first | exact Pick.here | apply Pick.there)) rfl rfl ?_
      refine WL.nil (WN.nextH (by repeat (first | exact Part.nil | refine Part.cons (by repeat (first | exact Pick.here | apply Pick.there)) ?_ | refine Part.free ?_)) ?_)
      (refine WH.order [21] (by repeat (first | exact Part.nil | refine Part.cons (by repeat (first | exact Pick.here | apply Pick.there)) ?_ | refine Part.free ?_)) (by kernel_rfl) ?_; (repeat (first | (refine WT.k_assign rfl ?_; (refine WT.kn rfl ?_; refine WT.take rfl rfl (fun _ _ _ h => h) (Yl.assign rfl) rfl (by kernel_rfl) (by kernel_rfl) ?_)))); refine WT.nil ?_)
      refine WH.done (by kernel_rfl) ?_
      (repeat (first | refine WN.then_normal ?_ | refine WC.ret ?_ | refine WN.then_ret ?_))
      exact WN.ret4C rfl Try.isAgg32 Try.sizeOf32 Try.isAgg45 Try.sizeOf45 Try.isAgg32 Try.sizeOf32 rfl rfl rfl rfl (by repeat (first | exact .head _ | refine .tail _ ?_)) (by repeat (first | exact .head _ | refine .tail _ ?_)) (by repeat (first | exact .head _ | refine .tail _ ?_)) rfl hks rfl
        ⟨rfl, (⟨cutA p.ka 0 p.kc 33, p.kc, none, 0, cutA p.ca 0 p.cc 1, p.cc⟩ : Pl), (⟨cutA p.ka 7 p.kc 33, p.kc - 7, none, 0, cutA p.ca 7 p.cc 1, p.cc - 7⟩ : Pl), fun w h => ⟨cells_k h hx 0 _, .nil _ _, cells_i h 0 _, by rw [k1]; show _ ≤ p.kc; omega, Nat.le_refl _, by rw [y1]; show _ ≤ p.cc; omega⟩, fun w h => ⟨cells_k h hx 7 _, .nil _ _, cells_i h 7 _, by rw [k2]; show _ ≤ p.kc - 7; omega, Nat.le_refl _, by rw [y2]; show _ ≤ p.cc - 7; omega⟩, by simp only [SpV, ndv, ndl, k1, k2, y1, y2, hlen, hyl]; rfl⟩ .nil
    · have hF : ¬ Nod.Full x := fun q => h1 ⟨by have := q.2; rw [hl] at this; exact this, q.1⟩
      rw [decide_eq_false h1] at hform
      rw [sp_not hF]
      (repeat (first | refine WL.pass rfl rfl rfl rfl ?_ | refine WL.step (Yl.move rfl) rfl ?_ | refine WL.step (Yl.assign rfl) rfl ?_ | (refine WL.k_load ?_; refine WL.step (Yl.loadBlk (T := 4) (v := .bool false) Try.isAgg4 rfl (by repeat (first | exact .head _ | refine .tail _ ?_)) (by show some (Value.bool x.leaf) = _; rw [hl])) rfl ?_) | refine WL.step (Yl.fld0 (t := 32) Try.underlying32 fl32 rfl rfl) rfl ?_ | refine WL.step (Yl.pick_f rfl rfl rfl) rfl ?_ | refine WC.seq ?_ | refine WC.region ?_ | refine WL.nil ?_ | refine WN.then_normal ?_))
      refine WC.cond_false rfl rfl ?_
      (repeat (first | refine WL.want rfl rfl rfl ?_ | refine WL.step (Yl.move rfl) rfl ?_ | (refine WL.k_load ?_; first | refine WL.step (Yl.loadBlk (T := 4) (v := .bool false) Try.isAgg4 rfl (by repeat (first | exact .head _ | refine .tail _ ?_)) (by show some (Value.bool x.leaf) = _; rw [hl])) rfl ?_ | refine WL.step (Yl.loadAll (T := 32) (T' := 32) Try.isAgg32 Try.sizeOf32 rfl (by repeat (first | exact .head _ | refine .tail _ ?_)) rfl) rfl ?_) | refine WL.step (Yl.fld0 (t := 32) Try.underlying32 fl32 rfl rfl) rfl ?_ | refine WL.step (Yl.pick_t rfl rfl rfl) rfl ?_ | (refine WL.k_call 38 ?_; refine WL.callV (g := 38) Try.call38 rfl (fun w s => hform w ((NdAt.old h).at_ s)) rfl ?_) | refine WL.step (Yl.not rfl) rfl ?_ | refine WC.seq ?_ | refine WC.region ?_ | refine WL.nil ?_ | refine WN.then_normal ?_ | refine WC.skip ?_))
      refine WC.cond_false rfl rfl ?_
      (repeat (first | (refine WL.k_build ?_; first | refine WL.step (Yl.build (ps := []) rfl buildRZ) rfl ?_ | refine WL.step (Yl.build (ps := []) rfl buildRKZ) rfl ?_) | refine WC.seq ?_ | refine WC.region ?_ | refine WN.then_normal ?_ | refine WC.skip ?_))
      refine WL.storeWhole (T := 32) (k := 4) (us := (ndl Nod.zero pz).toArray) Try.sizeOf32 rfl rfl rfl (by repeat (first | exact Pick.here | apply Pick.there)) rfl rfl ?_
      refine WL.storeWhole (T := 45) (k := 33) (us := (kv zkey).toArray) Try.sizeOf45 rfl rfl (kv_all _) (by repeat (first | exact Pick.here | apply Pick.there)) rfl rfl ?_
      refine WL.storeWhole (T := 32) (k := 4) (us := (ndl Nod.zero pz).toArray) Try.sizeOf32 rfl rfl rfl (by repeat (first | exact Pick.here | apply Pick.there)) rfl rfl ?_
      (repeat (first | refine WL.step (Yl.assign rfl) rfl ?_ | refine WL.nil ?_ | refine WN.then_normal ?_ | refine WC.ret ?_))
      exact WN.ret4C rfl Try.isAgg32 Try.sizeOf32 Try.isAgg45 Try.sizeOf45 Try.isAgg32 Try.sizeOf32 rfl rfl rfl rfl (by repeat (first | exact .head _ | refine .tail _ ?_)) (by repeat (first | exact .head _ | refine .tail _ ?_)) (by repeat (first | exact .head _ | refine .tail _ ?_)) rfl rfl rfl ⟨rfl, pz, pz, fun w _ => zero_at w, fun w _ => zero_at w, rfl⟩ .nil
end Go.Proofs.Ytbfhdggfdhlkfaa
