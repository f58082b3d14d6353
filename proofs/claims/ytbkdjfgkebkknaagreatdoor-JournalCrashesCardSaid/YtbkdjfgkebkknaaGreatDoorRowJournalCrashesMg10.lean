import Derived.Test.YtbkdjfgkebkknaaGreatDoorRowJournalCrashesMg9
import Derived.Test.YtbkdjfgkebkknaaGreatDoorRowJournalCrashesMg3
import Derived.Test.YtbkdjfgkebkknaaGreatDoorRowJournalCrashesMg4
import Derived.Test.YtbkdjfgkebkknaaGreatDoorRowJournalCrashesMg7
import Derived.Lib.MakeNoZero
import Derived.Laws.Externs
import Derived.KernelRfl
namespace Go.Proofs.YtbkdjfgkebkknaaGreatDoor
set_option linter.unusedVariables false
set_option linter.unusedSimpArgs false
open Go Go.RowKit
set_option maxRecDepth 100000
set_option maxHeartbeats 8000000
section
variable {P : Program} {fn : Func} {R : Value → List HA → Prop} {ρ : Env} {A B : List HA} {n : Nat} {w0 : World} {S : List Nat} {v : Value}
theorem WN.ret2S {t t2 : Tmp} {v2 : Value} (hr : fn.results = #[.tmp t, .tmp t2]) (hv : lk ρ t = some v) (hv2 : lk ρ t2 = some v2) (hR : R (.tuple #[v, v2]) B) (hp : Part A B) : WN ⟨P, n, w0, S⟩ (bodyPost P fn (GivesS S R w0)) .ret ρ A :=
  fun a w f s => bodyPost_ret (results_tmp2 hr _ _ _) f.defers (by rw [f.get t v hv, f.get t2 v2 hv2]; exact ⟨_, B, rfl, hR, s.part hp⟩)
end
theorem perm53 (x y z : HA) (L : List HA) : (z :: y :: x :: L).Perm (L ++ [x, y, z]) := by
  classical
  rw [List.perm_iff_count]; intro u; simp only [List.count_append, List.count_cons, List.count_nil]; omega
theorem permAr (x q1 q2 b : HA) (L R : List HA) : (x :: q1 :: q2 :: b :: (L ++ R)).Perm ((x :: L) ++ (q1 :: q2 :: b :: R)) := by
  classical
  rw [List.perm_iff_count]; intro u; simp only [List.count_append, List.count_cons]; omega
theorem partAr (q1 q2 b : HA) (R : List HA) : ∀ L : List HA, Part (q1 :: q2 :: b :: (L ++ R)) (L ++ [q1, q2])
  | [] => .cons .here (.cons .here .nil)
  | _ :: L => .cons (.there (.there (.there .here))) (partAr q1 q2 b R L)
def DrdV (p : DP) (v : DV) (r : List UInt8 × Nat) : Value → List HA → Prop := fun u B => ∃ a c, r.1.length ≤ c ∧ u = .tuple #[.slice a r.1.length c, .int .i64 (r.2 : Int)] ∧ ∃ s : DS, s.Ok p ∧ s.v = v ∧ B = .row a c 151 1 (bs r.1) :: drI p s
def DV.read (v : DV) (sec : Int) : DV × (List UInt8 × Nat) := if v.down then (v, ([], 11)) else ((if (readR v.d v.F sec).2 = 0 then { v with rd := v.rd + 1 } else v), readR v.d v.F sec)
def DV.arm (v : DV) (n : Int) (K : List Int) : DV × Nat := if planOk n K then ((if n = 0 then (if v.down then { v with pl := none } else v.crash K) else { v with pl := some (n.toNat, K) }), 0) else (v, 2)
def DNewV (n : Nat) : Value → List HA → Prop := fun u B => ∃ p s, DS.Ok s p ∧ s.v = ⟨List.replicate n zblk, fun _ => none, false, none, 0, 0⟩ ∧ u = .tuple #[bptr p.bd, .int .i64 0] ∧ B = drI p s
theorem readR_code (d : List (List UInt8)) (F : Nat → Option (List UInt8)) (s : Int) : (readR d F s).2 = 0 ∨ (readR d F s).2 = 3 := by
  unfold readR; split <;> simp
theorem buildBk (a : Option Addr) (w : World) : (Instr.build 72 [(0, .pointer a)].toArray).run Tryz.prog w = .ok (.agg #[.pointer a]) w := by
  simp [Instr.build, Tryz.zeroValue72, run_underlying Tryz.underlying72, Tryz.sizeOf70, Value.cells, Instr.fill]
theorem buildDr (b : Value) (hb : b.oneCell' = true) (w : World) : (Instr.build 75 [(0, .agg #[b])].toArray).run Tryz.prog w = .ok (.agg #[b, .bool false, .pointer none, .int .i64 0, .int .i64 0]) w := by
  simp [Instr.build, Tryz.zeroValue75, run_underlying Tryz.underlying75, Tryz.sizeOf72, Tryz.sizeOf4, Tryz.sizeOf73, Tryz.sizeOf2, Value.cells, Instr.fill]
attribute [local irreducible] WL WC WN Yl WH WQ WT WE WU WG WV
section
variable {p : DP} {S : List Nat}
theorem dwrite_k (sec : Int) (a : Option Addr) (n c2 : Nat) (x : List UInt8) (s : DS) (w : World) (ok : s.Ok p) (hops : s.ops < 4611686018427387904) (hl : x.length = n) (hr : CellsOut w S a (bs x)) (st : St w S (drI p s) w) :
    Calls Tryz.prog 38 #[bptr p.bd, .int .i64 sec, .slice a n c2] w (GivesS S (DrK p s.pl (s.v.write sec x).1 (s.v.write sec x).2) w) := by
  refine enterS (args := [.pointer (some ⟨p.bd, 0, none⟩), _, _]) Tryz.func38 Tryz.ntmps38 rfl rfl st ?_
  (repeat (first | refine WC.seq ?_ | refine WC.region ?_))
  refine WL.box rfl rfl fun b3 => ?_
  refine WL.box rfl rfl fun b4 => ?_
  refine WL.box rfl rfl fun b5 => ?_
  rw [show (Value.pointer (some ⟨p.bd, 0, none⟩)).cells = #[bptr p.bd] from rfl, show (Value.int .i64 sec).cells = #[.int .i64 sec] from rfl, show (Value.slice a n c2).cells = #[.slice a n c2] from rfl]
  (repeat (first | refine WL.step (Yl.move rfl) rfl ?_ | refine WL.step (Yl.assign rfl) rfl ?_ | (refine WL.k_load ?_; refine WL.step (Yl.loadBlk (T := 26) Tryz.isAgg26 rfl (by repeat (first | exact .head _ | refine .tail _ ?_)) (by rfl)) rfl ?_) | refine WL.callV (g := 87) (v := .int .i64 (if s.down then 11 else 0)) Tryz.call87 rfl (fun w0 st2 => dcheck_c w0 (ok.at_ st2 (fun x hx => .tail _ (.tail _ (.tail _ (hx)))))) rfl ?_ | refine WL.step (Yl.neq rfl rfl) rfl ?_ | refine WC.seq ?_ | refine WC.region ?_ | refine WL.nil ?_ | refine WN.then_normal ?_))
  cases e : s.down with
  | true =>
    rw [if_pos rfl]
    skip
    refine WC.cond_true rfl rfl ?_
    (repeat (first | refine WL.step (Yl.move rfl) rfl ?_ | refine WL.step (Yl.assign rfl) rfl ?_ | refine WC.seq ?_ | refine WC.region ?_ | refine WL.nil ?_ | refine WN.then_normal ?_ | refine WC.ret ?_ | refine WN.then_ret ?_))
    have hv : s.v.write sec x = (s.v, 11) := by rw [DV.write, if_pos (show s.v.down = true from e)]
    rw [hv]
    exact WN.ret1S rfl rfl ⟨rfl, s, ok, rfl, PlSub.refl _, rfl⟩ (.more (.more (.more (Part.refl _))))
  | false =>
    rw [if_neg (by decide)]
    skip
    refine WC.cond_false rfl rfl ?_
    (repeat (first | (refine WL.k_load ?_; refine WL.step (Yl.loadBlk (T := 26) Tryz.isAgg26 rfl (by repeat (first | exact .head _ | refine .tail _ ?_)) (by rfl)) rfl ?_) | refine WL.step (Yl.capFunc rfl) rfl ?_ | refine WC.seq ?_ | refine WC.region ?_ | refine WN.then_normal ?_ | refine WC.skip ?_))
    refine WL.callS (g := 88) (A0 := drI p s ++ [.blk b3 (.cells #[bptr p.bd] 26 (0, 0)), .blk b4 (.cells #[.int .i64 sec] 3 (0, 0)), .blk b5 (.cells #[.slice a n c2] 23 (0, 0))]) (B := []) Tryz.call88 rfl (by rw [List.append_nil]; exact perm53 _ _ _ _) (fun w0 st2 s1 => dopw_r b3 b4 b5 sec a n c2 x s w0 e ok hops hl (old_out st2 (by rw [List.append_nil]; exact perm53 _ _ _ _) hr) s1) rfl fun v C hv => ?_
    obtain ⟨rfl, t, tok, htv, hps, rfl⟩ := hv
    (repeat (first | refine WL.step (Yl.assign rfl) rfl ?_ | refine WL.nil ?_ | refine WN.then_normal ?_ | refine WC.ret ?_))
    refine WN.ret1S rfl rfl ⟨rfl, t, tok, htv, hps, rfl⟩ ?_
    rw [List.append_nil]; exact Part.refl _
theorem dsync_r (s : DS) (w : World) (ok : s.Ok p) (hops : s.ops < 4611686018427387904) (st : St w S (drI p s) w) :
    Calls Tryz.prog 39 #[bptr p.bd] w (GivesS S (DrV p s.v.sync.1 s.v.sync.2) w) := by
  refine enterS (args := [.pointer (some ⟨p.bd, 0, none⟩)]) Tryz.func39 Tryz.ntmps39 rfl rfl st ?_
  (repeat (first | refine WL.step (Yl.move rfl) rfl ?_ | refine WL.step (Yl.assign rfl) rfl ?_ | refine WL.callV (g := 87) (v := .int .i64 (if s.down then 11 else 0)) Tryz.call87 rfl (fun w0 st2 => dcheck_c w0 (ok.at_ st2 (fun x hx => hx))) rfl ?_ | refine WL.step (Yl.neq rfl rfl) rfl ?_ | refine WC.seq ?_ | refine WC.region ?_ | refine WL.nil ?_ | refine WN.then_normal ?_))
  cases e : s.down with
  | true =>
    rw [if_pos rfl]
    skip
    refine WC.cond_true rfl rfl ?_
    (repeat (first | refine WL.step (Yl.move rfl) rfl ?_ | refine WL.step (Yl.assign rfl) rfl ?_ | refine WC.seq ?_ | refine WC.region ?_ | refine WL.nil ?_ | refine WN.then_normal ?_ | refine WC.ret ?_ | refine WN.then_ret ?_))
    have hv : s.v.sync = (s.v, 11) := by rw [DV.sync, if_pos (show s.v.down = true from e)]
    rw [hv]
    exact WN.ret1S rfl rfl ⟨rfl, s, ok, rfl, rfl⟩ (Part.refl _)
  | false =>
    rw [if_neg (by decide)]
    skip
    refine WC.cond_false rfl rfl ?_
    have hbk : HA.blk p.bd (drO p s) ∈ drI p s := .head _
    (repeat (first | refine WL.step (Yl.move rfl) rfl ?_ | (refine WL.k_load ?_; refine WL.step (Yl.loadBlk (T := 70) Tryz.isAgg70 rfl hbk (by rfl)) rfl ?_) | (refine WL.k_fld ?_; refine WL.step (Yl.fldN0 (i := 0) (o := 0) (by kernel_rfl) rfl) rfl ?_) | refine WL.step (Yl.nilCheck rfl) rfl ?_ | refine WL.step (Yl.bindFunc rfl) rfl ?_ | refine WC.seq ?_ | refine WC.region ?_ | refine WN.then_normal ?_ | refine WC.skip ?_))
    refine WL.callS (g := 88) (A0 := drI p s) (B := []) Tryz.call88 rfl (by rw [List.append_nil]) (fun w0 st2 s1 => dops_r s w0 e ok hops s1) rfl fun v C hv => ?_
    obtain ⟨rfl, t, tok, htv, rfl⟩ := hv
    (repeat (first | refine WL.step (Yl.assign rfl) rfl ?_ | refine WL.nil ?_ | refine WN.then_normal ?_ | refine WC.ret ?_))
    refine WN.ret1S rfl rfl ⟨rfl, t, tok, htv, rfl⟩ ?_
    rw [List.append_nil]; exact Part.refl _
theorem dread_r (sec : Int) (s : DS) (w : World) (ok : s.Ok p) (hrd : s.rd < 4611686018427387904) (st : St w S (drI p s) w) :
    Calls Tryz.prog 37 #[bptr p.bd, .int .i64 sec] w (GivesS S (DrdV p (s.v.read sec).1 (s.v.read sec).2) w) := by
  refine enterS (args := [.pointer (some ⟨p.bd, 0, none⟩), _]) Tryz.func37 Tryz.ntmps37 rfl rfl st ?_
  (repeat (first | refine WL.step (Yl.move rfl) rfl ?_ | refine WL.step (Yl.assign rfl) rfl ?_ | refine WL.callV (g := 87) (v := .int .i64 (if s.down then 11 else 0)) Tryz.call87 rfl (fun w0 st2 => dcheck_c w0 (ok.at_ st2 (fun x hx => hx))) rfl ?_ | refine WL.step (Yl.neq rfl rfl) rfl ?_ | refine WC.seq ?_ | refine WC.region ?_ | refine WL.nil ?_ | refine WN.then_normal ?_))
  cases e : s.down with
  | true =>
    rw [if_pos rfl]
    skip
    refine WC.cond_true rfl rfl ?_
    (repeat (first | refine WL.step (Yl.move rfl) rfl ?_ | refine WL.step (Yl.assign rfl) rfl ?_ | refine WC.seq ?_ | refine WC.region ?_ | refine WL.nil ?_ | refine WN.then_normal ?_ | refine WC.ret ?_ | refine WN.then_ret ?_))
    have hv : s.v.read sec = (s.v, ([], 11)) := by rw [DV.read, if_pos (show s.v.down = true from e)]
    rw [hv]
    exact WN.ret2S rfl rfl rfl ⟨none, 0, Nat.le_refl _, rfl, s, ok, rfl, rfl⟩ (.free (Part.refl _))
  | false =>
    have hv : s.v.read sec = ((if (readR s.d s.F sec).2 = 0 then { s.v with rd := s.rd + 1 } else s.v), readR s.d s.F sec) := by rw [DV.read, if_neg (by rw [show s.v.down = false from e]; decide)]; rfl
    rw [hv]
    rw [if_neg (show ¬ (false = true) by decide)]
    skip
    refine WC.cond_false rfl rfl ?_
    have hbk : HA.blk p.bd (drO p s) ∈ drI p s := .head _
    (repeat (first | refine WL.step (Yl.move rfl) rfl ?_ | (refine WL.k_load ?_; refine WL.step (Yl.loadBlk (T := 70) Tryz.isAgg70 rfl hbk (by rfl)) rfl ?_) | (refine WL.k_fld ?_; refine WL.step (Yl.fldN0 (i := 0) (o := 0) (by kernel_rfl) rfl) rfl ?_) | refine WL.step (Yl.nilCheck rfl) rfl ?_ | refine WC.seq ?_ | refine WC.region ?_ | refine WN.then_normal ?_ | refine WC.skip ?_))
    refine WL.call (g := 46) Tryz.call46 rfl (fun w0 st2 => bread_c sec w0 (ok.at_ st2 (fun x hx => hx)).bank) rfl fun v B hv => ?_
    obtain ⟨a', c', hc', rfl, rfl⟩ := hv
    rcases readR_code s.d s.F sec with h | h
    · rw [h, if_pos rfl]
      (repeat (first | refine WL.step (Yl.move rfl) rfl ?_ | refine WL.step (Yl.assign rfl) rfl ?_ | refine WL.step (Yl.extract rfl rfl) rfl ?_ | refine WL.step (Yl.eqlT rfl rfl rfl) rfl ?_ | refine WC.seq ?_ | refine WC.region ?_ | refine WL.nil ?_ | refine WN.then_normal ?_))
      refine WC.cond_true rfl rfl ?_
      simp only [drI, drO, plv, List.cons_append, List.nil_append]
      (repeat (first | refine WL.step (Yl.move rfl) rfl ?_ | (refine WL.k_load ?_; refine WL.step (Yl.loadBlk (T := 2) Tryz.isAgg2 rfl (by repeat (first | exact .head _ | refine .tail _ ?_)) (by rfl)) rfl ?_) | (refine WL.k_fld ?_; refine WL.step (Yl.fldN0 (i := 4) (o := 4) (by kernel_rfl) rfl) rfl ?_) | refine WL.step (Yl.nilCheck rfl) rfl ?_ | (refine WL.k_bin .add ?_; refine WL.step (Yl.add64C rfl (by omega)) rfl ?_) | refine WC.region ?_))
      refine WL.storeAt (T := 2) Tryz.sizeOf2 rfl rfl rfl (.there .here) rfl ?_
      (repeat (first | refine WL.step (Yl.move rfl) rfl ?_ | refine WL.step (Yl.assign rfl) rfl ?_ | refine WC.seq ?_ | refine WC.region ?_ | refine WL.nil ?_ | refine WN.then_normal ?_ | refine WC.ret ?_))
      refine WN.ret2S rfl rfl rfl ⟨a', c', hc', by rw [h]; rfl, ⟨s.d, s.F, s.M, s.c, s.down, s.pl, s.ops, s.rd + 1⟩, ⟨ok.wf, ok.cap, ok.m, ok.pl⟩, rfl, rfl⟩ ?_
      simp only [drI, drO]
      exact .cons (.there .here) (.cons .here (Part.refl _))
    · rw [h, if_neg (show ¬ (3 = 0) by decide)]
      (repeat (first | refine WL.step (Yl.move rfl) rfl ?_ | refine WL.step (Yl.assign rfl) rfl ?_ | refine WL.step (Yl.extract rfl rfl) rfl ?_ | (refine WL.k_bin .eql ?_; refine WL.step (Yl.eqlF rfl rfl (by decide)) rfl ?_) | refine WC.seq ?_ | refine WC.region ?_ | refine WL.nil ?_ | refine WN.then_normal ?_))
      refine WC.cond_false rfl rfl ?_
      (repeat (first | refine WL.step (Yl.move rfl) rfl ?_ | refine WL.step (Yl.assign rfl) rfl ?_ | refine WC.seq ?_ | refine WC.region ?_ | refine WL.nil ?_ | refine WN.then_normal ?_ | refine WC.skip ?_ | refine WC.ret ?_))
      exact WN.ret2S rfl rfl rfl ⟨a', c', hc', by rw [h]; rfl, s, ok, rfl, rfl⟩ (Part.refl _)
theorem drestart_r (s : DS) (w : World) (ok : s.Ok p) (st : St w S (drI p s) w) : Calls Tryz.prog 29 #[bptr p.bd] w (GivesS S (DrV p { s.v with down := false } 0) w) := by
  refine enterS (args := [.pointer (some ⟨p.bd, 0, none⟩)]) Tryz.func29 Tryz.ntmps29 rfl rfl st ?_
  (repeat (first | refine WL.step (Yl.move rfl) rfl ?_ | refine WL.step (Yl.assign rfl) rfl ?_ | refine WL.callV (g := 67) (v := .bool true) Tryz.call67 rfl (fun w0 st2 => dmade_c w0 (ok.at_ st2 (fun x hx => hx))) rfl ?_ | refine WL.step (Yl.not rfl) rfl ?_ | refine WC.seq ?_ | refine WC.region ?_ | refine WL.nil ?_ | refine WN.then_normal ?_))
  refine WC.cond_false rfl rfl ?_
  simp only [drI, drO, plv, List.cons_append, List.nil_append]
  (repeat (first | refine WL.step (Yl.move rfl) rfl ?_ | (refine WL.k_fld ?_; refine WL.step (Yl.fldN0 (i := 1) (o := 1) (by kernel_rfl) rfl) rfl ?_) | refine WL.step (Yl.nilCheck rfl) rfl ?_ | refine WC.seq ?_ | refine WC.region ?_ | refine WN.then_normal ?_ | refine WC.skip ?_))
  refine WL.storeAt (T := 4) Tryz.sizeOf4 rfl rfl rfl .here rfl ?_
  (repeat (first | refine WL.step (Yl.assign rfl) rfl ?_ | refine WC.seq ?_ | refine WC.region ?_ | refine WL.nil ?_ | refine WN.then_normal ?_ | refine WC.ret ?_))
  refine WN.ret1S rfl rfl ⟨rfl, ⟨s.d, s.F, s.M, s.c, false, s.pl, s.ops, s.rd⟩, ⟨ok.wf, ok.cap, ok.m, ok.pl⟩, rfl, rfl⟩ ?_
  simp only [drI, drO]
  exact Part.refl _
theorem dnew_c (n : Nat) (w : World) (h1 : 1 ≤ n) (h2 : n ≤ 4096) : Calls Tryz.prog 11 #[.int .i64 (n : Int)] w (Gives (DNewV n) w) := by
  refine enter (args := [_]) Tryz.func11 Tryz.ntmps11 rfl rfl ?_
  (repeat (first | refine WL.step (Yl.move rfl) rfl ?_ | refine WL.step (Yl.assign rfl) rfl ?_ | refine WC.seq ?_ | refine WC.region ?_ | refine WL.nil ?_ | refine WN.then_normal ?_))
  refine WL.call (g := 55) Tryz.call55 rfl (fun w0 st => bnew_c n w0 h1 h2) rfl fun v1 B1 hv1 => ?_
  obtain ⟨bk, da, cp, mb, hcap, rfl, rfl⟩ := hv1
  (repeat (first | refine WL.step (Yl.move rfl) rfl ?_ | refine WL.step (Yl.assign rfl) rfl ?_ | refine WL.step (Yl.extract rfl rfl) rfl ?_ | refine WL.step (Yl.neqF rfl rfl rfl) rfl ?_ | refine WC.seq ?_ | refine WC.region ?_ | refine WL.nil ?_ | refine WN.then_normal ?_))
  refine WC.cond_false rfl rfl ?_
  (repeat (first | refine WL.step (Yl.move rfl) rfl ?_ | (refine WL.k_build ?_; first | refine WL.step (Yl.build (ps := [(0, .tmp 14)]) (vs := [(0, bptr bk)]) rfl (buildBk _)) rfl ?_ | refine WL.step (Yl.build (ps := [(0, .tmp 15)]) (vs := [(0, .agg #[bptr bk])]) rfl (buildDr _ rfl)) rfl ?_) | refine WC.seq ?_ | refine WC.region ?_ | refine WN.then_normal ?_ | refine WC.skip ?_))
  refine WL.boxA rfl rfl fun bd => ?_
  (repeat (first | refine WL.step (Yl.assign rfl) rfl ?_ | refine WL.nil ?_ | refine WN.then_normal ?_ | refine WC.ret ?_))
  refine WN.ret2 rfl rfl rfl ⟨⟨bd, bk, da, cp, mb⟩, ⟨List.replicate n zblk, fun _ => none, [], 0, false, none, 0, 0⟩, ⟨new_wf h1 h2, by simp only [List.length_replicate]; exact hcap, MapIs.empty (β := List UInt8) _, fun q hq => by cases hq⟩, rfl, rfl, rfl⟩ ?_
  simp only [drI, drO, plI, plv, List.append_nil]
  exact Part.refl _
theorem darm_r (n : Int) (a : Option Addr) (m c2 : Nat) (K : List Int) (s : DS) (w : World) (ok : s.Ok p) (hl : K.length = m) (hm : m ≤ 9223372036854775807) (hr : CellsOut w S a (zcells K)) (st : St w S (drI p s) w) :
    Calls Tryz.prog 48 #[bptr p.bd, .agg #[.int .i64 n, .slice a m c2]] w (GivesS S (DrV p (s.v.arm n K).1 (s.v.arm n K).2) w) := by
  refine enterS (args := [.pointer (some ⟨p.bd, 0, none⟩), .agg #[.int .i64 n, .slice a m c2]]) Tryz.func48 Tryz.ntmps48 rfl rfl st ?_
  subst hl
  (repeat (first | refine WC.seq ?_ | refine WC.region ?_))
  refine WL.boxA rfl rfl fun b3 => ?_
  (repeat (first | refine WL.step (Yl.move rfl) rfl ?_ | refine WL.step (Yl.assign rfl) rfl ?_ | refine WL.callV (g := 67) (v := .bool true) Tryz.call67 rfl (fun w0 st2 => dmade_c w0 (ok.at_ st2 (fun x hx => .tail _ (hx)))) rfl ?_ | refine WL.step (Yl.not rfl) rfl ?_ | refine WC.seq ?_ | refine WC.region ?_ | refine WL.nil ?_ | refine WN.then_normal ?_))
  refine WC.cond_false rfl rfl ?_
  (repeat (first | (refine WL.k_load ?_; refine WL.step (Yl.loadAll (T := 63) (T' := 63) Tryz.isAgg63 Tryz.sizeOf63 rfl (by repeat (first | exact .head _ | refine .tail _ ?_)) rfl) rfl ?_) | refine WC.seq ?_ | refine WC.region ?_ | refine WN.then_normal ?_ | refine WC.skip ?_))
  refine WL.callV (g := 100) (v := .int .i64 (if planOk n K then 0 else 2)) Tryz.call100 rfl (fun w0 st2 => dchk_c n a K.length c2 K w0 rfl hm (Rd.out (P := Tryz.prog) (n := 0) hr w0 st2)) rfl ?_
  by_cases hp : ¬ planOk n K
  · rw [if_neg hp, show s.v.arm n K = (s.v, 2) by rw [DV.arm, if_neg hp]]
    (repeat (first | refine WL.step (Yl.move rfl) rfl ?_ | refine WL.step (Yl.assign rfl) rfl ?_ | (refine WL.k_bin .neq ?_; refine WL.step (Yl.neqT rfl rfl (by decide)) rfl ?_) | refine WC.seq ?_ | refine WC.region ?_ | refine WL.nil ?_ | refine WN.then_normal ?_))
    refine WC.cond_true rfl rfl ?_
    (repeat (first | refine WL.step (Yl.move rfl) rfl ?_ | refine WL.step (Yl.assign rfl) rfl ?_ | refine WC.seq ?_ | refine WC.region ?_ | refine WL.nil ?_ | refine WN.then_normal ?_ | refine WC.ret ?_ | refine WN.then_ret ?_))
    exact WN.ret1S rfl rfl ⟨rfl, s, ok, rfl, rfl⟩ (.more (Part.refl _))
  have hp := Decidable.not_not.1 hp
  have hk64 := hp.2.2.2.1
  rw [if_pos hp, show s.v.arm n K = ((if n = 0 then (if s.v.down then { s.v with pl := none } else s.v.crash K) else { s.v with pl := some (n.toNat, K) }), 0) by rw [DV.arm, if_pos hp]]
  (repeat (first | refine WL.step (Yl.move rfl) rfl ?_ | refine WL.step (Yl.assign rfl) rfl ?_ | refine WL.step (Yl.neqF rfl rfl rfl) rfl ?_ | refine WC.seq ?_ | refine WC.region ?_ | refine WL.nil ?_ | refine WN.then_normal ?_))
  refine WC.cond_false rfl rfl ?_
  (repeat (first | refine WL.step (Yl.move rfl) rfl ?_ | (refine WL.k_load ?_; refine WL.step (Yl.loadAll (T := 63) (T' := 63) Tryz.isAgg63 Tryz.sizeOf63 rfl (by repeat (first | exact .head _ | refine .tail _ ?_)) rfl) rfl ?_) | refine WC.seq ?_ | refine WC.region ?_ | refine WN.then_normal ?_ | refine WC.skip ?_))
  refine WL.call (g := 68) Tryz.call68 rfl (fun w0 st2 => dclone_c n a K.length c2 K w0 rfl (by omega) (Rd.out (P := Tryz.prog) (n := 0) hr w0 st2)) rfl fun v B hv => ?_
  obtain ⟨qb, qa, qc, rfl, hqc, rfl⟩ := hv
  obtain ⟨LB, hLB⟩ : ∃ L, L = bankItems p.bk p.da p.cap p.mb s.d s.M s.c := ⟨_, rfl⟩
  simp only [drI, drO, plv, List.cons_append, List.nil_append]
  rw [← hLB]
  (repeat (first | (refine WL.k_fld ?_; refine WL.step (Yl.fldN0 (i := 2) (o := 2) (by kernel_rfl) rfl) rfl ?_) | refine WL.step (Yl.nilCheck rfl) rfl ?_))
  refine WL.storeAt (T := 73) Tryz.sizeOf73 rfl rfl rfl (by repeat (first | exact Pick.here | apply Pick.there)) rfl ?_
  by_cases h0 : n = 0
  · subst h0
    rw [if_pos rfl]
    (repeat (first | (refine WL.k_load ?_; refine WL.step (Yl.loadBlk (T := 3) Tryz.isAgg3 rfl (by repeat (first | exact .head _ | refine .tail _ ?_)) (by rfl)) rfl ?_) | (refine WL.k_fld ?_; refine WL.step (Yl.fldN0 (i := 0) (o := 0) (by kernel_rfl) rfl) rfl ?_) | refine WL.step (Yl.eqlT rfl rfl rfl) rfl ?_ | refine WC.seq ?_ | refine WC.region ?_ | refine WL.nil ?_ | refine WN.then_normal ?_))
    refine WC.cond_true rfl rfl ?_
    (repeat (first | refine WL.step (Yl.move rfl) rfl ?_ | (refine WL.k_fld ?_; refine WL.step (Yl.fldN0 (i := 2) (o := 2) (by kernel_rfl) rfl) rfl ?_) | refine WL.step (Yl.nilCheck rfl) rfl ?_ | refine WC.seq ?_ | refine WC.region ?_))
    refine WL.storeAt (T := 73) Tryz.sizeOf73 rfl rfl rfl .here rfl ?_
    (repeat (first | refine WL.step (Yl.move rfl) rfl ?_ | (refine WL.k_load ?_; refine WL.step (Yl.loadBlk (T := 4) Tryz.isAgg4 rfl (by repeat (first | exact .head _ | refine .tail _ ?_)) (by rfl)) rfl ?_) | (refine WL.k_fld ?_; refine WL.step (Yl.fldN0 (i := 1) (o := 1) (by kernel_rfl) rfl) rfl ?_) | refine WL.step (Yl.nilCheck rfl) rfl ?_ | refine WL.step (Yl.not rfl) rfl ?_ | refine WC.seq ?_ | refine WC.region ?_ | refine WL.nil ?_ | refine WN.then_normal ?_))
    cases e : s.down with
    | true =>
      refine WC.cond_false rfl rfl ?_
      (repeat (first | refine WL.step (Yl.assign rfl) rfl ?_ | refine WC.seq ?_ | refine WC.region ?_ | refine WL.nil ?_ | refine WN.then_normal ?_ | refine WC.skip ?_ | refine WC.ret ?_))
      refine WN.ret1S rfl rfl ⟨rfl, ⟨s.d, s.F, s.M, s.c, true, none, s.ops, s.rd⟩, ⟨ok.wf, ok.cap, ok.m, fun q hq => by cases hq⟩, by rw [if_pos (show s.v.down = true from e)]; simp only [DS.v, e, Option.map_none], rfl⟩ ?_
      simp only [drI, drO, plI, plv, List.append_nil]
      subst hLB
      exact .cons .here (.more (.more (.more (by rw [← List.append_nil (bankItems _ _ _ _ _ _ _)]; exact Part.app _ .nil))))
    | false =>
      refine WC.cond_true rfl rfl ?_
      (repeat (first | refine WL.step (Yl.move rfl) rfl ?_ | (refine WL.k_load ?_; refine WL.step (Yl.loadBlk (T := 61) Tryz.isAgg61 rfl (by repeat (first | exact .head _ | refine .tail _ ?_)) (by rfl)) rfl ?_) | (refine WL.k_fld ?_; refine WL.step (Yl.fldN0 (i := 1) (o := 1) (by kernel_rfl) rfl) rfl ?_) | refine WC.region ?_))
      subst hLB
      refine WL.callS (g := 101) (A0 := .blk p.bd (drO p ⟨s.d, s.F, s.M, s.c, false, none, s.ops, s.rd⟩) :: bankItems p.bk p.da p.cap p.mb s.d s.M s.c) (B := .blk qb (.cells #[.int .i64 0, .slice qa K.length qc] 63 (0, 0)) :: .row qa qc 3 1 (zcells K) :: .blk b3 (.cells #[.int .i64 0, .slice a K.length c2] 63 (0, 0)) :: plI s.pl) Tryz.call101 rfl (permAr _ _ _ _ _ _) (fun w0 st2 s1 => dcrash_r ⟨s.d, s.F, s.M, s.c, false, none, s.ops, s.rd⟩ a K.length c2 K w0 ok.wf ok.cap ok.m rfl (by omega) hp.keep (old_out st2 (permAr _ _ _ _ _ _) hr) s1) rfl fun v C hv => ?_
      obtain ⟨rfl, t, ⟨t1, t2, t3, t4, t5, t6, tok⟩, rfl⟩ := hv
      simp only at t1 t2 t5 t6
      (repeat (first | refine WL.step (Yl.assign rfl) rfl ?_ | refine WC.seq ?_ | refine WC.region ?_ | refine WL.nil ?_ | refine WN.then_normal ?_ | refine WC.ret ?_))
      refine WN.ret1S rfl rfl ⟨rfl, t, tok, ?_, rfl⟩ ?_
      · rw [if_neg (by rw [show s.v.down = false from e]; decide)]
        obtain ⟨d9, F9, M9, c9, dn9, pl9, o9, r9⟩ := t
        simp only at t1 t2 t3 t4 t5 t6
        subst t1 t2 t3 t4 t5 t6
        simp [DS.v, DV.crash]
      · rw [drI, t4]
        simp only [plI, List.append_nil]
        exact Part.pre _
  · rw [if_neg h0]
    obtain ⟨k, rfl⟩ := Int.eq_ofNat_of_zero_le hp.1
    (repeat (first | (refine WL.k_load ?_; refine WL.step (Yl.loadBlk (T := 3) Tryz.isAgg3 rfl (by repeat (first | exact .head _ | refine .tail _ ?_)) (by rfl)) rfl ?_) | (refine WL.k_fld ?_; refine WL.step (Yl.fldN0 (i := 0) (o := 0) (by kernel_rfl) rfl) rfl ?_) | (refine WL.k_bin .eql ?_; refine WL.step (Yl.eqlF rfl rfl (by omega)) rfl ?_) | refine WC.seq ?_ | refine WC.region ?_ | refine WL.nil ?_ | refine WN.then_normal ?_))
    refine WC.cond_false rfl rfl ?_
    (repeat (first | refine WL.step (Yl.assign rfl) rfl ?_ | refine WC.seq ?_ | refine WC.region ?_ | refine WL.nil ?_ | refine WN.then_normal ?_ | refine WC.skip ?_ | refine WC.ret ?_))
    refine WN.ret1S rfl rfl ⟨rfl, ⟨s.d, s.F, s.M, s.c, s.down, some ⟨qb, qa, qc, k, K⟩, s.ops, s.rd⟩, ⟨ok.wf, ok.cap, ok.m, fun q hq => by simp only [Option.some.injEq] at hq; subst hq; exact ⟨by simp only; omega, hp, hqc⟩⟩, rfl, rfl⟩ ?_
    simp only [drI, drO, plI, plv, Pl.obj]
    subst hLB
    exact .cons .here (partAr _ _ _ _ _)
end
end Go.Proofs.YtbkdjfgkebkknaaGreatDoor
namespace Go.Proofs.YtbkdjfgkebkknaaGreatDoor
set_option linter.unusedVariables false
set_option linter.unusedSimpArgs false
open Go Go.RowKit
set_option maxRecDepth 100000
set_option maxHeartbeats 8000000
section
variable {X : Cx} {ops : Array Oper} {Q : Exit → Act → World → Prop} {ρ : Env} {A B : List HA} {rest : List Oper} {d : Tmp} {op : Op} {ty : TypeId} {ps : String} {af : Array Edge} {v : Value}
theorem WL.noZero {f : FuncId} {fn : Func} {t e pT : TypeId} {n : Nat} {x : Operand} {ts : Array TypeId} (hf : X.P.funcs[f]? = some fn) (hname : (fn.name == "runtime.NumGoroutine") = false) (hb : fn.body.isNone = true) (hn : Extern.findNext fn = none) (he : Extern.find fn = some (Extern.BytealgMakeNoZero.makeNoZero #[pT] #[t]))
    (hu : X.P.underlying t = some (.slice e)) (hx : ev ρ x = some (.int .i64 (n : Int))) (hn2 : n ≤ 1000000) (hd : Nat.blt d X.n = true)
    (h : ∀ (q : Option Addr × Nat) (vs : List Value), n ≤ q.2 → vs.length = n → WL X ops Q rest ((d, .slice q.1 n q.2) :: ρ) (.row q.1 q.2 e 1 vs :: A)) :
    WL X ops Q (⟨some d, .call { callee := .value (.func f), args := #[x], argTypes := ts }, ty, ps, af, none⟩ :: rest) ρ A :=
  WL.stepE (ι := { q : Nat × Nat × List Value // n ≤ q.2.1 ∧ q.2.2.length = n }) (fun i => .slice (some ⟨i.1.1, 0, none⟩) n i.1.2.1) (fun i => .row (some ⟨i.1.1, 0, none⟩) i.1.2.1 e 1 i.1.2.2 :: A) (fun o ho _ a w f1 s => by
    obtain ⟨cs, hrun, hle, hmax⟩ := Lib.run_makeNoZero (P := X.P) w #[pT] t e hu n (by omega)
    have hl : (cs.toList.take n).length = n := by rw [List.length_take, Array.length_toList]; omega
    have s2 : St X.w0 X.S A w.drew.drew := s.drew.drew
    refine ⟨⟨(w.heap.size, cs.size, cs.toList.take n), hle, hl⟩, w.drew.drew.alloc (.cells cs e), ?_, s2.new (Kept.alloc w.drew.drew _) (.inr ⟨w.heap.size, cs, rfl, ?_, ?_, hmax (by simp only [maxLen]; omega), ?_, ?_⟩) (fun b hb => ?_)⟩
    · have hc := run_callFunc_extern hf hname hb hn he #[.int .i64 (n : Int)] w
      rw [hrun] at hc
      have e1 := f1.ev hx
      simp only [execOp, ho, resolve, Deferred.ofValue, Act.eval, invoke, Sem.run_bind, Sem.run_pure, Result.andThen_ok, List.map_toArray, List.map_cons, List.map_nil]
      simp [Act.eval] at e1 ⊢
      rw [e1, hc]
      rfl
    · show (w.heap.push (.cells cs e))[w.heap.size]? = _; simp
    · simp
    · simp only [hl]; exact hle
    · simp only [hl]
    · simp only [HA.foot] at hb
      split at hb
      · cases hb
      · simp only [Option.map_some, Option.some.injEq] at hb; subst hb; exact Nat.le_refl _) hd (fun i => h (some ⟨i.1.1, 0, none⟩, i.1.2.1) i.1.2.2 i.2.1 i.2.2)
end
theorem rpre {X : Cx} {A : List HA} {a : Option Addr} {k m : Nat} {r : List Value} (b : UInt8) (h : Rd X A a (bs (List.replicate k b) ++ r)) (hm : m ≤ k) : Rd X A a (bs (List.replicate m b)) := by
  have h2 := Rd.cut (lo := 0) (cap := (bs (List.replicate k b) ++ r).length) (k := 1) (m := m) h (by omega)
  rw [cutA_zero, Nat.zero_mul, List.drop_zero, List.take_append_of_le_length (by rw [bs_length, List.length_replicate]; exact hm), ← bs_take, List.take_replicate, Nat.min_eq_left hm] at h2
  exact h2
theorem cutA_el {a : Option Addr} {i c : Nat} (h : c ≠ i) : cutA a i c 1 = el a i := by
  rw [cutA, if_neg h, Nat.mul_one]; rfl
attribute [local irreducible] WL WC WN Yl WH WQ WT WE WU WG WV
end Go.Proofs.YtbkdjfgkebkknaaGreatDoor
namespace Go.Proofs.YtbkdjfgkebkknaaGreatDoor
set_option linter.unusedVariables false
set_option linter.unusedSimpArgs false
open Go Go.RowKit
set_option maxRecDepth 100000
set_option maxHeartbeats 8000000
section
variable {X : Cx} {ops : Array Oper} {Q : Exit → Act → World → Prop} {ρ : Env} {A B : List HA} {rest : List Oper} {d : Tmp} {op : Op} {ty : TypeId} {ps : String} {af : Array Edge} {v : Value}
theorem WL.mid {x : HA} {D Z : List HA} (h : WL X ops Q rest ρ (D ++ x :: Z)) : WL X ops Q rest ρ (x :: (D ++ Z)) := WL.part (Part.perm List.perm_middle.symm) h
theorem WC.mid {c : Code} {x : HA} {D Z : List HA} (h : WC X c Q ρ (D ++ x :: Z)) : WC X c Q ρ (x :: (D ++ Z)) := fun a w f s => h a w f (s.part (Part.perm List.perm_middle.symm))
end
theorem buildPl (n : Int) (a : Option Addr) (m c : Nat) (w : World) : (Instr.build 63 [(0, .int .i64 n), (1, .slice a m c)].toArray).run Tryz.prog w = .ok (.agg #[.int .i64 n, .slice a m c]) w := by
  simp [Instr.build, Tryz.zeroValue63, run_underlying Tryz.underlying63, Tryz.sizeOf3, Tryz.sizeOf61, Value.cells, Instr.fill]
section
variable {p : DP} {S : List Nat} {v : DV} {s : DS}
theorem dsync_v (w : World) (ok : s.Ok p) (hv : s.v = v) (hops : v.ops < 4611686018427387904) (st : St w S (drI p s) w) :
    Calls Tryz.prog 39 #[bptr p.bd] w (GivesS S (DrV p v.sync.1 v.sync.2) w) := by
  subst hv; exact dsync_r s w ok hops st
theorem dread_v (sec : Int) (w : World) (ok : s.Ok p) (hv : s.v = v) (hrd : v.rd < 4611686018427387904) (st : St w S (drI p s) w) :
    Calls Tryz.prog 37 #[bptr p.bd, .int .i64 sec] w (GivesS S (DrdV p (v.read sec).1 (v.read sec).2) w) := by
  subst hv; exact dread_r sec s w ok hrd st
theorem drestart_v (w : World) (ok : s.Ok p) (hv : s.v = v) (st : St w S (drI p s) w) :
    Calls Tryz.prog 29 #[bptr p.bd] w (GivesS S (DrV p { v with down := false } 0) w) := by
  subst hv; exact drestart_r s w ok st
theorem darm_v (n : Int) (a : Option Addr) (m c2 : Nat) (K : List Int) (w : World) (ok : s.Ok p) (hv : s.v = v) (hl : K.length = m) (hm : m ≤ 9223372036854775807) (hr : CellsOut w S a (zcells K)) (st : St w S (drI p s) w) :
    Calls Tryz.prog 48 #[bptr p.bd, .agg #[.int .i64 n, .slice a m c2]] w (GivesS S (DrV p (v.arm n K).1 (v.arm n K).2) w) := by
  subst hv; exact darm_r n a m c2 K s w ok hl hm hr st
theorem ddown_v (w : World) (h : DrAt w p s) (hv : s.v = v) : Calls Tryz.prog 27 #[bptr p.bd] w (Gives (Val (.bool v.down)) w) := by
  subst hv; exact ddown_c w h
end
end Go.Proofs.YtbkdjfgkebkknaaGreatDoor
namespace Go.Proofs.YtbkdjfgkebkknaaGreatDoor.Big
set_option linter.unusedVariables false
set_option linter.unusedSimpArgs false

def len (n : Nat) : Nat := if n = 0 then 0 else Nat.log2 n + 1
theorem len_le {n k : Nat} : len n ≤ k ↔ n < 2 ^ k := by
  unfold len
  split
  · rename_i h; subst h; simp [Nat.two_pow_pos]
  · rename_i h; rw [Nat.succ_le_iff, Nat.log2_lt h]
theorem len_shift {n k : Nat} (h : 2 ^ k ≤ n) : len n = len (n / 2 ^ k) + k := by
  have key : ∀ j, len n ≤ j ↔ len (n / 2 ^ k) + k ≤ j := fun j => by
    rw [len_le]
    by_cases hj : k ≤ j
    · rw [show len (n / 2 ^ k) + k ≤ j ↔ len (n / 2 ^ k) ≤ j - k by omega, len_le, Nat.div_lt_iff_lt_mul (Nat.two_pow_pos k), ← Nat.pow_add, show j - k + k = j by omega]
    · have := Nat.pow_le_pow_right (n := 2) (by decide) (show j ≤ k by omega)
      constructor
      · intro h1; omega
      · intro h1; omega
  have h1 := (key (len n)).1 (Nat.le_refl _)
  have h2 := (key (len (n / 2 ^ k) + k)).2 (Nat.le_refl _)
  omega

def be : Nat → Nat → List UInt8
  | 0, _ => []
  | k + 1, n => UInt8.ofNat (n / 256 ^ k) :: be k n
theorem be_length (k n : Nat) : (be k n).length = k := by
  induction k with
  | zero => rfl
  | succ k ih => simp [be, ih]
theorem be_get (k n i : Nat) (h : i < k) : (be k n).getD i 0 = UInt8.ofNat (n / 256 ^ (k - 1 - i)) := by
  induction k generalizing i with
  | zero => omega
  | succ k ih =>
    cases i with
    | zero => simp [be]
    | succ i =>
      simp only [be, List.getD_cons_succ]
      rw [ih i (by omega)]
      congr 3
      omega
def appended (l : List UInt8) (n : Nat) (width : Int) : Nat × List UInt8 :=
  if width < 1 ∨ 8 < width then (2, []) else if 2 ^ (8 * width.toNat) ≤ n then (14, []) else (0, l ++ be width.toNat n)
def val (x : Nat) (l : List UInt8) : Nat := l.foldl (fun n c => n * 256 + c.toNat) x
def uintAt (l : List UInt8) (at_ width : Int) : Nat × Nat :=
  if width < 1 ∨ 8 < width then (2, 0) else if at_ < 0 then (3, 0) else if (l.length : Int) - width < at_ then (13, 0) else (0, val 0 ((l.drop at_.toNat).take width.toNat))
theorem val_snoc (x : Nat) (l : List UInt8) (c : UInt8) : val x (l ++ [c]) = val x l * 256 + c.toNat := by simp [val]
theorem val_lt (l : List UInt8) : val 0 l < 256 ^ l.length := by
  have : ∀ (x k : Nat), x < 256 ^ k → val x l < 256 ^ (k + l.length) := by
    induction l with
    | nil => intro x k h; simpa [val] using h
    | cons c l ih =>
      intro x k h
      have hc := c.toNat_lt
      have h1 : x * 256 + c.toNat < 256 ^ (k + 1) := by rw [Nat.pow_succ]; omega
      have := ih _ _ h1
      simp only [val, List.foldl_cons, List.length_cons] at this ⊢
      rwa [show k + (l.length + 1) = k + 1 + l.length by omega]
  simpa using this 0 0 (by decide)
theorem or_low {n c k : Nat} (hc : c < 2 ^ k) : (n * 2 ^ k) ||| c = n * 2 ^ k + c := by
  have := Nat.two_pow_add_eq_or_of_lt hc n
  rw [Nat.mul_comm] at this
  exact this.symm

def gsz (n : Nat) : Nat := max 1 ((len n + 6) / 7)
def dig (k n : Nat) : UInt8 := UInt8.ofNat (n / 128 ^ k % 128 + if k = 0 then 0 else 128)
def gr : Nat → Nat → List UInt8
  | 0, _ => []
  | k + 1, n => dig k n :: gr k n
def enc (n : Nat) : List UInt8 := gr (gsz n) n
theorem pow256 (k : Nat) : 256 ^ k = 2 ^ (8 * k) := by rw [show (256 : Nat) = 2 ^ 8 from rfl, ← Nat.pow_mul]
end Go.Proofs.YtbkdjfgkebkknaaGreatDoor.Big
namespace Go.Proofs.YtbkdjfgkebkknaaGreatDoor.Crc
set_option linter.unusedVariables false
set_option linter.unusedSimpArgs false

def step (x : Nat) : Nat := if x % 2 = 1 then (x / 2) ^^^ 0x82F63B78 else x / 2
def steps : Nat → Nat → Nat
  | 0, x => x
  | n + 1, x => steps n (step x)
def feed (x : Nat) (b : UInt8) : Nat := steps 8 (x ^^^ b.toNat)
def feeds (x : Nat) (l : List UInt8) : Nat := l.foldl feed x
def ones : Nat := 4294967295
def update (s : Nat) (l : List UInt8) : Nat := feeds (s ^^^ ones) l ^^^ ones
def sum (l : List UInt8) : Nat := update 0 l
def be4 (n : Nat) : List UInt8 := [UInt8.ofNat (n / 16777216), UInt8.ofNat (n / 65536), UInt8.ofNat (n / 256), UInt8.ofNat n]
def sealed (l : List UInt8) : List UInt8 := l ++ be4 (sum l)

def opened (l : List UInt8) : Nat × List UInt8 :=
  if l.length < 4 then (13, []) else if sealed (l.take (l.length - 4)) = l then (0, l.take (l.length - 4)) else (12, [])
theorem be4_length (n : Nat) : (be4 n).length = 4 := rfl
theorem sealed_length (l : List UInt8) : (sealed l).length = l.length + 4 := by simp [sealed, be4_length]

theorem steps_add (m n x : Nat) : steps (m + n) x = steps n (steps m x) := by
  induction m generalizing x with
  | zero => simp [steps]
  | succ m ih => rw [show m + 1 + n = (m + n) + 1 by omega, steps, ih, steps]

theorem steps_succ (n x : Nat) : steps (n + 1) x = step (steps n x) := by rw [steps_add]; rfl
theorem xor_half (a b : Nat) : (a ^^^ b) / 2 = a / 2 ^^^ b / 2 := by
  have := @Nat.xor_div_two_pow a b 1
  simpa using this
theorem xor_odd (a b : Nat) : (a ^^^ b) % 2 = (a % 2 + b % 2) % 2 := by
  have := @Nat.xor_mod_two_pow a b 1
  rw [show (2 : Nat) ^ 1 = 2 from rfl] at this
  rw [this]
  rcases Nat.mod_two_eq_zero_or_one a with h | h <;> rcases Nat.mod_two_eq_zero_or_one b with k | k <;> rw [h, k] <;> rfl

theorem step_xor (a b : Nat) : step (a ^^^ b) = step a ^^^ step b := by
  unfold step
  rw [xor_half, xor_odd]
  rcases Nat.mod_two_eq_zero_or_one a with h | h <;> rcases Nat.mod_two_eq_zero_or_one b with k | k <;> rw [h, k]
  · simp
  · simp only [Nat.zero_add, Nat.one_mod, Nat.zero_ne_one, if_true, if_false, Nat.xor_assoc]
  · simp only [Nat.add_zero, Nat.one_mod, Nat.zero_ne_one, if_true, if_false]
    rw [Nat.xor_assoc, Nat.xor_assoc, Nat.xor_comm (b / 2)]
  · simp only [show (1 + 1) % 2 = 0 from rfl, Nat.zero_ne_one, if_true, if_false]
    rw [Nat.xor_comm (b / 2), Nat.xor_assoc, ← Nat.xor_assoc 0x82F63B78, Nat.xor_self, Nat.zero_xor]
theorem step_zero : step 0 = 0 := rfl
theorem steps_zero (n : Nat) : steps n 0 = 0 := by
  induction n with
  | zero => rfl
  | succ n ih => rw [steps, step_zero, ih]
theorem steps_xor (n a b : Nat) : steps n (a ^^^ b) = steps n a ^^^ steps n b := by
  induction n generalizing a b with
  | zero => rfl
  | succ n ih => rw [steps, step_xor, ih]; rfl
theorem step_even (x : Nat) : step (2 * x) = x := by
  unfold step
  rw [if_neg (by omega)]; omega
theorem steps_shift (n x : Nat) : steps n (x * 2 ^ n) = x := by
  induction n generalizing x with
  | zero => simp [steps]
  | succ n ih => rw [steps, Nat.pow_succ, ← Nat.mul_assoc, Nat.mul_comm _ 2, step_even, ih]

theorem step_lt {x : Nat} (h : x < 4294967296) : step x < 4294967296 := by
  unfold step
  split
  · exact Nat.xor_lt_two_pow (n := 32) (show x / 2 < 2 ^ 32 by omega) (by decide)
  · omega
theorem steps_lt {x : Nat} (n : Nat) (h : x < 4294967296) : steps n x < 4294967296 := by
  induction n generalizing x with
  | zero => exact h
  | succ n ih => exact ih (step_lt h)
theorem xor_zero_eq {a b : Nat} (h : a ^^^ b = 0) : a = b := by
  have := congrArg (· ^^^ b) h
  simpa [Nat.xor_assoc, Nat.xor_self] using this
theorem step_ne {x : Nat} (h : x < 4294967296) (hx : x ≠ 0) : step x ≠ 0 := by
  unfold step
  split
  · intro e
    have e2 : x / 2 = 0x82F63B78 := xor_zero_eq e
    omega
  · omega
theorem steps_ne {x : Nat} (n : Nat) (h : x < 4294967296) (hx : x ≠ 0) : steps n x ≠ 0 := by
  induction n generalizing x with
  | zero => exact hx
  | succ n ih => exact ih (step_lt h) (step_ne h hx)

theorem byte_lt (b : UInt8) : b.toNat < 256 := b.toNat_lt
theorem xor_byte_lt {x : Nat} (h : x < 4294967296) (b : UInt8) : x ^^^ b.toNat < 4294967296 :=
  Nat.xor_lt_two_pow (n := 32) h (by have := byte_lt b; omega)
theorem feed_lt {x : Nat} (h : x < 4294967296) (b : UInt8) : feed x b < 4294967296 := steps_lt 8 (xor_byte_lt h b)
theorem feeds_lt {x : Nat} (h : x < 4294967296) (l : List UInt8) : feeds x l < 4294967296 := by
  induction l generalizing x with
  | nil => exact h
  | cons b l ih => exact ih (feed_lt h b)
theorem update_lt {s : Nat} (h : s < 4294967296) (l : List UInt8) : update s l < 4294967296 :=
  Nat.xor_lt_two_pow (n := 32) (feeds_lt (Nat.xor_lt_two_pow (n := 32) h (by decide)) l) (by decide)
theorem sum_lt (l : List UInt8) : sum l < 4294967296 := update_lt (by decide) l

theorem feeds_append (x : Nat) (a b : List UInt8) : feeds x (a ++ b) = feeds (feeds x a) b := List.foldl_append
def entry (i : Nat) : Nat := steps 8 i
theorem feed_table {x : Nat} (b : UInt8) : feed x b = entry ((x % 256) ^^^ b.toNat) ^^^ (x / 256) := by
  have hx : x = (x % 256) ^^^ (x / 256 * 2 ^ 8) := by
    have h : x / 256 * 2 ^ 8 ||| x % 256 = x / 256 * 2 ^ 8 + x % 256 := by
      have := Nat.two_pow_add_eq_or_of_lt (i := 8) (b := x % 256) (by omega) (x / 256)
      rw [Nat.mul_comm] at this
      exact this.symm
    have h2 : x % 256 ^^^ x / 256 * 2 ^ 8 = x / 256 * 2 ^ 8 ||| x % 256 := by
      apply Nat.eq_of_testBit_eq
      intro i
      rw [Nat.testBit_xor, Nat.testBit_or, Nat.testBit_mul_two_pow, show (256 : Nat) = 2 ^ 8 from rfl, Nat.testBit_mod_two_pow]
      by_cases hi : i < 8
      · simp [hi, show ¬ 8 ≤ i by omega]
      · simp [hi]
    rw [h2, h]; omega
  unfold feed entry
  conv => lhs; rw [hx]
  rw [Nat.xor_assoc, Nat.xor_comm (x / 256 * 2 ^ 8), ← Nat.xor_assoc, steps_xor, steps_shift]

theorem toNat_xor (a b : UInt8) : (a ^^^ b).toNat = a.toNat ^^^ b.toNat := UInt8.toNat_xor a b
def le : List UInt8 → Nat
  | [] => 0
  | b :: l => b.toNat + 256 * le l
theorem le_lt (l : List UInt8) : le l < 2 ^ (8 * l.length) := by
  induction l with
  | nil => simp [le]
  | cons b l ih =>
    simp only [le, List.length_cons]
    rw [show 8 * (l.length + 1) = 8 * l.length + 8 by omega, Nat.pow_add]
    have := byte_lt b
    generalize 2 ^ (8 * l.length) = p at *
    omega
theorem xor_low_high (x : Nat) {b : Nat} (hb : b < 256) (y : Nat) : (x ^^^ (b + 256 * y)) = (x ^^^ b) ^^^ (y * 2 ^ 8) := by
  have h : b + 256 * y = b ^^^ (y * 2 ^ 8) := by
    apply Nat.eq_of_testBit_eq
    intro i
    have e := Nat.two_pow_add_eq_or_of_lt (i := 8) (b := b) (by omega) y
    rw [show b + 256 * y = 2 ^ 8 * y + b by omega, e, Nat.testBit_or, Nat.testBit_xor, Nat.mul_comm (2 ^ 8), Nat.testBit_mul_two_pow]
    by_cases hi : i < 8
    · simp [show ¬ 8 ≤ i by omega]
    · have : b.testBit i = false := Nat.testBit_lt_two_pow (Nat.lt_of_lt_of_le hb (by
        have := Nat.pow_le_pow_right (n := 2) (by decide) (show 8 ≤ i by omega)
        omega))
      simp [this]
  rw [h, Nat.xor_assoc]
theorem feeds_le (x : Nat) (l : List UInt8) : feeds x l = steps (8 * l.length) (x ^^^ le l) := by
  induction l generalizing x with
  | nil => simp [feeds, le, steps]
  | cons b l ih =>
    show feeds (feed x b) l = _
    rw [ih, le, xor_low_high x (byte_lt b), List.length_cons, show 8 * (l.length + 1) = 8 + 8 * l.length by omega, steps_add, steps_xor 8, steps_shift]
    rfl
theorem sum_changes {b c : List UInt8} (h : c.length = b.length) {m k : Nat} (hk : k ≤ 8 * b.length) (hm : m < 4294967296) (e : le c = le b ^^^ m * 2 ^ k) :
    sum b ≠ sum c ↔ m ≠ 0 := by
  have key : sum c = sum b ^^^ steps (8 * b.length - k) m := by
    unfold sum update
    rw [feeds_le, feeds_le, h, e, ← Nat.xor_assoc, steps_xor]
    have : steps (8 * b.length) (m * 2 ^ k) = steps (8 * b.length - k) m := by
      conv => lhs; rw [show 8 * b.length = k + (8 * b.length - k) by omega]
      rw [steps_add, steps_shift]
    rw [this, Nat.xor_assoc, Nat.xor_assoc (steps _ _) ones, Nat.xor_comm ones]
  constructor
  · intro hn hz
    rw [hz, steps_zero, Nat.xor_zero] at key
    exact hn key.symm
  · intro hz hn
    have h0 := steps_ne (8 * b.length - k) hm hz
    apply h0
    rw [← hn] at key
    have := congrArg (sum b ^^^ ·) key
    simp only [← Nat.xor_assoc, Nat.xor_self, Nat.zero_xor] at this
    exact this.symm
theorem le_set (l : List UInt8) (i : Nat) (h : i < l.length) (j : Nat) (hj : j < 8) :
    le (l.set i (l.getD i 0 ^^^ UInt8.ofNat (2 ^ j))) = le l ^^^ 2 ^ (8 * i + j) := by
  induction l generalizing i with
  | nil => simp at h
  | cons b l ih =>
    have hb := byte_lt b
    have h2 : 2 ^ j < 256 := Nat.pow_lt_pow_right (by decide) hj
    cases i with
    | zero =>
      simp only [List.set_cons_zero, List.getD_cons_zero, le, Nat.mul_zero, Nat.zero_add]
      rw [toNat_xor, UInt8.toNat_ofNat_of_lt' h2, Nat.xor_comm _ (2 ^ j), Nat.xor_comm _ (2 ^ j), xor_low_high _ hb, Nat.xor_comm (2 ^ j)]
      have hx : b.toNat ^^^ 2 ^ j < 256 := Nat.xor_lt_two_pow (n := 8) hb h2
      have e := xor_low_high 0 hx (le l)
      rw [Nat.zero_xor, Nat.zero_xor] at e
      exact e
    | succ i =>
      simp only [List.set_cons_succ, List.getD_cons_succ, le]
      rw [ih i (by simpa using h)]
      have e1 := xor_low_high 0 hb (le l ^^^ 2 ^ (8 * i + j))
      have e2 := xor_low_high 0 hb (le l)
      rw [Nat.zero_xor, Nat.zero_xor] at e1 e2
      rw [e1, e2, show 8 * (i + 1) + j = (8 * i + j) + 8 by omega, Nat.pow_add 2 (8 * i + j) 8, Nat.xor_assoc]
      generalize 2 ^ (8 * i + j) = p
      congr 1
      apply Nat.eq_of_testBit_eq
      intro t
      simp only [Nat.testBit_xor, Nat.testBit_mul_two_pow]
      by_cases ht : 8 ≤ t <;> simp [ht]
end Go.Proofs.YtbkdjfgkebkknaaGreatDoor.Crc
namespace Go.Proofs.YtbkdjfgkebkknaaGreatDoor.Frm
set_option linter.unusedVariables false
set_option linter.unusedSimpArgs false
abbrev Ep (n : Int) : Prop := 1 ≤ n ∧ n ≤ 1099511627776
abbrev Ok (kd ep tx ix no : Int) (n : Nat) : Prop :=
  Ep ep ∧ 1 ≤ tx ∧ tx ≤ 4294967295 ∧ (kd = 1 ∧ 0 ≤ ix ∧ ix ≤ 4095 ∧ 0 ≤ no ∧ no ≤ 4095 ∧ n = 512 ∨ kd = 2 ∧ ix = 0 ∧ 1 ≤ no ∧ no ≤ 4096 ∧ n = 0)
def check (kd ep tx ix no : Int) (n : Nat) : Nat := if Ok kd ep tx ix no n then 0 else 2
def secs (kd : Int) : Nat × Nat := if kd = 1 then (5, 0) else if kd = 2 then (1, 0) else (0, 2)
def stamp (n : Int) (d : List UInt8) : List UInt8 := Big.be 8 n.toNat ++ d ++ List.replicate (112 - d.length) 0 ++ Big.be 8 n.toNat
def stamped (n : Int) (d : List UInt8) : Nat × List UInt8 := if Ep n ∧ d.length ≤ 112 then (0, stamp n d) else (2, [])
def Torn (b : List UInt8) (n : Int) : Prop := b.length < 128 ∨ b.take 8 ≠ Big.be 8 n.toNat ∨ (b.drop 120).take 8 ≠ Big.be 8 n.toNat
instance (b : List UInt8) (n : Int) : Decidable (Torn b n) := by unfold Torn; infer_instance
def unst (b : List UInt8) (n : Int) : Nat × List UInt8 := if ¬ Ep n then (2, []) else if Torn b n then (13, []) else (0, (b.drop 8).take 112)
theorem stamp_length {n : Int} {d : List UInt8} (h : d.length ≤ 112) : (stamp n d).length = 128 := by
  simp only [stamp, List.length_append, Big.be_length, List.length_replicate]; omega
end Go.Proofs.YtbkdjfgkebkknaaGreatDoor.Frm
namespace Go.Proofs.YtbkdjfgkebkknaaGreatDoor
set_option linter.unusedVariables false
set_option linter.unusedSimpArgs false
open Go Go.RowKit
set_option maxRecDepth 100000
set_option maxHeartbeats 8000000
attribute [local irreducible] WL WC WN Yl WH WQ WT WE WU WG WV
end Go.Proofs.YtbkdjfgkebkknaaGreatDoor
