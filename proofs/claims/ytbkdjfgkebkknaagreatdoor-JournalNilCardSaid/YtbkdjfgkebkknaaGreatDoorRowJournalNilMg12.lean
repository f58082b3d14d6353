import Derived.Test.YtbkdjfgkebkknaaGreatDoorRowJournalNilMg11
import Derived.Test.YtbkdjfgkebkknaaGreatDoorRowJournalNilMg3
import Derived.Test.YtbkdjfgkebkknaaGreatDoorRowJournalNilMg5
import Derived.Test.YtbkdjfgkebkknaaGreatDoorRowJournalNilMg8
import Derived.Test.YtbkdjfgkebkknaaGreatDoorRowJournalNilMg4
import Derived.Lib.MakeNoZero
import Derived.Laws.Externs
import Derived.Test.YtbkdjfgkebkknaaGreatDoorRowJournalNilMg9
/- Drives: written, synced, read, armed, restarted, made, copied. -/
namespace Go.Proofs.YtbkdjfgkebkknaaGreatDoor
set_option linter.unusedVariables false
set_option linter.unusedSimpArgs false
open Go Go.RowKit
set_option maxRecDepth 100000
set_option maxHeartbeats 8000000
section
variable {P : Program} {fn : Func} {R : Value → List HA → Prop} {ρ : Env} {A B : List HA} {n : Nat} {w0 : World} {S : List Nat} {v : Value}
theorem WN.ret2S {t t2 : Tmp} {v2 : Value} (hr : fn.results = #[.tmp t, .tmp t2]) (hv : lk ρ t = some v) (hv2 : lk ρ t2 = some v2) (hR : R (.tuple #[v, v2]) B) (hp : Part A B) : WN ⟨P, n, w0, S⟩ (bodyPost P fn (GivesS S R w0)) .ret ρ A :=
  fun a w f s => bodyPost_ret (results_tmp2 hr _ _ _) f.defers (by rw [f.get t v hv, f.get t2 v2 hv2]; exact ⟨_, B, rfl, hR, s.part hp⟩)
end
theorem perm53 (x y z : HA) (L : List HA) : (z :: y :: x :: L).Perm (L ++ [x, y, z]) := by
  classical
  rw [List.perm_iff_count]; intro u; simp only [List.count_append, List.count_cons, List.count_nil]; omega
theorem permAr (x q1 q2 b : HA) (L R : List HA) : (x :: q1 :: q2 :: b :: (L ++ R)).Perm ((x :: L) ++ (q1 :: q2 :: b :: R)) := by
  classical
  rw [List.perm_iff_count]; intro u; simp only [List.count_append, List.count_cons]; omega
theorem partAr (q1 q2 b : HA) (R : List HA) : ∀ L : List HA, Part (q1 :: q2 :: b :: (L ++ R)) (L ++ [q1, q2])
  | [] => .cons .here (.cons .here .nil)
  | _ :: L => .cons (.there (.there (.there .here))) (partAr q1 q2 b R L)
theorem partCo (q1 q2 : HA) : ∀ L : List HA, Part (q1 :: q2 :: (L ++ [])) (L ++ [q1, q2])
  | [] => .cons .here (.cons .here .nil)
  | _ :: L => .cons (.there (.there .here)) (partCo q1 q2 L)
theorem Yl.loadAllO {X : Cx} {A : List HA} {ρ : Env} {ty : TypeId} {x : Operand} {T T' : TypeId} {b k : Nat} {cs : Array Value} {fr : Nat × Nat} (hg : ∀ w, (isAgg T).run X.P w = .ok true w) (hk : ∀ w, (sizeOf T).run X.P w = .ok k w)
    (hx : ev ρ x = some (.pointer (some ⟨b, 0, none⟩))) (hm : Has X A b (.cells cs T' fr)) (hl : Nat.beq cs.size k = true) : Yl X (.load T x) ty ρ A (.agg cs) := by
  have hr : Rd X A (some ⟨b, 0, none⟩) cs.toList := fun w s => .inr ⟨b, 0, rfl, fun i v hi => by simp only [World.cell?, hm w s, Nat.zero_add]; simpa using hi⟩
  have := Yl.loadAggRd (X := X) (A := A) (ty := ty) (ρ := ρ) (us := cs.toList) (off := 0) hg hk hx hr (by simpa using hl) (by rw [List.drop_zero, List.take_length])
  rwa [Array.toArray_toList] at this
def DrdV (p : DP) (v : DV) (r : List UInt8 × Nat) : Value → List HA → Prop := fun u B => ∃ a c, r.1.length ≤ c ∧ u = .tuple #[.slice a r.1.length c, .int .i64 (r.2 : Int)] ∧ ∃ s : DS, s.Ok p ∧ s.v = v ∧ B = .row a c 151 1 (bs r.1) :: drI p s
def DV.read (v : DV) (sec : Int) : DV × (List UInt8 × Nat) := if v.down then (v, ([], 11)) else ((if (readR v.d v.F sec).2 = 0 then { v with rd := v.rd + 1 } else v), readR v.d v.F sec)
def DV.arm (v : DV) (n : Int) (K : List Int) : DV × Nat := if planOk n K then ((if n = 0 then (if v.down then { v with pl := none } else v.crash K) else { v with pl := some (n.toNat, K) }), 0) else (v, 2)
def DNewV (n : Nat) : Value → List HA → Prop := fun u B => ∃ p s, DS.Ok s p ∧ s.v = ⟨List.replicate n zblk, fun _ => none, false, none, 0, 0⟩ ∧ u = .tuple #[bptr p.bd, .int .i64 0] ∧ B = drI p s
def DCopyV (v : DV) : Value → List HA → Prop := fun u B => ∃ p s, DS.Ok s p ∧ s.v = v ∧ u = bptr p.bd ∧ B = drI p s
theorem readR_code (d : List (List UInt8)) (F : Nat → Option (List UInt8)) (s : Int) : (readR d F s).2 = 0 ∨ (readR d F s).2 = 3 := by
  unfold readR; split <;> simp
theorem buildBk (a : Option Addr) (w : World) : (Instr.build 72 [(0, .pointer a)].toArray).run Tryz.prog w = .ok (.agg #[.pointer a]) w := by
  simp [Instr.build, Tryz.zeroValue72, run_underlying Tryz.underlying72, Tryz.sizeOf70, Value.cells, Instr.fill]
theorem buildDr (b : Value) (hb : b.oneCell' = true) (w : World) : (Instr.build 75 [(0, .agg #[b])].toArray).run Tryz.prog w = .ok (.agg #[b, .bool false, .pointer none, .int .i64 0, .int .i64 0]) w := by
  simp [Instr.build, Tryz.zeroValue75, run_underlying Tryz.underlying75, Tryz.sizeOf72, Tryz.sizeOf4, Tryz.sizeOf73, Tryz.sizeOf2, Value.cells, Instr.fill]
attribute [local irreducible] WL WC WN Yl WH WQ WT WE WU WG WV
section
variable {p : DP} {S : List Nat}
theorem dwrite_k (sec : Int) (a : Option Addr) (n c2 : Nat) (x : List UInt8) (s : DS) (w : World) (ok : s.Ok p) (hops : s.ops < 4611686018427387904) (hl : x.length = n) (hr : CellsOut w S a (bs x)) (st : St w S (drI p s) w) :
    Calls Tryz.prog 38 #[bptr p.bd, .int .i64 sec, .slice a n c2] w (GivesS S (DrK p s.pl (s.v.write sec x).1 (s.v.write sec x).2) w) := by
  refine enterS (args := [.pointer (some ⟨p.bd, 0, none⟩), _, _]) Tryz.func38 Tryz.ntmps38 rfl rfl st ?_
  (repeat (first | refine WC.seq ?_ | refine WC.region ?_))
  refine WL.box rfl rfl fun b3 => ?_
  refine WL.box rfl rfl fun b4 => ?_
  refine WL.box rfl rfl fun b5 => ?_
  rw [show (Value.pointer (some ⟨p.bd, 0, none⟩)).cells = #[bptr p.bd] from rfl, show (Value.int .i64 sec).cells = #[.int .i64 sec] from rfl, show (Value.slice a n c2).cells = #[.slice a n c2] from rfl]
  (repeat (first | refine WL.step (Yl.move rfl) rfl ?_ | refine WL.step (Yl.assign rfl) rfl ?_ | (refine WL.k_load ?_; refine WL.step (Yl.loadBlk (T := 26) Tryz.isAgg26 rfl (by repeat (first | exact .head _ | refine .tail _ ?_)) (by rfl)) rfl ?_) | refine WL.callV (g := 87) (v := .int .i64 (if s.down then 11 else 0)) Tryz.call87 rfl (fun w0 st2 => dcheck_c w0 (ok.at_ st2 (fun x hx => .tail _ (.tail _ (.tail _ (hx)))))) rfl ?_ | refine WL.step (Yl.neq rfl rfl) rfl ?_ | refine WC.seq ?_ | refine WC.region ?_ | refine WL.nil ?_ | refine WN.then_normal ?_))
  cases e : s.down with
  | true =>
    rw [if_pos rfl]
    skip
    refine WC.cond_true rfl rfl ?_
    (repeat (first | refine WL.step (Yl.move rfl) rfl ?_ | refine WL.step (Yl.assign rfl) rfl ?_ | refine WC.seq ?_ | refine WC.region ?_ | refine WL.nil ?_ | refine WN.then_normal ?_ | refine WC.ret ?_ | refine WN.then_ret ?_))
    have hv : s.v.write sec x = (s.v, 11) := by rw [DV.write, if_pos (show s.v.down = true from e)]
    rw [hv]
    exact WN.ret1S rfl rfl ⟨rfl, s, ok, rfl, PlSub.refl _, rfl⟩ (.more (.more (.more (Part.refl _))))
  | false =>
    rw [if_neg (by decide)]
    skip
    refine WC.cond_false rfl rfl ?_
    (repeat (first | (refine WL.k_load ?_; refine WL.step (Yl.loadBlk (T := 26) Tryz.isAgg26 rfl (by repeat (first | exact .head _ | refine .tail _ ?_)) (by rfl)) rfl ?_) | refine WL.step (Yl.capFunc rfl) rfl ?_ | refine WC.seq ?_ | refine WC.region ?_ | refine WN.then_normal ?_ | refine WC.skip ?_))
    refine WL.callS (g := 88) (A0 := drI p s ++ [.blk b3 (.cells #[bptr p.bd] 26 (0, 0)), .blk b4 (.cells #[.int .i64 sec] 3 (0, 0)), .blk b5 (.cells #[.slice a n c2] 23 (0, 0))]) (B := []) Tryz.call88 rfl (by rw [List.append_nil]; exact perm53 _ _ _ _) (fun w0 st2 s1 => dopw_r b3 b4 b5 sec a n c2 x s w0 e ok hops hl (old_out st2 (by rw [List.append_nil]; exact perm53 _ _ _ _) hr) s1) rfl fun v C hv => ?_
    obtain ⟨rfl, t, tok, htv, hps, rfl⟩ := hv
    (repeat (first | refine WL.step (Yl.assign rfl) rfl ?_ | refine WL.nil ?_ | refine WN.then_normal ?_ | refine WC.ret ?_))
    refine WN.ret1S rfl rfl ⟨rfl, t, tok, htv, hps, rfl⟩ ?_
    rw [List.append_nil]; exact Part.refl _
theorem dwrite_r (sec : Int) (a : Option Addr) (n c2 : Nat) (x : List UInt8) (s : DS) (w : World) (ok : s.Ok p) (hops : s.ops < 4611686018427387904) (hl : x.length = n) (hr : CellsOut w S a (bs x)) (st : St w S (drI p s) w) :
    Calls Tryz.prog 38 #[bptr p.bd, .int .i64 sec, .slice a n c2] w (GivesS S (DrV p (s.v.write sec x).1 (s.v.write sec x).2) w) :=
  drK_weak (dwrite_k sec a n c2 x s w ok hops hl hr st)
theorem dsync_r (s : DS) (w : World) (ok : s.Ok p) (hops : s.ops < 4611686018427387904) (st : St w S (drI p s) w) :
    Calls Tryz.prog 39 #[bptr p.bd] w (GivesS S (DrV p s.v.sync.1 s.v.sync.2) w) := by
  refine enterS (args := [.pointer (some ⟨p.bd, 0, none⟩)]) Tryz.func39 Tryz.ntmps39 rfl rfl st ?_
  (repeat (first | refine WL.step (Yl.move rfl) rfl ?_ | refine WL.step (Yl.assign rfl) rfl ?_ | refine WL.callV (g := 87) (v := .int .i64 (if s.down then 11 else 0)) Tryz.call87 rfl (fun w0 st2 => dcheck_c w0 (ok.at_ st2 (fun x hx => hx))) rfl ?_ | refine WL.step (Yl.neq rfl rfl) rfl ?_ | refine WC.seq ?_ | refine WC.region ?_ | refine WL.nil ?_ | refine WN.then_normal ?_))
  cases e : s.down with
  | true =>
    rw [if_pos rfl]
    skip
    refine WC.cond_true rfl rfl ?_
    (repeat (first | refine WL.step (Yl.move rfl) rfl ?_ | refine WL.step (Yl.assign rfl) rfl ?_ | refine WC.seq ?_ | refine WC.region ?_ | refine WL.nil ?_ | refine WN.then_normal ?_ | refine WC.ret ?_ | refine WN.then_ret ?_))
    have hv : s.v.sync = (s.v, 11) := by rw [DV.sync, if_pos (show s.v.down = true from e)]
    rw [hv]
    exact WN.ret1S rfl rfl ⟨rfl, s, ok, rfl, rfl⟩ (Part.refl _)
  | false =>
    rw [if_neg (by decide)]
    skip
    refine WC.cond_false rfl rfl ?_
    have hbk : HA.blk p.bd (drO p s) ∈ drI p s := .head _
    (repeat (first | refine WL.step (Yl.move rfl) rfl ?_ | (refine WL.k_load ?_; refine WL.step (Yl.loadBlk (T := 70) Tryz.isAgg70 rfl hbk (by rfl)) rfl ?_) | (refine WL.k_fld ?_; refine WL.step (Yl.fldN0 (i := 0) (o := 0) (by kernel_rfl) rfl) rfl ?_) | refine WL.step (Yl.nilCheck rfl) rfl ?_ | refine WL.step (Yl.bindFunc rfl) rfl ?_ | refine WC.seq ?_ | refine WC.region ?_ | refine WN.then_normal ?_ | refine WC.skip ?_))
    refine WL.callS (g := 88) (A0 := drI p s) (B := []) Tryz.call88 rfl (by rw [List.append_nil]) (fun w0 st2 s1 => dops_r s w0 e ok hops s1) rfl fun v C hv => ?_
    obtain ⟨rfl, t, tok, htv, rfl⟩ := hv
    (repeat (first | refine WL.step (Yl.assign rfl) rfl ?_ | refine WL.nil ?_ | refine WN.then_normal ?_ | refine WC.ret ?_))
    refine WN.ret1S rfl rfl ⟨rfl, t, tok, htv, rfl⟩ ?_
    rw [List.append_nil]; exact Part.refl _
theorem dread_r (sec : Int) (s : DS) (w : World) (ok : s.Ok p) (hrd : s.rd < 4611686018427387904) (st : St w S (drI p s) w) :
    Calls Tryz.prog 37 #[bptr p.bd, .int .i64 sec] w (GivesS S (DrdV p (s.v.read sec).1 (s.v.read sec).2) w) := by
  refine enterS (args := [.pointer (some ⟨p.bd, 0, none⟩), _]) Tryz.func37 Tryz.ntmps37 rfl rfl st ?_
  (repeat (first | refine WL.step (Yl.move rfl) rfl ?_ | refine WL.step (Yl.assign rfl) rfl ?_ | refine WL.callV (g := 87) (v := .int .i64 (if s.down then 11 else 0)) Tryz.call87 rfl (fun w0 st2 => dcheck_c w0 (ok.at_ st2 (fun x hx => hx))) rfl ?_ | refine WL.step (Yl.neq rfl rfl) rfl ?_ | refine WC.seq ?_ | refine WC.region ?_ | refine WL.nil ?_ | refine WN.then_normal ?_))
  cases e : s.down with
  | true =>
    rw [if_pos rfl]
    skip
    refine WC.cond_true rfl rfl ?_
    (repeat (first | refine WL.step (Yl.move rfl) rfl ?_ | refine WL.step (Yl.assign rfl) rfl ?_ | refine WC.seq ?_ | refine WC.region ?_ | refine WL.nil ?_ | refine WN.then_normal ?_ | refine WC.ret ?_ | refine WN.then_ret ?_))
    have hv : s.v.read sec = (s.v, ([], 11)) := by rw [DV.read, if_pos (show s.v.down = true from e)]
    rw [hv]
    exact WN.ret2S rfl rfl rfl ⟨none, 0, Nat.le_refl _, rfl, s, ok, rfl, rfl⟩ (.free (Part.refl _))
  | false =>
    have hv : s.v.read sec = ((if (readR s.d s.F sec).2 = 0 then { s.v with rd := s.rd + 1 } else s.v), readR s.d s.F sec) := by rw [DV.read, if_neg (by rw [show s.v.down = false from e]; decide)]; rfl
    rw [hv]
    rw [if_neg (show ¬ (false = true) by decide)]
    skip
    refine WC.cond_false rfl rfl ?_
    have hbk : HA.blk p.bd (drO p s) ∈ drI p s := .head _
    (repeat (first | refine WL.step (Yl.move rfl) rfl ?_ | (refine WL.k_load ?_; refine WL.step (Yl.loadBlk (T := 70) Tryz.isAgg70 rfl hbk (by rfl)) rfl ?_) | (refine WL.k_fld ?_; refine WL.step (Yl.fldN0 (i := 0) (o := 0) (by kernel_rfl) rfl) rfl ?_) | refine WL.step (Yl.nilCheck rfl) rfl ?_ | refine WC.seq ?_ | refine WC.region ?_ | refine WN.then_normal ?_ | refine WC.skip ?_))
    refine WL.call (g := 46) Tryz.call46 rfl (fun w0 st2 => bread_c sec w0 (ok.at_ st2 (fun x hx => hx)).bank) rfl fun v B hv => ?_
    obtain ⟨a', c', hc', rfl, rfl⟩ := hv
    rcases readR_code s.d s.F sec with h | h
    · rw [h, if_pos rfl]
      (repeat (first | refine WL.step (Yl.move rfl) rfl ?_ | refine WL.step (Yl.assign rfl) rfl ?_ | refine WL.step (Yl.extract rfl rfl) rfl ?_ | refine WL.step (Yl.eqlT rfl rfl rfl) rfl ?_ | refine WC.seq ?_ | refine WC.region ?_ | refine WL.nil ?_ | refine WN.then_normal ?_))
      refine WC.cond_true rfl rfl ?_
      simp only [drI, drO, plv, List.cons_append, List.nil_append]
      (repeat (first | refine WL.step (Yl.move rfl) rfl ?_ | (refine WL.k_load ?_; refine WL.step (Yl.loadBlk (T := 2) Tryz.isAgg2 rfl (by repeat (first | exact .head _ | refine .tail _ ?_)) (by rfl)) rfl ?_) | (refine WL.k_fld ?_; refine WL.step (Yl.fldN0 (i := 4) (o := 4) (by kernel_rfl) rfl) rfl ?_) | refine WL.step (Yl.nilCheck rfl) rfl ?_ | (refine WL.k_bin .add ?_; refine WL.step (Yl.add64C rfl (by omega)) rfl ?_) | refine WC.region ?_))
      refine WL.storeAt (T := 2) Tryz.sizeOf2 rfl rfl rfl (.there .here) rfl ?_
      (repeat (first | refine WL.step (Yl.move rfl) rfl ?_ | refine WL.step (Yl.assign rfl) rfl ?_ | refine WC.seq ?_ | refine WC.region ?_ | refine WL.nil ?_ | refine WN.then_normal ?_ | refine WC.ret ?_))
      refine WN.ret2S rfl rfl rfl ⟨a', c', hc', by rw [h]; rfl, ⟨s.d, s.F, s.M, s.c, s.down, s.pl, s.ops, s.rd + 1⟩, ⟨ok.wf, ok.cap, ok.m, ok.pl⟩, rfl, rfl⟩ ?_
      simp only [drI, drO]
      exact .cons (.there .here) (.cons .here (Part.refl _))
    · rw [h, if_neg (show ¬ (3 = 0) by decide)]
      (repeat (first | refine WL.step (Yl.move rfl) rfl ?_ | refine WL.step (Yl.assign rfl) rfl ?_ | refine WL.step (Yl.extract rfl rfl) rfl ?_ | (refine WL.k_bin .eql ?_; refine WL.step (Yl.eqlF rfl rfl (by decide)) rfl ?_) | refine WC.seq ?_ | refine WC.region ?_ | refine WL.nil ?_ | refine WN.then_normal ?_))
      refine WC.cond_false rfl rfl ?_
      (repeat (first | refine WL.step (Yl.move rfl) rfl ?_ | refine WL.step (Yl.assign rfl) rfl ?_ | refine WC.seq ?_ | refine WC.region ?_ | refine WL.nil ?_ | refine WN.then_normal ?_ | refine WC.skip ?_ | refine WC.ret ?_))
      exact WN.ret2S rfl rfl rfl ⟨a', c', hc', by rw [h]; rfl, s, ok, rfl, rfl⟩ (Part.refl _)
theorem drestart_r (s : DS) (w : World) (ok : s.Ok p) (st : St w S (drI p s) w) : Calls Tryz.prog 29 #[bptr p.bd] w (GivesS S (DrV p { s.v with down := false } 0) w) := by
  refine enterS (args := [.pointer (some ⟨p.bd, 0, none⟩)]) Tryz.func29 Tryz.ntmps29 rfl rfl st ?_
  (repeat (first | refine WL.step (Yl.move rfl) rfl ?_ | refine WL.step (Yl.assign rfl) rfl ?_ | refine WL.callV (g := 67) (v := .bool true) Tryz.call67 rfl (fun w0 st2 => dmade_c w0 (ok.at_ st2 (fun x hx => hx))) rfl ?_ | refine WL.step (Yl.not rfl) rfl ?_ | refine WC.seq ?_ | refine WC.region ?_ | refine WL.nil ?_ | refine WN.then_normal ?_))
  refine WC.cond_false rfl rfl ?_
  simp only [drI, drO, plv, List.cons_append, List.nil_append]
  (repeat (first | refine WL.step (Yl.move rfl) rfl ?_ | (refine WL.k_fld ?_; refine WL.step (Yl.fldN0 (i := 1) (o := 1) (by kernel_rfl) rfl) rfl ?_) | refine WL.step (Yl.nilCheck rfl) rfl ?_ | refine WC.seq ?_ | refine WC.region ?_ | refine WN.then_normal ?_ | refine WC.skip ?_))
  refine WL.storeAt (T := 4) Tryz.sizeOf4 rfl rfl rfl .here rfl ?_
  (repeat (first | refine WL.step (Yl.assign rfl) rfl ?_ | refine WC.seq ?_ | refine WC.region ?_ | refine WL.nil ?_ | refine WN.then_normal ?_ | refine WC.ret ?_))
  refine WN.ret1S rfl rfl ⟨rfl, ⟨s.d, s.F, s.M, s.c, false, s.pl, s.ops, s.rd⟩, ⟨ok.wf, ok.cap, ok.m, ok.pl⟩, rfl, rfl⟩ ?_
  simp only [drI, drO]
  exact Part.refl _
theorem dnew_no (z : Int) (w : World) (h : z < 1 ∨ 4096 < z) : Calls Tryz.prog 11 #[.int .i64 z] w (Gives (Val (.tuple #[.pointer none, .int .i64 2])) w) := by
  refine enter (args := [_]) Tryz.func11 Tryz.ntmps11 rfl rfl ?_
  (repeat (first | refine WL.step (Yl.move rfl) rfl ?_ | refine WL.step (Yl.assign rfl) rfl ?_ | refine WC.seq ?_ | refine WC.region ?_ | refine WL.nil ?_ | refine WN.then_normal ?_))
  refine WL.callV (g := 55) (v := .tuple #[.pointer none, .int .i64 2]) Tryz.call55 rfl (fun w0 st => bnew_no z w0 h) rfl ?_
  (repeat (first | refine WL.step (Yl.move rfl) rfl ?_ | refine WL.step (Yl.assign rfl) rfl ?_ | refine WL.step (Yl.extract rfl rfl) rfl ?_ | (refine WL.k_bin .neq ?_; refine WL.step (Yl.neqT rfl rfl (by decide)) rfl ?_) | refine WC.seq ?_ | refine WC.region ?_ | refine WL.nil ?_ | refine WN.then_normal ?_))
  refine WC.cond_true rfl rfl ?_
  (repeat (first | refine WL.step (Yl.move rfl) rfl ?_ | refine WL.step (Yl.assign rfl) rfl ?_ | refine WC.seq ?_ | refine WC.region ?_ | refine WL.nil ?_ | refine WN.then_normal ?_ | refine WC.ret ?_ | refine WN.then_ret ?_))
  exact WN.ret2 rfl rfl rfl ⟨rfl, rfl⟩ .nil
theorem dnew_c (n : Nat) (w : World) (h1 : 1 ≤ n) (h2 : n ≤ 4096) : Calls Tryz.prog 11 #[.int .i64 (n : Int)] w (Gives (DNewV n) w) := by
  refine enter (args := [_]) Tryz.func11 Tryz.ntmps11 rfl rfl ?_
  (repeat (first | refine WL.step (Yl.move rfl) rfl ?_ | refine WL.step (Yl.assign rfl) rfl ?_ | refine WC.seq ?_ | refine WC.region ?_ | refine WL.nil ?_ | refine WN.then_normal ?_))
  refine WL.call (g := 55) Tryz.call55 rfl (fun w0 st => bnew_c n w0 h1 h2) rfl fun v1 B1 hv1 => ?_
  obtain ⟨bk, da, cp, mb, hcap, rfl, rfl⟩ := hv1
  (repeat (first | refine WL.step (Yl.move rfl) rfl ?_ | refine WL.step (Yl.assign rfl) rfl ?_ | refine WL.step (Yl.extract rfl rfl) rfl ?_ | refine WL.step (Yl.neqF rfl rfl rfl) rfl ?_ | refine WC.seq ?_ | refine WC.region ?_ | refine WL.nil ?_ | refine WN.then_normal ?_))
  refine WC.cond_false rfl rfl ?_
  (repeat (first | refine WL.step (Yl.move rfl) rfl ?_ | (refine WL.k_build ?_; first | refine WL.step (Yl.build (ps := [(0, .tmp 14)]) (vs := [(0, bptr bk)]) rfl (buildBk _)) rfl ?_ | refine WL.step (Yl.build (ps := [(0, .tmp 15)]) (vs := [(0, .agg #[bptr bk])]) rfl (buildDr _ rfl)) rfl ?_) | refine WC.seq ?_ | refine WC.region ?_ | refine WN.then_normal ?_ | refine WC.skip ?_))
  refine WL.boxA rfl rfl fun bd => ?_
  (repeat (first | refine WL.step (Yl.assign rfl) rfl ?_ | refine WL.nil ?_ | refine WN.then_normal ?_ | refine WC.ret ?_))
  refine WN.ret2 rfl rfl rfl ⟨⟨bd, bk, da, cp, mb⟩, ⟨List.replicate n zblk, fun _ => none, [], 0, false, none, 0, 0⟩, ⟨new_wf h1 h2, by simp only [List.length_replicate]; exact hcap, MapIs.empty (β := List UInt8) _, fun q hq => by cases hq⟩, rfl, rfl, rfl⟩ ?_
  simp only [drI, drO, plI, plv, List.append_nil]
  exact Part.refl _
theorem darm_r (n : Int) (a : Option Addr) (m c2 : Nat) (K : List Int) (s : DS) (w : World) (ok : s.Ok p) (hl : K.length = m) (hm : m ≤ 9223372036854775807) (hr : CellsOut w S a (zcells K)) (st : St w S (drI p s) w) :
    Calls Tryz.prog 48 #[bptr p.bd, .agg #[.int .i64 n, .slice a m c2]] w (GivesS S (DrV p (s.v.arm n K).1 (s.v.arm n K).2) w) := by
  refine enterS (args := [.pointer (some ⟨p.bd, 0, none⟩), .agg #[.int .i64 n, .slice a m c2]]) Tryz.func48 Tryz.ntmps48 rfl rfl st ?_
  subst hl
  (repeat (first | refine WC.seq ?_ | refine WC.region ?_))
  refine WL.boxA rfl rfl fun b3 => ?_
  (repeat (first | refine WL.step (Yl.move rfl) rfl ?_ | refine WL.step (Yl.assign rfl) rfl ?_ | refine WL.callV (g := 67) (v := .bool true) Tryz.call67 rfl (fun w0 st2 => dmade_c w0 (ok.at_ st2 (fun x hx => .tail _ (hx)))) rfl ?_ | refine WL.step (Yl.not rfl) rfl ?_ | refine WC.seq ?_ | refine WC.region ?_ | refine WL.nil ?_ | refine WN.then_normal ?_))
  refine WC.cond_false rfl rfl ?_
  (repeat (first | (refine WL.k_load ?_; refine WL.step (Yl.loadAll (T := 63) (T' := 63) Tryz.isAgg63 Tryz.sizeOf63 rfl (by repeat (first | exact .head _ | refine .tail _ ?_)) rfl) rfl ?_) | refine WC.seq ?_ | refine WC.region ?_ | refine WN.then_normal ?_ | refine WC.skip ?_))
  refine WL.callV (g := 100) (v := .int .i64 (if planOk n K then 0 else 2)) Tryz.call100 rfl (fun w0 st2 => dchk_c n a K.length c2 K w0 rfl hm (Rd.out (P := Tryz.prog) (n := 0) hr w0 st2)) rfl ?_
  by_cases hp : ¬ planOk n K
  · rw [if_neg hp, show s.v.arm n K = (s.v, 2) by rw [DV.arm, if_neg hp]]
    (repeat (first | refine WL.step (Yl.move rfl) rfl ?_ | refine WL.step (Yl.assign rfl) rfl ?_ | (refine WL.k_bin .neq ?_; refine WL.step (Yl.neqT rfl rfl (by decide)) rfl ?_) | refine WC.seq ?_ | refine WC.region ?_ | refine WL.nil ?_ | refine WN.then_normal ?_))
    refine WC.cond_true rfl rfl ?_
    (repeat (first | refine WL.step (Yl.move rfl) rfl ?_ | refine WL.step (Yl.assign rfl) rfl ?_ | refine WC.seq ?_ | refine WC.region ?_ | refine WL.nil ?_ | refine WN.then_normal ?_ | refine WC.ret ?_ | refine WN.then_ret ?_))
    exact WN.ret1S rfl rfl ⟨rfl, s, ok, rfl, rfl⟩ (.more (Part.refl _))
  have hp := Decidable.not_not.1 hp
  have hk64 := hp.2.2.2.1
  rw [if_pos hp, show s.v.arm n K = ((if n = 0 then (if s.v.down then { s.v with pl := none } else s.v.crash K) else { s.v with pl := some (n.toNat, K) }), 0) by rw [DV.arm, if_pos hp]]
  (repeat (first | refine WL.step (Yl.move rfl) rfl ?_ | refine WL.step (Yl.assign rfl) rfl ?_ | refine WL.step (Yl.neqF rfl rfl rfl) rfl ?_ | refine WC.seq ?_ | refine WC.region ?_ | refine WL.nil ?_ | refine WN.then_normal ?_))
  refine WC.cond_false rfl rfl ?_
  (repeat (first | refine WL.step (Yl.move rfl) rfl ?_ | (refine WL.k_load ?_; refine WL.step (Yl.loadAll (T := 63) (T' := 63) Tryz.isAgg63 Tryz.sizeOf63 rfl (by repeat (first | exact .head _ | refine .tail _ ?_)) rfl) rfl ?_) | refine WC.seq ?_ | refine WC.region ?_ | refine WN.then_normal ?_ | refine WC.skip ?_))
  refine WL.call (g := 68) Tryz.call68 rfl (fun w0 st2 => dclone_c n a K.length c2 K w0 rfl (by omega) (Rd.out (P := Tryz.prog) (n := 0) hr w0 st2)) rfl fun v B hv => ?_
  obtain ⟨qb, qa, qc, rfl, hqc, rfl⟩ := hv
  obtain ⟨LB, hLB⟩ : ∃ L, L = bankItems p.bk p.da p.cap p.mb s.d s.M s.c := ⟨_, rfl⟩
  simp only [drI, drO, plv, List.cons_append, List.nil_append]
  rw [← hLB]
  (repeat (first | (refine WL.k_fld ?_; refine WL.step (Yl.fldN0 (i := 2) (o := 2) (by kernel_rfl) rfl) rfl ?_) | refine WL.step (Yl.nilCheck rfl) rfl ?_))
  refine WL.storeAt (T := 73) Tryz.sizeOf73 rfl rfl rfl (by repeat (first | exact Pick.here | apply Pick.there)) rfl ?_
  by_cases h0 : n = 0
  · subst h0
    rw [if_pos rfl]
    (repeat (first | (refine WL.k_load ?_; refine WL.step (Yl.loadBlk (T := 3) Tryz.isAgg3 rfl (by repeat (first | exact .head _ | refine .tail _ ?_)) (by rfl)) rfl ?_) | (refine WL.k_fld ?_; refine WL.step (Yl.fldN0 (i := 0) (o := 0) (by kernel_rfl) rfl) rfl ?_) | refine WL.step (Yl.eqlT rfl rfl rfl) rfl ?_ | refine WC.seq ?_ | refine WC.region ?_ | refine WL.nil ?_ | refine WN.then_normal ?_))
    refine WC.cond_true rfl rfl ?_
    (repeat (first | refine WL.step (Yl.move rfl) rfl ?_ | (refine WL.k_fld ?_; refine WL.step (Yl.fldN0 (i := 2) (o := 2) (by kernel_rfl) rfl) rfl ?_) | refine WL.step (Yl.nilCheck rfl) rfl ?_ | refine WC.seq ?_ | refine WC.region ?_))
    refine WL.storeAt (T := 73) Tryz.sizeOf73 rfl rfl rfl .here rfl ?_
    (repeat (first | refine WL.step (Yl.move rfl) rfl ?_ | (refine WL.k_load ?_; refine WL.step (Yl.loadBlk (T := 4) Tryz.isAgg4 rfl (by repeat (first | exact .head _ | refine .tail _ ?_)) (by rfl)) rfl ?_) | (refine WL.k_fld ?_; refine WL.step (Yl.fldN0 (i := 1) (o := 1) (by kernel_rfl) rfl) rfl ?_) | refine WL.step (Yl.nilCheck rfl) rfl ?_ | refine WL.step (Yl.not rfl) rfl ?_ | refine WC.seq ?_ | refine WC.region ?_ | refine WL.nil ?_ | refine WN.then_normal ?_))
    cases e : s.down with
    | true =>
      refine WC.cond_false rfl rfl ?_
      (repeat (first | refine WL.step (Yl.assign rfl) rfl ?_ | refine WC.seq ?_ | refine WC.region ?_ | refine WL.nil ?_ | refine WN.then_normal ?_ | refine WC.skip ?_ | refine WC.ret ?_))
      refine WN.ret1S rfl rfl ⟨rfl, ⟨s.d, s.F, s.M, s.c, true, none, s.ops, s.rd⟩, ⟨ok.wf, ok.cap, ok.m, fun q hq => by cases hq⟩, by rw [if_pos (show s.v.down = true from e)]; simp only [DS.v, e, Option.map_none], rfl⟩ ?_
      simp only [drI, drO, plI, plv, List.append_nil]
      subst hLB
      exact .cons .here (.more (.more (.more (by rw [← List.append_nil (bankItems _ _ _ _ _ _ _)]; exact Part.app _ .nil))))
    | false =>
      refine WC.cond_true rfl rfl ?_
      (repeat (first | refine WL.step (Yl.move rfl) rfl ?_ | (refine WL.k_load ?_; refine WL.step (Yl.loadBlk (T := 61) Tryz.isAgg61 rfl (by repeat (first | exact .head _ | refine .tail _ ?_)) (by rfl)) rfl ?_) | (refine WL.k_fld ?_; refine WL.step (Yl.fldN0 (i := 1) (o := 1) (by kernel_rfl) rfl) rfl ?_) | refine WC.region ?_))
      subst hLB
      refine WL.callS (g := 101) (A0 := .blk p.bd (drO p ⟨s.d, s.F, s.M, s.c, false, none, s.ops, s.rd⟩) :: bankItems p.bk p.da p.cap p.mb s.d s.M s.c) (B := .blk qb (.cells #[.int .i64 0, .slice qa K.length qc] 63 (0, 0)) :: .row qa qc 3 1 (zcells K) :: .blk b3 (.cells #[.int .i64 0, .slice a K.length c2] 63 (0, 0)) :: plI s.pl) Tryz.call101 rfl (permAr _ _ _ _ _ _) (fun w0 st2 s1 => dcrash_r ⟨s.d, s.F, s.M, s.c, false, none, s.ops, s.rd⟩ a K.length c2 K w0 ok.wf ok.cap ok.m rfl (by omega) hp.keep (old_out st2 (permAr _ _ _ _ _ _) hr) s1) rfl fun v C hv => ?_
      obtain ⟨rfl, t, ⟨t1, t2, t3, t4, t5, t6, tok⟩, rfl⟩ := hv
      simp only at t1 t2 t5 t6
      (repeat (first | refine WL.step (Yl.assign rfl) rfl ?_ | refine WC.seq ?_ | refine WC.region ?_ | refine WL.nil ?_ | refine WN.then_normal ?_ | refine WC.ret ?_))
      refine WN.ret1S rfl rfl ⟨rfl, t, tok, ?_, rfl⟩ ?_
      · rw [if_neg (by rw [show s.v.down = false from e]; decide)]
        obtain ⟨d9, F9, M9, c9, dn9, pl9, o9, r9⟩ := t
        simp only at t1 t2 t3 t4 t5 t6
        subst t1 t2 t3 t4 t5 t6
        simp [DS.v, DV.crash]
      · rw [drI, t4]
        simp only [plI, List.append_nil]
        exact Part.pre _
  · rw [if_neg h0]
    obtain ⟨k, rfl⟩ := Int.eq_ofNat_of_zero_le hp.1
    (repeat (first | (refine WL.k_load ?_; refine WL.step (Yl.loadBlk (T := 3) Tryz.isAgg3 rfl (by repeat (first | exact .head _ | refine .tail _ ?_)) (by rfl)) rfl ?_) | (refine WL.k_fld ?_; refine WL.step (Yl.fldN0 (i := 0) (o := 0) (by kernel_rfl) rfl) rfl ?_) | (refine WL.k_bin .eql ?_; refine WL.step (Yl.eqlF rfl rfl (by omega)) rfl ?_) | refine WC.seq ?_ | refine WC.region ?_ | refine WL.nil ?_ | refine WN.then_normal ?_))
    refine WC.cond_false rfl rfl ?_
    (repeat (first | refine WL.step (Yl.assign rfl) rfl ?_ | refine WC.seq ?_ | refine WC.region ?_ | refine WL.nil ?_ | refine WN.then_normal ?_ | refine WC.skip ?_ | refine WC.ret ?_))
    refine WN.ret1S rfl rfl ⟨rfl, ⟨s.d, s.F, s.M, s.c, s.down, some ⟨qb, qa, qc, k, K⟩, s.ops, s.rd⟩, ⟨ok.wf, ok.cap, ok.m, fun q hq => by simp only [Option.some.injEq] at hq; subst hq; exact ⟨by simp only; omega, hp, hqc⟩⟩, rfl, rfl⟩ ?_
    simp only [drI, drO, plI, plv, Pl.obj]
    subst hLB
    exact .cons .here (partAr _ _ _ _ _)
theorem dcopy_c (s : DS) (w : World) (h : DrAt w p s) : Calls Tryz.prog 19 #[bptr p.bd] w (Gives (DCopyV s.v) w) := by
  refine enter (args := [.pointer (some ⟨p.bd, 0, none⟩)]) Tryz.func19 Tryz.ntmps19 rfl rfl ?_
  obtain ⟨d, F, M, c, down, pl, ops, rd⟩ := s
  (repeat (first | refine WL.step (Yl.move rfl) rfl ?_ | refine WL.step (Yl.assign rfl) rfl ?_ | refine WL.callV (g := 67) (v := .bool true) Tryz.call67 rfl (fun w0 st => dmade_c w0 (h.keep st.kept)) rfl ?_ | refine WL.step (Yl.not rfl) rfl ?_ | refine WC.seq ?_ | refine WC.region ?_ | refine WL.nil ?_ | refine WN.then_normal ?_))
  refine WC.cond_false rfl rfl ?_
  (repeat (first | refine WL.step (Yl.move rfl) rfl ?_ | refine WL.step (Yl.loadAllO (b := p.bd) (k := 5) Tryz.isAgg75 Tryz.sizeOf75 rfl (Has.old h.blk) rfl) rfl ?_ | refine WL.step (Yl.nilCheck rfl) rfl ?_ | refine WC.seq ?_ | refine WC.region ?_ | refine WN.then_normal ?_ | refine WC.skip ?_))
  refine WL.allocA Tryz.zeroValue75 rfl fun bc => ?_
  refine WL.storeWhole (T := 75) (k := 5) Tryz.sizeOf75 rfl rfl ?_ .here rfl rfl ?_
  · cases pl <;> rfl
  (repeat (first | refine WL.step (Yl.move rfl) rfl ?_ | refine WC.seq ?_ | refine WC.region ?_ | refine WL.nil ?_ | refine WN.then_normal ?_))
  refine WL.call (g := 43) Tryz.call43 rfl (fun w0 st => dbank_c w0 (h.keep st.kept)) rfl fun v B hv => ?_
  obtain ⟨bk, da, cap, mb, M1, c1, hcap, hM, rfl, rfl⟩ := hv
  (repeat (first | (refine WL.k_fld ?_; refine WL.step (Yl.fldN0 (i := 0) (o := 0) (by kernel_rfl) rfl) rfl ?_) | refine WL.step (Yl.build (ps := [(0, .tmp 11)]) (vs := [(0, bptr bk)]) rfl (buildBk _)) rfl ?_))
  refine WL.storeBlk (T := 72) (us := [bptr bk]) Tryz.sizeOf72 rfl rfl rfl (fun u hu => by simp at hu; subst hu; rfl) (.there (.there (.there .here))) (by simp) ?_
  simp only [List.take_zero, List.length_singleton, Nat.zero_add, List.nil_append, List.cons_append, List.drop_succ_cons, List.drop_zero]
  cases pl with
  | none =>
    (repeat (first | refine WL.step (Yl.move rfl) rfl ?_ | refine WL.step (Yl.loadH Tryz.isAgg73 rfl (Has.old h.blk) rfl) rfl ?_ | (refine WL.k_fld ?_; refine WL.step (Yl.fldN0 (i := 2) (o := 2) (by kernel_rfl) rfl) rfl ?_) | refine WL.step (Yl.nilCheck rfl) rfl ?_ | (refine WL.k_bin .neq ?_; refine WL.step (Yl.neqPN (by kernel_rfl) rfl) rfl ?_) | refine WC.seq ?_ | refine WC.region ?_ | refine WL.nil ?_ | refine WN.then_normal ?_))
    refine WC.cond_false rfl rfl ?_
    (repeat (first | refine WL.step (Yl.assign rfl) rfl ?_ | refine WC.seq ?_ | refine WC.region ?_ | refine WL.nil ?_ | refine WN.then_normal ?_ | refine WC.skip ?_ | refine WC.ret ?_))
    exact WN.ret1 rfl rfl ⟨⟨bc, bk, da, cap, mb⟩, ⟨d, F, M1, c1, down, none, ops, rd⟩, ⟨h.bank.wf, hcap, hM, fun q hq => by cases hq⟩, rfl, rfl, rfl⟩ (Part.refl _)
  | some q =>
    obtain ⟨hq1, hq2, hq3⟩ := h.pl q rfl
    (repeat (first | refine WL.step (Yl.move rfl) rfl ?_ | refine WL.step (Yl.loadH Tryz.isAgg73 rfl (Has.old h.blk) rfl) rfl ?_ | (refine WL.k_fld ?_; refine WL.step (Yl.fldN0 (i := 2) (o := 2) (by kernel_rfl) rfl) rfl ?_) | refine WL.step (Yl.nilCheck rfl) rfl ?_ | (refine WL.k_bin .neq ?_; refine WL.step (Yl.neqPN (by kernel_rfl) rfl) rfl ?_) | refine WC.seq ?_ | refine WC.region ?_ | refine WL.nil ?_ | refine WN.then_normal ?_))
    refine WC.cond_true rfl rfl ?_
    (repeat (first | refine WL.step (Yl.move rfl) rfl ?_ | (refine WL.k_load ?_; first | refine WL.step (Yl.loadH Tryz.isAgg73 rfl (Has.old h.blk) rfl) rfl ?_ | refine WL.step (Yl.loadAllO (b := q.b) (k := 2) Tryz.isAgg63 Tryz.sizeOf63 rfl (Has.old hq1) rfl) rfl ?_) | (refine WL.k_fld ?_; refine WL.step (Yl.fldN0 (i := 2) (o := 2) (by kernel_rfl) rfl) rfl ?_) | refine WL.step (Yl.nilCheck rfl) rfl ?_ | refine WC.region ?_))
    refine WL.call (g := 68) Tryz.call68 rfl (fun w0 st => dclone_c q.n q.a q.K.length q.c q.K w0 rfl (by have := hq3.ok.2.2.2.1; omega) (hq2.keep st.kept)) rfl fun v B hv => ?_
    obtain ⟨qb, qa, qc, rfl, hqc, rfl⟩ := hv
    (repeat (first | (refine WL.k_fld ?_; refine WL.step (Yl.fldN0 (i := 2) (o := 2) (by kernel_rfl) rfl) rfl ?_)))
    refine WL.storeAt (T := 73) Tryz.sizeOf73 rfl rfl rfl (.there (.there .here)) rfl ?_
    (repeat (first | refine WL.step (Yl.assign rfl) rfl ?_ | refine WC.seq ?_ | refine WC.region ?_ | refine WL.nil ?_ | refine WN.then_normal ?_ | refine WC.ret ?_))
    refine WN.ret1 rfl rfl ⟨⟨bc, bk, da, cap, mb⟩, ⟨d, F, M1, c1, down, some ⟨qb, qa, qc, q.n, q.K⟩, ops, rd⟩, ⟨h.bank.wf, hcap, hM, fun q' hq' => by simp only [Option.some.injEq] at hq'; subst hq'; exact ⟨hq3.n1, hq3.ok, hqc⟩⟩, rfl, rfl, rfl⟩ ?_
    simp only [drI, drO, plI, plv, Pl.obj, bankItems, List.cons_append, List.nil_append, List.append_nil]
    exact (by repeat (first | exact Part.nil | refine Part.cons (by repeat (first | exact Pick.here | apply Pick.there)) ?_ | refine Part.free ?_))
end
end Go.Proofs.YtbkdjfgkebkknaaGreatDoor
/- bytes.Repeat of one byte, 128 times: a sector of one byte. -/
namespace Go.Proofs.YtbkdjfgkebkknaaGreatDoor
set_option linter.unusedVariables false
set_option linter.unusedSimpArgs false
open Go Go.RowKit
set_option maxRecDepth 100000
set_option maxHeartbeats 8000000
section
variable {X : Cx} {ops : Array Oper} {Q : Exit → Act → World → Prop} {ρ : Env} {A B : List HA} {rest : List Oper} {d : Tmp} {op : Op} {ty : TypeId} {ps : String} {af : Array Edge} {v : Value}
/-- The library's new row of whatever bytes. -/
theorem WL.noZero {f : FuncId} {fn : Func} {t e pT : TypeId} {n : Nat} {x : Operand} {ts : Array TypeId} (hf : X.P.funcs[f]? = some fn) (hname : (fn.name == "runtime.NumGoroutine") = false) (hb : fn.body.isNone = true) (hn : Extern.findNext fn = none) (he : Extern.find fn = some (Extern.BytealgMakeNoZero.makeNoZero #[pT] #[t]))
    (hu : X.P.underlying t = some (.slice e)) (hx : ev ρ x = some (.int .i64 (n : Int))) (hn2 : n ≤ 1000000) (hd : Nat.blt d X.n = true)
    (h : ∀ (q : Option Addr × Nat) (vs : List Value), n ≤ q.2 → vs.length = n → WL X ops Q rest ((d, .slice q.1 n q.2) :: ρ) (.row q.1 q.2 e 1 vs :: A)) :
    WL X ops Q (⟨some d, .call { callee := .value (.func f), args := #[x], argTypes := ts }, ty, ps, af, none⟩ :: rest) ρ A :=
  WL.stepE (ι := { q : Nat × Nat × List Value // n ≤ q.2.1 ∧ q.2.2.length = n }) (fun i => .slice (some ⟨i.1.1, 0, none⟩) n i.1.2.1) (fun i => .row (some ⟨i.1.1, 0, none⟩) i.1.2.1 e 1 i.1.2.2 :: A) (fun o ho _ a w f1 s => by
    obtain ⟨cs, hrun, hle, hmax⟩ := Lib.run_makeNoZero (P := X.P) w #[pT] t e hu n (by omega)
    have hl : (cs.toList.take n).length = n := by rw [List.length_take, Array.length_toList]; omega
    have s2 : St X.w0 X.S A w.drew.drew := s.drew.drew
    refine ⟨⟨(w.heap.size, cs.size, cs.toList.take n), hle, hl⟩, w.drew.drew.alloc (.cells cs e), ?_, s2.new (Kept.alloc w.drew.drew _) (.inr ⟨w.heap.size, cs, rfl, ?_, ?_, hmax (by simp only [maxLen]; omega), ?_, ?_⟩) (fun b hb => ?_)⟩
    · have hc := run_callFunc_extern hf hname hb hn he #[.int .i64 (n : Int)] w
      rw [hrun] at hc
      have e1 := f1.ev hx
      simp only [execOp, ho, resolve, Deferred.ofValue, Act.eval, invoke, Sem.run_bind, Sem.run_pure, Result.andThen_ok, List.map_toArray, List.map_cons, List.map_nil]
      simp [Act.eval] at e1 ⊢
      rw [e1, hc]
      rfl
    · show (w.heap.push (.cells cs e))[w.heap.size]? = _; simp
    · simp
    · simp only [hl]; exact hle
    · simp only [hl]
    · simp only [HA.foot] at hb
      split at hb
      · cases hb
      · simp only [Option.map_some, Option.some.injEq] at hb; subst hb; exact Nat.le_refl _) hd (fun i => h (some ⟨i.1.1, 0, none⟩, i.1.2.1) i.1.2.2 i.2.1 i.2.2)
end
theorem rpre {X : Cx} {A : List HA} {a : Option Addr} {k m : Nat} {r : List Value} (b : UInt8) (h : Rd X A a (bs (List.replicate k b) ++ r)) (hm : m ≤ k) : Rd X A a (bs (List.replicate m b)) := by
  have h2 := Rd.cut (lo := 0) (cap := (bs (List.replicate k b) ++ r).length) (k := 1) (m := m) h (by omega)
  rw [cutA_zero, Nat.zero_mul, List.drop_zero, List.take_append_of_le_length (by rw [bs_length, List.length_replicate]; exact hm), ← bs_take, List.take_replicate, Nat.min_eq_left hm] at h2
  exact h2
theorem cutA_el {a : Option Addr} {i c : Nat} (h : c ≠ i) : cutA a i c 1 = el a i := by
  rw [cutA, if_neg h, Nat.mul_one]; rfl
/-- A sector: its slice has no room behind it, whatever the row has. -/
def FullV (l : List UInt8) : Value → List HA → Prop := fun u B => ∃ a c, 128 ≤ c ∧ u = .slice a 128 128 ∧ B = [.row a c 5 1 (bs l)]
attribute [local irreducible] WL WC WN Yl WH WQ WT WE WU WG WV
theorem mul64_c (w : World) : Calls Tryz.prog 171 #[.int .u64 ((1 : Nat) : Int), .int .u64 ((128 : Nat) : Int)] w (Gives (Val (.tuple #[.int .u64 ((0 : Nat) : Int), .int .u64 ((128 : Nat) : Int)])) w) := by
  refine enter (args := [_, _]) Tryz.func171 Tryz.ntmps171 rfl rfl ?_
  (repeat (first | refine WL.step (Yl.move rfl) rfl ?_ | refine WL.step (Yl.assign rfl) rfl ?_ | (refine WL.k_bin .and ?_; refine WL.step (Yl.andC rfl rfl (by decide +kernel) (by decide +kernel)) rfl ?_) | (refine WL.k_bin .shr ?_; refine WL.step (Yl.shrC rfl (by decide)) rfl ?_) | refine WL.step (Yl.mulN rfl rfl rfl) rfl ?_ | refine WL.step (Yl.addN rfl rfl rfl) rfl ?_ | refine WC.seq ?_ | refine WC.region ?_ | refine WL.nil ?_ | refine WN.then_normal ?_ | refine WC.ret ?_))
  exact WN.ret2 rfl rfl rfl ⟨rfl, rfl⟩ .nil
theorem mul_c (w : World) : Calls Tryz.prog 131 #[.int .u64 ((1 : Nat) : Int), .int .u64 ((128 : Nat) : Int)] w (Gives (Val (.tuple #[.int .u64 ((0 : Nat) : Int), .int .u64 ((128 : Nat) : Int)])) w) := by
  refine enter (args := [_, _]) Tryz.func131 Tryz.ntmps131 rfl rfl ?_
  (repeat (first | refine WL.step (Yl.assign rfl) rfl ?_ | refine WC.seq ?_ | refine WC.region ?_ | refine WL.nil ?_ | refine WN.then_normal ?_))
  refine WC.cond_false rfl rfl ?_
  (repeat (first | refine WL.step (Yl.move rfl) rfl ?_ | refine WL.step (Yl.assign rfl) rfl ?_ | refine WL.step (Yl.extract rfl rfl) rfl ?_ | refine WL.callV (g := 171) (v := .tuple #[.int .u64 ((0 : Nat) : Int), .int .u64 ((128 : Nat) : Int)]) Tryz.call171 rfl (fun w0 st => mul64_c w0) rfl ?_ | refine WC.seq ?_ | refine WC.region ?_ | refine WL.nil ?_ | refine WN.then_normal ?_ | refine WC.skip ?_ | refine WC.ret ?_))
  exact WN.ret2 rfl rfl rfl ⟨rfl, rfl⟩ .nil
theorem rep_c (a : Option Addr) (cap : Nat) (b : UInt8) (w : World) (hr : CellsAt w a (bs [b])) : Calls Tryz.prog 106 #[.slice a 1 cap, .int .i64 128] w (Gives (FullV (List.replicate 128 b)) w) := by
  refine enter (args := [_, _]) Tryz.func106 Tryz.ntmps106 rfl rfl ?_
  (repeat (first | refine WL.step (Yl.move rfl) rfl ?_ | refine WL.step (Yl.assign rfl) rfl ?_ | (refine WL.k_bin .eql ?_; refine WL.step (Yl.eqlF rfl rfl (by decide)) rfl ?_) | refine WC.seq ?_ | refine WC.region ?_ | refine WL.nil ?_ | refine WN.then_normal ?_))
  refine WC.cond_false rfl rfl ?_
  (repeat (first | refine WL.step (Yl.move rfl) rfl ?_ | (refine WL.k_bin .lss ?_; refine WL.step (Yl.lssF rfl rfl (by decide)) rfl ?_) | refine WC.seq ?_ | refine WC.region ?_ | refine WL.nil ?_ | refine WN.then_normal ?_ | refine WC.skip ?_))
  refine WC.cond_false rfl rfl ?_
  (repeat (first | refine WL.step (Yl.move rfl) rfl ?_ | refine WL.step (Yl.len (t := 23) Tryz.underlying23 rfl) rfl ?_ | refine WC.seq ?_ | refine WC.region ?_ | refine WN.then_normal ?_ | refine WC.skip ?_))
  refine WL.step (v := .int .u64 ((1 : Nat) : Int)) (Yl.convN (m := 1) Tryz.underlying3 Tryz.underlying167 rfl rfl) rfl ?_
  (repeat (first | refine WL.step (Yl.move rfl) rfl ?_))
  refine WL.step (v := .int .u64 ((128 : Nat) : Int)) (Yl.convN (m := 128) Tryz.underlying3 Tryz.underlying167 rfl rfl) rfl ?_
  refine WL.callV (g := 131) (v := .tuple #[.int .u64 ((0 : Nat) : Int), .int .u64 ((128 : Nat) : Int)]) Tryz.call131 rfl (fun w0 st => mul_c w0) rfl ?_
  (repeat (first | refine WL.want rfl rfl rfl ?_ | refine WL.step (Yl.move rfl) rfl ?_ | refine WL.step (Yl.assign rfl) rfl ?_ | refine WL.step (Yl.extract rfl rfl) rfl ?_ | refine WL.step (Yl.pick_f rfl rfl rfl) rfl ?_ | (refine WL.k_bin .gtr ?_; refine WL.step (Yl.gtrF rfl rfl (by decide)) rfl ?_) | refine WC.seq ?_ | refine WC.region ?_ | refine WL.nil ?_ | refine WN.then_normal ?_))
  refine WC.cond_false rfl rfl ?_
  (repeat (first | refine WL.step (Yl.move rfl) rfl ?_ | refine WL.step (Yl.assign rfl) rfl ?_ | (refine WL.k_conv ?_; refine WL.step (Yl.conv64 (m := 128) Tryz.underlying167 Tryz.underlying3 rfl (by decide)) rfl ?_) | (refine WL.k_bin .eql ?_; refine WL.step (Yl.eqlF rfl rfl (by decide)) rfl ?_) | refine WL.step (Yl.len (t := 23) Tryz.underlying23 rfl) rfl ?_ | refine WC.seq ?_ | refine WC.region ?_ | refine WL.nil ?_ | refine WN.then_normal ?_ | refine WC.skip ?_))
  refine WC.cond_false rfl rfl ?_
  (repeat (first | refine WL.step (Yl.move rfl) rfl ?_ | refine WL.step (Yl.assign rfl) rfl ?_ | (refine WL.k_bin .gtr ?_; refine WL.step (Yl.gtrF rfl rfl (by decide)) rfl ?_) | refine WC.seq ?_ | refine WC.region ?_ | refine WL.nil ?_ | refine WN.then_normal ?_ | refine WC.skip ?_))
  refine WC.cond_false rfl rfl ?_
  (repeat (first | refine WL.step (Yl.move rfl) rfl ?_ | refine WC.seq ?_ | refine WC.region ?_ | refine WN.then_normal ?_ | refine WC.skip ?_))
  refine WL.noZero (n := 128) (pT := 3) (t := 23) Tryz.func132 (by kernel_rfl) (by kernel_rfl) (by kernel_rfl) (by kernel_rfl) Tryz.underlying23 rfl (by decide) rfl fun q vs hq hvs => ?_
  (repeat (first | refine WL.step (Yl.move rfl) rfl ?_ | refine WL.step (Yl.assign rfl) rfl ?_ | refine WL.step (Yl.cut3 (t := 23) (hi := 128) (mx := 128) Tryz.underlying23 Tryz.sizeOf5 rfl rfl rfl (Nat.le_refl _) hq) rfl ?_ | refine WC.seq ?_ | refine WC.region ?_ | refine WL.nil ?_ | refine WN.then_normal ?_))
  rw [cutA_zero]
  refine WL.copyRow (i := 0) (us := bs [b]) (vs := vs) Tryz.underlying23 (by kernel_rfl) (by rw [el_zero]; rfl) rfl .here (Rd.old hr) rfl (by rw [hvs, bs_length]; show 0 + 1 ≤ 128; decide) (fun e => by rw [e] at hvs; cases hvs) (bs_one _) rfl ?_
  rw [show vs.take 0 ++ bs [b] ++ vs.drop (0 + (bs [b]).length) = bs (List.replicate 1 b) ++ vs.drop 1 from rfl]
  have hv1 : (vs.drop 1).length = 127 := by rw [List.length_drop, hvs]
  generalize vs.drop 1 = r0 at *
  (repeat (first | refine WL.step (Yl.assign rfl) rfl ?_ | refine WC.seq ?_ | refine WL.nil ?_ | refine WN.then_normal ?_ | refine WC.block ?_))
  refine WC.loop (α := Nat × List Value) (fun s => [(7, .int .i64 128), (8, .int .i64 128), (9, .slice q.1 128 128), (10, .int .i64 (s.1 : Int))]) (fun s => [.row q.1 q.2 5 1 (bs (List.replicate s.1 b) ++ s.2)]) (fun s => 1 ≤ s.1 ∧ s.1 ≤ 128 ∧ s.2.length = 128 - s.1) (fun s => 128 - s.1) (1, r0) (by repeat (first | exact Sub.nil | refine Sub.cons rfl rfl ?_)) (by repeat (first | exact Part.nil | refine Part.cons (by repeat (first | exact Pick.here | apply Pick.there)) ?_ | refine Part.free ?_)) ⟨Nat.le_refl _, (by decide : 1 ≤ 128), hv1⟩ ?_
  rintro ⟨k, r⟩ ⟨h1, h2, h3⟩
  simp only at h1 h2 h3 ⊢
  (repeat (first | refine WL.step (Yl.move rfl) rfl ?_ | refine WL.step (Yl.lss rfl rfl) rfl ?_ | refine WC.seq ?_ | refine WC.region ?_ | refine WL.nil ?_ | refine WN.then_normal ?_))
  refine WC.ite rfl (fun h4 => ?_) (fun h4 => ?_)
  · have hmk : min k 128 = k := by omega
    (repeat (first | refine WL.step (Yl.move rfl) rfl ?_ | refine WL.step (Yl.assign rfl) rfl ?_ | refine WL.step (Yl.min2N rfl rfl) rfl ?_ | refine WC.seq ?_ | refine WC.region ?_ | refine WL.nil ?_ | refine WN.then_normal ?_ | refine WC.block ?_ | refine WC.skip ?_))
    rw [hmk]
    have hu : (bs (List.replicate (min k (128 - k)) b)).length = min k (128 - k) := by rw [bs_length, List.length_replicate]
    have hl : (bs (List.replicate k b) ++ r).length = 128 := by rw [List.length_append, bs_length, List.length_replicate]; omega
    refine WC.regionH [] (by kernel_rfl) ?_
    (refine WH.order [0, 1, 2, 3, 4, 5, 6] (by repeat (first | exact Part.nil | refine Part.cons (by repeat (first | exact Pick.here | apply Pick.there)) ?_ | refine Part.free ?_)) (by kernel_rfl) ?_; (repeat (first | (refine WT.k_move rfl ?_; (refine WT.kn rfl ?_; refine WT.take rfl rfl (fun _ _ _ h => h) (Yl.move rfl) rfl (by kernel_rfl) (by kernel_rfl) ?_)) | (refine WT.k_slice rfl ?_; (refine WT.kn rfl ?_; first | refine WT.take rfl rfl (fun _ _ _ h => h) (Yl.cutFrom (t := 23) (lo := k) Tryz.underlying23 Tryz.sizeOf5 rfl rfl (by omega)) rfl (by kernel_rfl) (by kernel_rfl) ?_ | refine WT.take rfl rfl (fun _ _ _ h => h) (Yl.cutTo (t := 23) (hi := k) Tryz.underlying23 Tryz.sizeOf5 rfl rfl (by omega)) rfl (by kernel_rfl) (by kernel_rfl) ?_)))); refine WT.nil ?_)
    rw [cutA_zero, cutA_el (show 128 ≠ k by omega)]
    refine WH.only (i := 7) (by kernel_rfl) rfl ?_
    refine WL.copyRow (i := k) (us := bs (List.replicate (min k (128 - k)) b)) (vs := bs (List.replicate k b) ++ r) Tryz.underlying23 (by kernel_rfl) rfl rfl .here (rpre b (Rd.row (.head _)) (Nat.min_le_left _ _)) hu (by rw [hu, hl]; omega) (fun e => by rw [e] at hl; cases hl) (bs_one _) rfl ?_
    have hnew : (bs (List.replicate k b) ++ r).take k ++ bs (List.replicate (min k (128 - k)) b) ++ (bs (List.replicate k b) ++ r).drop (k + (bs (List.replicate (min k (128 - k)) b)).length) = bs (List.replicate (k + min k (128 - k)) b) ++ r.drop (min k (128 - k)) := by
      have hk : (bs (List.replicate k b)).length = k := by rw [bs_length, List.length_replicate]
      rw [hu, List.take_append_of_le_length (by omega), List.take_of_length_le (by omega), List.drop_append, hk, List.drop_of_length_le (by omega), List.nil_append, Nat.add_sub_cancel_left, ← List.replicate_append_replicate, bs_append]
    rw [hnew, hu]
    refine WL.nil (WN.nextH .nil ?_)
    refine WH.only (i := 8) (by kernel_rfl) rfl ?_
    refine WL.step (Yl.add64N rfl rfl (by omega)) rfl ?_
    refine WL.nil (WN.nextH .nil ?_)
    refine WH.only (i := 9) (by kernel_rfl) rfl ?_
    refine WL.step (Yl.assign rfl) rfl ?_
    refine WL.nil (WN.nextH .nil ?_)
    refine WH.done (by kernel_rfl) ?_
    (repeat (first | refine WN.block_normal ?_))
    exact WN.next (k + min k (128 - k), r.drop (min k (128 - k))) ⟨by simp only; omega, by simp only; omega, by simp only [List.length_drop]; omega⟩ (by simp only; omega) (by repeat (first | exact Sub.nil | refine Sub.cons rfl rfl ?_)) (by repeat (first | exact Part.nil | refine Part.cons (by repeat (first | exact Pick.here | apply Pick.there)) ?_ | refine Part.free ?_))
  · obtain rfl : k = 128 := by omega
    obtain rfl : r = [] := List.eq_nil_of_length_eq_zero h3
    rw [List.append_nil]
    (repeat (first | refine WL.step (Yl.move rfl) rfl ?_ | refine WL.step (Yl.assign rfl) rfl ?_ | refine WC.seq ?_ | refine WC.region ?_ | refine WL.nil ?_ | refine WN.then_normal ?_ | refine WC.exit ?_ | refine WC.ret ?_ | refine WN.then_exit ?_ | refine WN.block_here ?_))
    exact WN.ret1 rfl rfl ⟨q.1, q.2, hq, rfl, rfl⟩ (.cons .here .nil)
end Go.Proofs.YtbkdjfgkebkknaaGreatDoor
/- Drives: rules for walks; append into what is there. -/
namespace Go.Proofs.YtbkdjfgkebkknaaGreatDoor
set_option linter.unusedVariables false
set_option linter.unusedSimpArgs false
open Go Go.RowKit
set_option maxRecDepth 100000
set_option maxHeartbeats 8000000
section
variable {X : Cx} {ops : Array Oper} {Q : Exit → Act → World → Prop} {ρ : Env} {A B : List HA} {rest : List Oper} {d : Tmp} {op : Op} {ty : TypeId} {ps : String} {af : Array Edge} {v : Value}
theorem WL.mid {x : HA} {D Z : List HA} (h : WL X ops Q rest ρ (D ++ x :: Z)) : WL X ops Q rest ρ (x :: (D ++ Z)) := WL.part (Part.perm List.perm_middle.symm) h
theorem WC.mid {c : Code} {x : HA} {D Z : List HA} (h : WC X c Q ρ (D ++ x :: Z)) : WC X c Q ρ (x :: (D ++ Z)) := fun a w f s => h a w f (s.part (Part.perm List.perm_middle.symm))
/-- 'append' where there is room for it; the slice may have less room than the row. -/
theorem WL.appendFit {x y : Operand} {t e : TypeId} {z : Value} {bytes : Nat} {a a2 : Option Addr} {n cap c0 m c : Nat} {vs news : List Value} (hu : X.P.underlying t = some (.slice e)) (he : ElemT X.P e z 1 bytes)
    (hx : ev ρ x = some (.slice a n c0)) (hy : ev ρ y = some (.slice a2 m c)) (hp : Pick (.row a cap e 1 vs) A B) (hc : c0 ≤ cap) (hnc : n + m ≤ c0) (hm0 : 0 < m) (hvn : n ≤ vs.length) (hn : Rd X A a2 news) (hnl : news.length = m) (h1 : ∀ u ∈ news, u.oneCell' = true)
    (hd : Nat.blt d X.n = true) (h : WL X ops Q rest ((d, .slice a (n + m) c0) :: ρ) (.row a cap e 1 (vs.take n ++ news) :: B)) :
    WL X ops Q (⟨some d, .call { callee := .builtin .append, args := #[x, y], argTypes := #[t, t] }, ty, ps, af, none⟩ :: rest) ρ A :=
  WL.step1 (fun o hop _ ac w f s => by
    have s1 := s.pick hp
    have fin : ∀ {v : Value} {w' : World}, (Builtin.append_ #[t, t] o.type #[.slice a n c0, .slice a2 m c]).run X.P w = .ok v w' → (execOp ac.eval o).run X.P w = .ok (.value v) w' := fun hr => by
      simp only [execOp, hop, resolve, invoke, builtin, Sem.run_bind, Sem.run_pure, Result.andThen_ok, List.map_toArray, List.map_cons, List.map_nil, f.ev hx, f.ev hy, hr]
    rcases s1.holds _ (.head _) with ⟨h0, _⟩ | ⟨b, cs, rfl, hbk, hsz, hcm, hvl, htk⟩
    · omega
    · have hc0 : cap ≠ 0 := by omega
      have hne : news ≠ [] := by
        intro e0; subst e0; simp at hnl; omega
      obtain ⟨ad, rfl⟩ := hn.some_ hne s
      obtain ⟨i, hi, _, hik, _⟩ := he.info
      have hcell : ∀ j u, news[j]? = some u → w.cell? (ad.add j) = some u := fun j u hu => by
        obtain ⟨ad', e1, e2⟩ := hn.at_ hu s
        simp only [el, Option.map_some, Option.some.injEq] at e1
        rw [e1]; exact e2
      have hfit : n * i.size + news.length ≤ cs.size := by rw [hik, hnl, hsz]; omega
      have hr := run_append_room (P := X.P) w t o.type e i hu hi b n c0 cs hbk ad m c news (by rw [hik, Nat.mul_one]; exact hnl) hcell h1 hnc hfit
      refine ⟨_, fin hr, s1.put (x := .row _ _ _ _ _) (y := .row (some ⟨b, 0, none⟩) cap e 1 (vs.take n ++ news)) (by simp [HA.foot, hc0]) (by simp [HA.foot, hc0]) (Kept.setRow w b _)
        (.inr ⟨b, _, rfl, setRow_heap w b cs _ e _ hbk, ?_, hcm, ?_, ?_⟩)⟩
      · simp only [List.size_toArray, List.length_append, List.length_take, List.length_drop, Array.length_toList]; omega
      · simp only [List.size_toArray, List.length_append, List.length_take, List.length_drop, Array.length_toList]; rw [hik] at *; omega
      · have h3 : cs.toList.take (n * i.size) = vs.take n := by
          rw [hik, Nat.mul_one, ← htk, List.take_take, Nat.min_eq_left hvn]
        rw [h3]
        exact List.take_left) hd h
end
theorem buildPl (n : Int) (a : Option Addr) (m c : Nat) (w : World) : (Instr.build 63 [(0, .int .i64 n), (1, .slice a m c)].toArray).run Tryz.prog w = .ok (.agg #[.int .i64 n, .slice a m c]) w := by
  simp [Instr.build, Tryz.zeroValue63, run_underlying Tryz.underlying63, Tryz.sizeOf3, Tryz.sizeOf61, Value.cells, Instr.fill]
theorem buildPl1 (a : Option Addr) (m c : Nat) (w : World) : (Instr.build 63 [(1, .slice a m c)].toArray).run Tryz.prog w = .ok (.agg #[.int .i64 0, .slice a m c]) w := by
  simp [Instr.build, Tryz.zeroValue63, run_underlying Tryz.underlying63, Tryz.sizeOf3, Tryz.sizeOf61, Value.cells, Instr.fill]
section
variable {p : DP} {S : List Nat} {v : DV} {s : DS}
theorem ops_lt (h : s.v = v) (hv : v.ops < 4611686018427387904) : s.ops < 4611686018427387904 := by subst h; exact hv
theorem rd_lt (h : s.v = v) (hv : v.rd < 4611686018427387904) : s.rd < 4611686018427387904 := by subst h; exact hv
theorem dwrite_v (sec : Int) (a : Option Addr) (n c2 : Nat) (x : List UInt8) (w : World) (ok : s.Ok p) (hv : s.v = v) (hops : v.ops < 4611686018427387904) (hl : x.length = n) (hr : CellsOut w S a (bs x)) (st : St w S (drI p s) w) :
    Calls Tryz.prog 38 #[bptr p.bd, .int .i64 sec, .slice a n c2] w (GivesS S (DrV p (v.write sec x).1 (v.write sec x).2) w) := by
  subst hv; exact dwrite_r sec a n c2 x s w ok hops hl hr st
theorem dsync_v (w : World) (ok : s.Ok p) (hv : s.v = v) (hops : v.ops < 4611686018427387904) (st : St w S (drI p s) w) :
    Calls Tryz.prog 39 #[bptr p.bd] w (GivesS S (DrV p v.sync.1 v.sync.2) w) := by
  subst hv; exact dsync_r s w ok hops st
theorem dread_v (sec : Int) (w : World) (ok : s.Ok p) (hv : s.v = v) (hrd : v.rd < 4611686018427387904) (st : St w S (drI p s) w) :
    Calls Tryz.prog 37 #[bptr p.bd, .int .i64 sec] w (GivesS S (DrdV p (v.read sec).1 (v.read sec).2) w) := by
  subst hv; exact dread_r sec s w ok hrd st
theorem drestart_v (w : World) (ok : s.Ok p) (hv : s.v = v) (st : St w S (drI p s) w) :
    Calls Tryz.prog 29 #[bptr p.bd] w (GivesS S (DrV p { v with down := false } 0) w) := by
  subst hv; exact drestart_r s w ok st
theorem darm_v (n : Int) (a : Option Addr) (m c2 : Nat) (K : List Int) (w : World) (ok : s.Ok p) (hv : s.v = v) (hl : K.length = m) (hm : m ≤ 9223372036854775807) (hr : CellsOut w S a (zcells K)) (st : St w S (drI p s) w) :
    Calls Tryz.prog 48 #[bptr p.bd, .agg #[.int .i64 n, .slice a m c2]] w (GivesS S (DrV p (v.arm n K).1 (v.arm n K).2) w) := by
  subst hv; exact darm_r n a m c2 K s w ok hl hm hr st
theorem ddown_v (w : World) (h : DrAt w p s) (hv : s.v = v) : Calls Tryz.prog 27 #[bptr p.bd] w (Gives (Val (.bool v.down)) w) := by
  subst hv; exact ddown_c w h
theorem dops_v (w : World) (h : DrAt w p s) (hv : s.v = v) : Calls Tryz.prog 44 #[bptr p.bd] w (Gives (Val (.int .i64 (v.ops : Int))) w) := by
  subst hv; exact dops_c w h
end
end Go.Proofs.YtbkdjfgkebkknaaGreatDoor
