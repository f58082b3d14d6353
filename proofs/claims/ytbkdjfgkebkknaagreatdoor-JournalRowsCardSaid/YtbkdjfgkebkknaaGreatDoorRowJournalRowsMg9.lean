import Derived.Test.YtbkdjfgkebkknaaGreatDoorRowJournalRowsMg8
import Derived.Test.YtbkdjfgkebkknaaGreatDoorRowJournalRowsMg3
import Derived.Test.YtbkdjfgkebkknaaGreatDoorRowJournalRowsMg4
import Derived.Test.YtbkdjfgkebkknaaGreatDoorRowJournalRowsMg7
import Derived.Lib.MakeNoZero
import Derived.Laws.Externs
namespace Go.Proofs.YtbkdjfgkebkknaaGreatDoor
set_option linter.unusedVariables false
set_option linter.unusedSimpArgs false
open Go Go.RowKit
set_option maxRecDepth 100000
set_option maxHeartbeats 8000000
def DV.crash (v : DV) (K : List Int) : DV := { v with d := (crashR K v.d v.F).1.1, F := (crashR K v.d v.F).1.2, down := true, pl := none }
def DV.done (v : DV) : DV := { v with d := (crashR [128] v.d v.F).1.1, F := (crashR [128] v.d v.F).1.2 }
def DV.op (v : DV) (fin : DV → DV) : DV × Nat :=
  match v.pl with
  | none => (fin { v with ops := v.ops + 1 }, 0)
  | some (n, K) => if n = 1 then (({ v with ops := v.ops + 1 } : DV).crash K, 11) else (fin { v with ops := v.ops + 1, pl := some (n - 1, K) }, 0)
def DV.write (v : DV) (sec : Int) (x : List UInt8) : DV × Nat :=
  if v.down then (v, 11) else if writeE v.d.length sec x ≠ 0 then (v, writeE v.d.length sec x) else ({ v with F := writeF v.d.length v.F sec x } : DV).op id
def DV.sync (v : DV) : DV × Nat := if v.down then (v, 11) else v.op DV.done
theorem write_same {n : Nat} {F : Nat → Option (List UInt8)} {s : Int} {x : List UInt8} (h : writeE n s x ≠ 0) : writeF n F s x = F := by
  unfold writeF
  rw [if_neg]
  intro ⟨h1, h2⟩
  exact h (by unfold writeE; rw [if_pos h1, if_pos h2])
def PlSub (q0 q1 : Option Pl) : Prop := q1 = none ∨ ∃ q q', q0 = some q ∧ q1 = some q' ∧ q'.b = q.b ∧ q'.a = q.a ∧ q'.c = q.c
def DrK (p : DP) (q0 : Option Pl) (v : DV) (e : Nat) : Value → List HA → Prop := fun u B => u = .int .i64 (e : Int) ∧ ∃ s : DS, s.Ok p ∧ s.v = v ∧ PlSub q0 s.pl ∧ B = drI p s
theorem PlSub.refl (q : Option Pl) : PlSub q q := by
  cases q with
  | none => exact .inl rfl
  | some q => exact .inr ⟨q, q, rfl, rfl, rfl, rfl, rfl⟩
theorem PlSub.trans {q0 q1 q2 : Option Pl} (h : PlSub q0 q1) (k : PlSub q1 q2) : PlSub q0 q2 := by
  rcases k with k | ⟨a, b, h1, h2, h3, h4, h5⟩
  · exact .inl k
  · rcases h with h | ⟨c, d, g1, g2, g3, g4, g5⟩
    · rw [h] at h1; cases h1
    · rw [g2] at h1; cases h1
      exact .inr ⟨c, b, g1, h2, h3.trans g3, h4.trans g4, h5.trans g5⟩
theorem drI_sub {p : DP} {s0 s : DS} (h : PlSub s0.pl s.pl) : ∀ b ∈ (drI p s).filterMap HA.foot, b ∈ (drI p s0).filterMap HA.foot := by
  intro b hb
  simp only [drI, List.filterMap_cons, List.filterMap_append, HA.foot, List.mem_cons, List.mem_append, bankItems] at hb ⊢
  rcases hb with hb | hb | hb
  · exact .inl hb
  · exact .inr (.inl hb)
  · refine .inr (.inr ?_)
    rcases h with h | ⟨q, q', h1, h2, h3, h4, h5⟩
    · rw [h] at hb; simp [plI] at hb
    · rw [h2] at hb; rw [h1]
      simp only [plI, List.filterMap_cons, HA.foot, h3, h4, h5] at hb ⊢
      exact hb
attribute [local irreducible] WL WC WN Yl WH WQ WT WE WU WG WV
section
variable {p : DP} {S : List Nat}
theorem dnothing_c (w : World) : Calls Tryz.prog 91 #[] w (Gives (Val (.int .i64 0)) w) := by
  refine enter (args := []) Tryz.func91 Tryz.ntmps91 rfl rfl ?_
  (repeat (first | refine WL.step (Yl.assign rfl) rfl ?_ | refine WC.seq ?_ | refine WC.region ?_ | refine WL.nil ?_ | refine WN.then_normal ?_ | refine WC.ret ?_))
  exact WN.ret1 rfl rfl ⟨rfl, rfl⟩ .nil
def W1V (p : DP) (d : List (List UInt8)) (F : Nat → Option (List UInt8)) (e : Nat) (o : Obj) : Value → List HA → Prop := fun u B => ∃ M c, MapIs d.length F M c ∧ u = .int .i64 (e : Int) ∧ B = bankItems p.bk p.da p.cap p.mb d M c ++ [.blk p.bd o]
theorem dw1_r (b3 b4 b5 : Nat) (sec : Int) (a : Option Addr) (n c2 : Nat) (x : List UInt8) (s : DS) (w : World) (wf : BkWf s.d s.F) (hcap : s.d.length ≤ p.cap) (hM : MapIs s.d.length s.F s.M s.c) (hl : x.length = n) (hr : CellsOut w S a (bs x)) (st : St w S (bankItems p.bk p.da p.cap p.mb s.d s.M s.c ++ [.blk p.bd (drO p s), .blk b3 (.cells #[bptr p.bd] 26 (0, 0)), .blk b4 (.cells #[.int .i64 sec] 3 (0, 0)), .blk b5 (.cells #[.slice a n c2] 23 (0, 0))]) w) :
    Calls Tryz.prog 89 #[.pointer (some ⟨b3, 0, none⟩), .pointer (some ⟨b4, 0, none⟩), .pointer (some ⟨b5, 0, none⟩)] w (GivesS S (W1V p s.d (writeF s.d.length s.F sec x) (writeE s.d.length sec x) (drO p s)) w) := by
  refine enterS (args := [.pointer (some ⟨b3, 0, none⟩), .pointer (some ⟨b4, 0, none⟩), .pointer (some ⟨b5, 0, none⟩)]) Tryz.func89 Tryz.ntmps89 rfl rfl st ?_
  obtain ⟨O, hO⟩ : ∃ O, O = drO p s := ⟨_, rfl⟩
  have hOc := hO
  rw [drO] at hOc
  rw [← hO]
  subst hOc
  simp only [bankItems, List.cons_append, List.nil_append]
  (repeat (first | refine WL.step (Yl.assign rfl) rfl ?_ | refine WC.seq ?_ | refine WC.region ?_ | refine WL.nil ?_ | refine WN.then_normal ?_))
  refine WC.regionH [.blk p.bd (.cells #[bptr p.bk, .bool s.down, plv s.pl, .int .i64 (s.ops : Int), .int .i64 (s.rd : Int)] 75 (0, 0)), .blk b3 (.cells #[bptr p.bd] 26 (0, 0)), .blk b4 (.cells #[.int .i64 sec] 3 (0, 0)), .blk b5 (.cells #[.slice a n c2] 23 (0, 0))] (by kernel_rfl) ?_
  (refine WH.order [0, 1, 2, 3, 4, 5, 6] (by repeat (first | exact Part.nil | refine Part.cons zK ?_ | refine Part.free ?_)) (by kernel_rfl) ?_; (repeat (first | (refine WT.k_load rfl ?_; first | refine WT.take rfl rfl (fun _ _ _ h => h) (Yl.loadBlk (T := 26) Tryz.isAgg26 rfl zH (by rfl)) rfl (by kernel_rfl) (by kernel_rfl) ?_ | refine WT.take rfl rfl (fun _ _ _ h => h) (Yl.loadBlk (T := 70) Tryz.isAgg70 rfl zH (by rfl)) rfl (by kernel_rfl) (by kernel_rfl) ?_ | refine WT.take rfl rfl (fun _ _ _ h => h) (Yl.loadBlk (T := 3) Tryz.isAgg3 rfl zH (by rfl)) rfl (by kernel_rfl) (by kernel_rfl) ?_ | refine WT.take rfl rfl (fun _ _ _ h => h) (Yl.loadBlk (T := 23) Tryz.isAgg23 rfl zH (by rfl)) rfl (by kernel_rfl) (by kernel_rfl) ?_) | (refine WT.k_fld rfl ?_; refine WT.take rfl rfl (fun _ _ _ h => h) (Yl.fldN0 (i := 0) (o := 0) (by kernel_rfl) rfl) rfl (by kernel_rfl) (by kernel_rfl) ?_) | (refine WT.k_nilc rfl ?_; refine WT.take rfl rfl (fun _ _ _ h => h) (Yl.nilCheck rfl) rfl (by kernel_rfl) (by kernel_rfl) ?_))); refine WT.nil ?_)
  refine WH.only (i := 7) (by kernel_rfl) rfl ?_
  refine WL.callS3 Tryz.call90 rfl zK zK zK (fun w0 st2 hp s1 => bwrite_r a n c2 x sec s.M s.c w0 wf hcap hM hl s1 (old_out st2 hp hr)) rfl fun v B hv => ?_
  obtain ⟨M1, c1, hM1, rfl, rfl⟩ := hv
  simp only [bankItems, List.cons_append, List.nil_append]
  refine WL.nil (WN.nextH (by repeat (first | exact Part.nil | refine Part.cons zK ?_ | refine Part.free ?_)) ?_)
  (refine WH.order [8] (by repeat (first | exact Part.nil | refine Part.cons zK ?_ | refine Part.free ?_)) (by kernel_rfl) ?_; (repeat (first | (refine WT.k_assign rfl ?_; refine WT.take rfl rfl (fun _ _ _ h => h) (Yl.assign rfl) rfl (by kernel_rfl) (by kernel_rfl) ?_))); refine WT.nil ?_)
  refine WH.done (by kernel_rfl) ?_
  (repeat (first | refine WN.then_normal ?_ | refine WC.ret ?_))
  refine WN.ret1S rfl rfl ⟨M1, c1, hM1, rfl, rfl⟩ ?_
  simp only [bankItems, List.cons_append, List.nil_append]
  exact (by repeat (first | exact Part.nil | refine Part.cons zK ?_ | refine Part.free ?_))
theorem dopw_r (b3 b4 b5 : Nat) (sec : Int) (a : Option Addr) (n c2 : Nat) (x : List UInt8) (s : DS) (w : World) (hdn : s.down = false) (ok : s.Ok p) (hops : s.ops < 4611686018427387904) (hl : x.length = n) (hr : CellsOut w S a (bs x)) (st : St w S (drI p s ++ [.blk b3 (.cells #[bptr p.bd] 26 (0, 0)), .blk b4 (.cells #[.int .i64 sec] 3 (0, 0)), .blk b5 (.cells #[.slice a n c2] 23 (0, 0))]) w) :
    Calls Tryz.prog 88 #[.pointer (some ⟨p.bd, 0, none⟩), .func (.func 89) #[] #[.pointer (some ⟨b3, 0, none⟩), .pointer (some ⟨b4, 0, none⟩), .pointer (some ⟨b5, 0, none⟩)], .func (.func 91) #[] #[]] w (GivesS S (DrK p s.pl (s.v.write sec x).1 (s.v.write sec x).2) w) := by
  refine enterS (args := [.pointer (some ⟨p.bd, 0, none⟩), .func (.func 89) #[] #[.pointer (some ⟨b3, 0, none⟩), .pointer (some ⟨b4, 0, none⟩), .pointer (some ⟨b5, 0, none⟩)], .func (.func 91) #[] #[]]) Tryz.func88 Tryz.ntmps88 rfl rfl st ?_
  obtain ⟨d, F, M, c, down, pl, ops, rd⟩ := s
  simp only at hdn ok hops ⊢
  subst hdn
  cases pl with
  | none =>
    simp only [drI, drO, plI, plv, bankItems, List.cons_append, List.nil_append]
    (repeat (first | refine WL.step (Yl.move rfl) rfl ?_ | refine WL.step (Yl.assign rfl) rfl ?_ | refine WC.seq ?_ | refine WC.region ?_ | refine WL.nil ?_ | refine WN.then_normal ?_))
    refine WL.callFS (A0 := bankItems p.bk p.da p.cap p.mb d M c ++ [.blk p.bd (drO p ⟨d, F, M, c, false, none, ops, rd⟩), .blk b3 (.cells #[bptr p.bd] 26 (0, 0)), .blk b4 (.cells #[.int .i64 sec] 3 (0, 0)), .blk b5 (.cells #[.slice a n c2] 23 (0, 0))]) (B := []) (cs := [.pointer (some ⟨b3, 0, none⟩), .pointer (some ⟨b4, 0, none⟩), .pointer (some ⟨b5, 0, none⟩)]) Tryz.call89 rfl rfl ((pk zK (pk zK (pk zK (pk zK (pk zK (pk zK (pk zK (List.Perm.refl _))))))))) (fun w0 st2 s1 => dw1_r b3 b4 b5 sec a n c2 x ⟨d, F, M, c, false, none, ops, rd⟩ w0 ok.wf ok.cap ok.m hl (old_out st2 ((pk zK (pk zK (pk zK (pk zK (pk zK (pk zK (pk zK (List.Perm.refl _))))))))) hr) s1) rfl fun v C hv => ?_
    obtain ⟨M1, c1, hM1, rfl, rfl⟩ := hv
    simp only at hM1 ⊢
    simp only [bankItems, drO, plv, List.cons_append, List.nil_append]
    by_cases he : writeE d.length sec x ≠ 0
    · (repeat (first | refine WL.step (Yl.move rfl) rfl ?_ | refine WL.step (Yl.assign rfl) rfl ?_ | (refine WL.k_bin .neq ?_; refine WL.step (Yl.neqT rfl rfl (by omega)) rfl ?_) | refine WC.seq ?_ | refine WC.region ?_ | refine WL.nil ?_ | refine WN.then_normal ?_))
      refine WC.cond_true rfl rfl ?_
      (repeat (first | refine WL.step (Yl.move rfl) rfl ?_ | refine WL.step (Yl.assign rfl) rfl ?_ | refine WC.seq ?_ | refine WC.region ?_ | refine WL.nil ?_ | refine WN.then_normal ?_ | refine WC.ret ?_ | refine WN.then_ret ?_))
      rw [write_same he] at hM1
      have hbad : ∀ v : DV, v.down = false → v.d = d → v.write sec x = (v, writeE d.length sec x) := fun v h1 h2 => by rw [DV.write, if_neg (by simp [h1]), if_pos (by rw [h2]; exact he), h2]
      rw [hbad _ rfl rfl]
      refine WN.ret1S rfl rfl ⟨rfl, ⟨d, F, M1, c1, false, none, ops, rd⟩, ⟨ok.wf, ok.cap, hM1, ok.pl⟩, rfl, .inl rfl, rfl⟩ ?_
      simp only [drI, drO, plI, plv, bankItems, List.cons_append, List.nil_append]
      exact (by repeat (first | exact Part.nil | refine Part.cons zK ?_ | refine Part.free ?_))
    have he0 : writeE d.length sec x = 0 := by omega
    rw [he0]
    have hwv : ∀ v : DV, v.down = false → v.d = d → v.write sec x = ({ v with F := writeF d.length v.F sec x } : DV).op id := fun v h1 h2 => by rw [DV.write, if_neg (by simp [h1]), if_neg (by rw [h2]; omega), h2]
    rw [hwv _ rfl rfl]
    (repeat (first | refine WL.step (Yl.move rfl) rfl ?_ | refine WL.step (Yl.assign rfl) rfl ?_ | refine WL.step (Yl.neqF rfl rfl rfl) rfl ?_ | refine WC.seq ?_ | refine WC.region ?_ | refine WL.nil ?_ | refine WN.then_normal ?_))
    refine WC.cond_false rfl rfl ?_
    (repeat (first | refine WL.step (Yl.move rfl) rfl ?_ | (refine WL.k_load ?_; refine WL.step (Yl.loadBlk (T := 2) Tryz.isAgg2 rfl zH (by rfl)) rfl ?_) | (refine WL.k_fld ?_; refine WL.step (Yl.fldN0 (i := 3) (o := 3) (by kernel_rfl) rfl) rfl ?_) | refine WL.step (Yl.nilCheck rfl) rfl ?_ | (refine WL.k_bin .add ?_; refine WL.step (Yl.add64C rfl (by omega)) rfl ?_) | refine WC.seq ?_ | refine WC.region ?_ | refine WN.then_normal ?_ | refine WC.skip ?_))
    refine WL.storeAt (T := 2) Tryz.sizeOf2 rfl rfl rfl zK rfl ?_
    (repeat (first | refine WL.step (Yl.move rfl) rfl ?_ | (refine WL.k_load ?_; refine WL.step (Yl.loadBlk (T := 73) Tryz.isAgg73 rfl zH (by rfl)) rfl ?_) | (refine WL.k_fld ?_; refine WL.step (Yl.fldN0 (i := 2) (o := 2) (by kernel_rfl) rfl) rfl ?_) | refine WL.step (Yl.nilCheck rfl) rfl ?_ | (refine WL.k_bin .neq ?_; refine WL.step (Yl.neqPN (by kernel_rfl) rfl) rfl ?_) | refine WC.seq ?_ | refine WC.region ?_ | refine WL.nil ?_ | refine WN.then_normal ?_))
    refine WC.cond_false rfl rfl ?_
    (repeat (first | refine WL.step (Yl.move rfl) rfl ?_ | refine WC.seq ?_ | refine WC.region ?_ | refine WN.then_normal ?_ | refine WC.skip ?_))
    refine WL.callFV (g := 91) (v := .int .i64 0) (cs := []) Tryz.call91 rfl rfl (fun w0 st => dnothing_c w0) rfl ?_
    (repeat (first | refine WL.step (Yl.assign rfl) rfl ?_ | refine WL.nil ?_ | refine WN.then_normal ?_ | refine WC.ret ?_))
    refine WN.ret1S rfl rfl ⟨rfl, ⟨d, (writeF d.length F sec x), M1, c1, false, none, ops + 1, rd⟩, ⟨(write_wf ok.wf sec x), ok.cap, hM1, fun q hq => by cases hq⟩, rfl, .inl rfl, rfl⟩ ?_
    simp only [drI, drO, plI, plv, Pl.obj, bankItems, List.cons_append, List.nil_append]
    exact (by repeat (first | exact Part.nil | refine Part.cons zK ?_ | refine Part.free ?_))
  | some q =>
    simp only [drI, drO, plI, plv, bankItems, List.cons_append, List.nil_append]
    (repeat (first | refine WL.step (Yl.move rfl) rfl ?_ | refine WL.step (Yl.assign rfl) rfl ?_ | refine WC.seq ?_ | refine WC.region ?_ | refine WL.nil ?_ | refine WN.then_normal ?_))
    refine WL.callFS (A0 := bankItems p.bk p.da p.cap p.mb d M c ++ [.blk p.bd (drO p ⟨d, F, M, c, false, some q, ops, rd⟩), .blk b3 (.cells #[bptr p.bd] 26 (0, 0)), .blk b4 (.cells #[.int .i64 sec] 3 (0, 0)), .blk b5 (.cells #[.slice a n c2] 23 (0, 0))]) (B := [.blk q.b (Pl.obj q), .row q.a q.c 3 1 (zcells q.K)]) (cs := [.pointer (some ⟨b3, 0, none⟩), .pointer (some ⟨b4, 0, none⟩), .pointer (some ⟨b5, 0, none⟩)]) Tryz.call89 rfl rfl ((pk zK (pk zK (pk zK (pk zK (pk zK (pk zK (pk zK (List.Perm.refl _))))))))) (fun w0 st2 s1 => dw1_r b3 b4 b5 sec a n c2 x ⟨d, F, M, c, false, some q, ops, rd⟩ w0 ok.wf ok.cap ok.m hl (old_out st2 ((pk zK (pk zK (pk zK (pk zK (pk zK (pk zK (pk zK (List.Perm.refl _))))))))) hr) s1) rfl fun v C hv => ?_
    obtain ⟨M1, c1, hM1, rfl, rfl⟩ := hv
    simp only at hM1 ⊢
    simp only [bankItems, drO, plv, List.cons_append, List.nil_append]
    by_cases he : writeE d.length sec x ≠ 0
    · (repeat (first | refine WL.step (Yl.move rfl) rfl ?_ | refine WL.step (Yl.assign rfl) rfl ?_ | (refine WL.k_bin .neq ?_; refine WL.step (Yl.neqT rfl rfl (by omega)) rfl ?_) | refine WC.seq ?_ | refine WC.region ?_ | refine WL.nil ?_ | refine WN.then_normal ?_))
      refine WC.cond_true rfl rfl ?_
      (repeat (first | refine WL.step (Yl.move rfl) rfl ?_ | refine WL.step (Yl.assign rfl) rfl ?_ | refine WC.seq ?_ | refine WC.region ?_ | refine WL.nil ?_ | refine WN.then_normal ?_ | refine WC.ret ?_ | refine WN.then_ret ?_))
      rw [write_same he] at hM1
      have hbad : ∀ v : DV, v.down = false → v.d = d → v.write sec x = (v, writeE d.length sec x) := fun v h1 h2 => by rw [DV.write, if_neg (by simp [h1]), if_pos (by rw [h2]; exact he), h2]
      rw [hbad _ rfl rfl]
      refine WN.ret1S rfl rfl ⟨rfl, ⟨d, F, M1, c1, false, some q, ops, rd⟩, ⟨ok.wf, ok.cap, hM1, ok.pl⟩, rfl, .inr ⟨q, q, rfl, rfl, rfl, rfl, rfl⟩, rfl⟩ ?_
      simp only [drI, drO, plI, plv, bankItems, List.cons_append, List.nil_append]
      exact (by repeat (first | exact Part.nil | refine Part.cons zK ?_ | refine Part.free ?_))
    have he0 : writeE d.length sec x = 0 := by omega
    rw [he0]
    have hwv : ∀ v : DV, v.down = false → v.d = d → v.write sec x = ({ v with F := writeF d.length v.F sec x } : DV).op id := fun v h1 h2 => by rw [DV.write, if_neg (by simp [h1]), if_neg (by rw [h2]; omega), h2]
    rw [hwv _ rfl rfl]
    (repeat (first | refine WL.step (Yl.move rfl) rfl ?_ | refine WL.step (Yl.assign rfl) rfl ?_ | refine WL.step (Yl.neqF rfl rfl rfl) rfl ?_ | refine WC.seq ?_ | refine WC.region ?_ | refine WL.nil ?_ | refine WN.then_normal ?_))
    refine WC.cond_false rfl rfl ?_
    (repeat (first | refine WL.step (Yl.move rfl) rfl ?_ | (refine WL.k_load ?_; refine WL.step (Yl.loadBlk (T := 2) Tryz.isAgg2 rfl zH (by rfl)) rfl ?_) | (refine WL.k_fld ?_; refine WL.step (Yl.fldN0 (i := 3) (o := 3) (by kernel_rfl) rfl) rfl ?_) | refine WL.step (Yl.nilCheck rfl) rfl ?_ | (refine WL.k_bin .add ?_; refine WL.step (Yl.add64C rfl (by omega)) rfl ?_) | refine WC.seq ?_ | refine WC.region ?_ | refine WN.then_normal ?_ | refine WC.skip ?_))
    refine WL.storeAt (T := 2) Tryz.sizeOf2 rfl rfl rfl zK rfl ?_
    (repeat (first | refine WL.step (Yl.move rfl) rfl ?_ | (refine WL.k_load ?_; refine WL.step (Yl.loadBlk (T := 73) Tryz.isAgg73 rfl zH (by rfl)) rfl ?_) | (refine WL.k_fld ?_; refine WL.step (Yl.fldN0 (i := 2) (o := 2) (by kernel_rfl) rfl) rfl ?_) | refine WL.step (Yl.nilCheck rfl) rfl ?_ | (refine WL.k_bin .neq ?_; refine WL.step (Yl.neqPN (by kernel_rfl) rfl) rfl ?_) | refine WC.seq ?_ | refine WC.region ?_ | refine WL.nil ?_ | refine WN.then_normal ?_))
    refine WC.cond_true rfl rfl ?_
    have hq := ok.pl q rfl
    have hn1 := hq.n1
    have hn2 := hq.ok.2.1
    have hkl := hq.ok.2.2.2.1
    rw [Pl.obj]
    (repeat (first | refine WL.step (Yl.move rfl) rfl ?_ | (refine WL.k_load ?_; first | refine WL.step (Yl.loadBlk (T := 3) Tryz.isAgg3 rfl zH (by rfl)) rfl ?_ | refine WL.step (Yl.loadBlk (T := 73) Tryz.isAgg73 rfl zH (by rfl)) rfl ?_) | (refine WL.k_fld ?_; first | refine WL.step (Yl.fldN0 (i := 0) (o := 0) (by kernel_rfl) rfl) rfl ?_ | refine WL.step (Yl.fldN0 (i := 2) (o := 2) (by kernel_rfl) rfl) rfl ?_) | refine WL.step (Yl.nilCheck rfl) rfl ?_ | (refine WL.k_bin .sub ?_; refine WL.step (Yl.sub64C rfl (by omega) (by omega)) rfl ?_) | refine WC.seq ?_ | refine WC.region ?_))
    refine WL.storeAt (T := 3) Tryz.sizeOf3 rfl rfl rfl zK rfl ?_
    by_cases hn : q.n = 1
    · (repeat (first | refine WL.step (Yl.move rfl) rfl ?_ | (refine WL.k_load ?_; first | refine WL.step (Yl.loadBlk (T := 3) Tryz.isAgg3 rfl zH (by rfl)) rfl ?_ | refine WL.step (Yl.loadBlk (T := 73) Tryz.isAgg73 rfl zH (by rfl)) rfl ?_) | (refine WL.k_fld ?_; first | refine WL.step (Yl.fldN0 (i := 0) (o := 0) (by kernel_rfl) rfl) rfl ?_ | refine WL.step (Yl.fldN0 (i := 2) (o := 2) (by kernel_rfl) rfl) rfl ?_) | refine WL.step (Yl.nilCheck rfl) rfl ?_ | (refine WL.k_bin .eql ?_; refine WL.step (Yl.eqlT rfl rfl (by omega)) rfl ?_) | refine WC.seq ?_ | refine WC.region ?_ | refine WL.nil ?_ | refine WN.then_normal ?_))
      refine WC.cond_true rfl rfl ?_
      (repeat (first | refine WL.step (Yl.move rfl) rfl ?_ | (refine WL.k_load ?_; first | refine WL.step (Yl.loadBlk (T := 61) Tryz.isAgg61 rfl zH (by rfl)) rfl ?_ | refine WL.step (Yl.loadBlk (T := 73) Tryz.isAgg73 rfl zH (by rfl)) rfl ?_) | (refine WL.k_fld ?_; first | refine WL.step (Yl.fldN0 (i := 1) (o := 1) (by kernel_rfl) rfl) rfl ?_ | refine WL.step (Yl.fldN0 (i := 2) (o := 2) (by kernel_rfl) rfl) rfl ?_) | refine WL.step (Yl.nilCheck rfl) rfl ?_ | refine WC.seq ?_ | refine WC.region ?_))
      refine WL.callS (g := 101) (A0 := .blk p.bd (drO p ⟨d, (writeF d.length F sec x), M1, c1, false, some q, ops + 1, rd⟩) :: bankItems p.bk p.da p.cap p.mb d M1 c1) (B := [.blk q.b _, .row q.a q.c 3 1 (zcells q.K)]) Tryz.call101 rfl ((pk zK (pk zK (pk zK (pk zK (List.Perm.refl _)))))) (fun w0 st2 s1 => dcrash_r ⟨d, (writeF d.length F sec x), M1, c1, false, some q, ops + 1, rd⟩ q.a q.K.length q.c q.K w0 (write_wf ok.wf sec x) ok.cap hM1 rfl (by omega) hq.ok.keep (row_out st2 ((pk zK (pk zK (pk zK (pk zK (List.Perm.refl _)))))) (.tail _ (.head _))) s1) rfl fun v C hv => ?_
      obtain ⟨rfl, t, ⟨t1, t2, t3, t4, t5, t6, tok⟩, rfl⟩ := hv
      simp only at t1 t2 t5 t6
      (repeat (first | refine WL.step (Yl.assign rfl) rfl ?_ | refine WL.nil ?_ | refine WN.then_normal ?_ | refine WC.ret ?_ | refine WN.then_ret ?_))
      refine WN.ret1S rfl rfl ⟨by simp [DV.op, DS.v, hn], t, tok, ?_, .inl t4, rfl⟩ ?_
      · obtain ⟨d9, F9, M9, c9, dn9, pl9, o9, r9⟩ := t
        simp only at t1 t2 t3 t4 t5 t6
        subst t1 t2 t3 t4 t5 t6
        simp [DV.op, DS.v, hn, DV.crash]
      · rw [drI, t4]
        simp only [plI, List.append_nil]
        exact Part.pre _
    (repeat (first | refine WL.step (Yl.move rfl) rfl ?_ | (refine WL.k_load ?_; first | refine WL.step (Yl.loadBlk (T := 3) Tryz.isAgg3 rfl zH (by rfl)) rfl ?_ | refine WL.step (Yl.loadBlk (T := 73) Tryz.isAgg73 rfl zH (by rfl)) rfl ?_) | (refine WL.k_fld ?_; first | refine WL.step (Yl.fldN0 (i := 0) (o := 0) (by kernel_rfl) rfl) rfl ?_ | refine WL.step (Yl.fldN0 (i := 2) (o := 2) (by kernel_rfl) rfl) rfl ?_) | refine WL.step (Yl.nilCheck rfl) rfl ?_ | (refine WL.k_bin .eql ?_; refine WL.step (Yl.eqlF rfl rfl (by omega)) rfl ?_) | refine WC.seq ?_ | refine WC.region ?_ | refine WL.nil ?_ | refine WN.then_normal ?_))
    refine WC.cond_false rfl rfl ?_
    (repeat (first | refine WL.step (Yl.move rfl) rfl ?_ | refine WC.seq ?_ | refine WC.region ?_ | refine WN.then_normal ?_ | refine WC.skip ?_))
    refine WL.callFV (g := 91) (v := .int .i64 0) (cs := []) Tryz.call91 rfl rfl (fun w0 st => dnothing_c w0) rfl ?_
    (repeat (first | refine WL.step (Yl.assign rfl) rfl ?_ | refine WL.nil ?_ | refine WN.then_normal ?_ | refine WC.ret ?_))
    refine WN.ret1S rfl rfl ⟨by simp [DV.op, DS.v, hn], ⟨d, (writeF d.length F sec x), M1, c1, false, some ⟨q.b, q.a, q.c, q.n - 1, q.K⟩, ops + 1, rd⟩, ⟨(write_wf ok.wf sec x), ok.cap, hM1, fun q2 hq2 => by simp only [Option.some.injEq] at hq2; subst hq2; exact ⟨by simp only; omega, ⟨by simp only; omega, by simp only; omega, hq.ok.2.2⟩, hq.c⟩⟩, by simp [DV.op, DS.v, hn, DV.done], .inr ⟨q, _, rfl, rfl, rfl, rfl, rfl⟩, rfl⟩ ?_
    simp only [drI, drO, plI, plv, Pl.obj, bankItems, List.cons_append, List.nil_append]
    exact (by repeat (first | exact Part.nil | refine Part.cons zK ?_ | refine Part.free ?_))
theorem dops_r (s : DS) (w : World) (hdn : s.down = false) (ok : s.Ok p) (hops : s.ops < 4611686018427387904) (st : St w S (drI p s) w) :
    Calls Tryz.prog 88 #[.pointer (some ⟨p.bd, 0, none⟩), .func (.func 91) #[] #[], .func (.func 92) #[bptr p.bk] #[]] w (GivesS S (DrV p s.v.sync.1 s.v.sync.2) w) := by
  refine enterS (args := [.pointer (some ⟨p.bd, 0, none⟩), .func (.func 91) #[] #[], .func (.func 92) #[bptr p.bk] #[]]) Tryz.func88 Tryz.ntmps88 rfl rfl st ?_
  obtain ⟨d, F, M, c, down, pl, ops, rd⟩ := s
  simp only at hdn ok hops ⊢
  subst hdn
  cases pl with
  | none =>
    simp only [drI, drO, plI, plv, bankItems, List.cons_append, List.nil_append]
    (repeat (first | refine WL.step (Yl.move rfl) rfl ?_ | refine WL.step (Yl.assign rfl) rfl ?_ | refine WC.seq ?_ | refine WC.region ?_ | refine WL.nil ?_ | refine WN.then_normal ?_))
    refine WL.callFV (g := 91) (v := .int .i64 0) (cs := []) Tryz.call91 rfl rfl (fun w0 st => dnothing_c w0) rfl ?_
    (repeat (first | refine WL.step (Yl.move rfl) rfl ?_ | refine WL.step (Yl.assign rfl) rfl ?_ | refine WL.step (Yl.neqF rfl rfl rfl) rfl ?_ | refine WC.seq ?_ | refine WC.region ?_ | refine WL.nil ?_ | refine WN.then_normal ?_))
    refine WC.cond_false rfl rfl ?_
    have hsv : ∀ v : DV, v.down = false → v.sync = v.op DV.done := fun v h1 => by rw [DV.sync, if_neg (by simp [h1])]
    rw [hsv _ rfl]
    (repeat (first | refine WL.step (Yl.move rfl) rfl ?_ | (refine WL.k_load ?_; refine WL.step (Yl.loadBlk (T := 2) Tryz.isAgg2 rfl zH (by rfl)) rfl ?_) | (refine WL.k_fld ?_; refine WL.step (Yl.fldN0 (i := 3) (o := 3) (by kernel_rfl) rfl) rfl ?_) | refine WL.step (Yl.nilCheck rfl) rfl ?_ | (refine WL.k_bin .add ?_; refine WL.step (Yl.add64C rfl (by omega)) rfl ?_) | refine WC.seq ?_ | refine WC.region ?_ | refine WN.then_normal ?_ | refine WC.skip ?_))
    refine WL.storeAt (T := 2) Tryz.sizeOf2 rfl rfl rfl zK rfl ?_
    (repeat (first | refine WL.step (Yl.move rfl) rfl ?_ | (refine WL.k_load ?_; refine WL.step (Yl.loadBlk (T := 73) Tryz.isAgg73 rfl zH (by rfl)) rfl ?_) | (refine WL.k_fld ?_; refine WL.step (Yl.fldN0 (i := 2) (o := 2) (by kernel_rfl) rfl) rfl ?_) | refine WL.step (Yl.nilCheck rfl) rfl ?_ | (refine WL.k_bin .neq ?_; refine WL.step (Yl.neqPN (by kernel_rfl) rfl) rfl ?_) | refine WC.seq ?_ | refine WC.region ?_ | refine WL.nil ?_ | refine WN.then_normal ?_))
    refine WC.cond_false rfl rfl ?_
    (repeat (first | refine WL.step (Yl.move rfl) rfl ?_ | refine WC.seq ?_ | refine WC.region ?_ | refine WN.then_normal ?_ | refine WC.skip ?_))
    refine WL.callB (g := 92) (A0 := bankItems p.bk p.da p.cap p.mb d M c) (bd := [bptr p.bk]) Tryz.call92 rfl rfl ((pk zK (pk zK (pk zK (List.Perm.refl _))))) (fun w0 st2 s1 => bsync_r M c w0 ok.wf ok.cap ok.m s1) rfl fun v C hv => ?_
    obtain ⟨M2, c2, hM2, rfl, rfl⟩ := hv
    have hcw := crash_wf [128] ok.wf
    have e2 : (crashR [128] d F).2 = 0 := by rw [crashR, if_pos keepOne]
    simp only at hcw hM2 ⊢
    rw [e2]
    (repeat (first | refine WL.step (Yl.assign rfl) rfl ?_ | refine WL.nil ?_ | refine WN.then_normal ?_ | refine WC.ret ?_))
    refine WN.ret1S rfl rfl ⟨rfl, ⟨(crashR [128] d F).1.1, (crashR [128] d F).1.2, M2, c2, false, none, ops + 1, rd⟩, ⟨hcw.1, by simp only [hcw.2]; exact ok.cap, hM2, fun q hq => by cases hq⟩, rfl, rfl⟩ ?_
    simp only [drI, drO, plI, plv, Pl.obj, bankItems, List.cons_append, List.nil_append]
    exact (by repeat (first | exact Part.nil | refine Part.cons zK ?_ | refine Part.free ?_))
  | some q =>
    simp only [drI, drO, plI, plv, bankItems, List.cons_append, List.nil_append]
    (repeat (first | refine WL.step (Yl.move rfl) rfl ?_ | refine WL.step (Yl.assign rfl) rfl ?_ | refine WC.seq ?_ | refine WC.region ?_ | refine WL.nil ?_ | refine WN.then_normal ?_))
    refine WL.callFV (g := 91) (v := .int .i64 0) (cs := []) Tryz.call91 rfl rfl (fun w0 st => dnothing_c w0) rfl ?_
    (repeat (first | refine WL.step (Yl.move rfl) rfl ?_ | refine WL.step (Yl.assign rfl) rfl ?_ | refine WL.step (Yl.neqF rfl rfl rfl) rfl ?_ | refine WC.seq ?_ | refine WC.region ?_ | refine WL.nil ?_ | refine WN.then_normal ?_))
    refine WC.cond_false rfl rfl ?_
    have hsv : ∀ v : DV, v.down = false → v.sync = v.op DV.done := fun v h1 => by rw [DV.sync, if_neg (by simp [h1])]
    rw [hsv _ rfl]
    (repeat (first | refine WL.step (Yl.move rfl) rfl ?_ | (refine WL.k_load ?_; refine WL.step (Yl.loadBlk (T := 2) Tryz.isAgg2 rfl zH (by rfl)) rfl ?_) | (refine WL.k_fld ?_; refine WL.step (Yl.fldN0 (i := 3) (o := 3) (by kernel_rfl) rfl) rfl ?_) | refine WL.step (Yl.nilCheck rfl) rfl ?_ | (refine WL.k_bin .add ?_; refine WL.step (Yl.add64C rfl (by omega)) rfl ?_) | refine WC.seq ?_ | refine WC.region ?_ | refine WN.then_normal ?_ | refine WC.skip ?_))
    refine WL.storeAt (T := 2) Tryz.sizeOf2 rfl rfl rfl zK rfl ?_
    (repeat (first | refine WL.step (Yl.move rfl) rfl ?_ | (refine WL.k_load ?_; refine WL.step (Yl.loadBlk (T := 73) Tryz.isAgg73 rfl zH (by rfl)) rfl ?_) | (refine WL.k_fld ?_; refine WL.step (Yl.fldN0 (i := 2) (o := 2) (by kernel_rfl) rfl) rfl ?_) | refine WL.step (Yl.nilCheck rfl) rfl ?_ | (refine WL.k_bin .neq ?_; refine WL.step (Yl.neqPN (by kernel_rfl) rfl) rfl ?_) | refine WC.seq ?_ | refine WC.region ?_ | refine WL.nil ?_ | refine WN.then_normal ?_))
    refine WC.cond_true rfl rfl ?_
    have hq := ok.pl q rfl
    have hn1 := hq.n1
    have hn2 := hq.ok.2.1
    have hkl := hq.ok.2.2.2.1
    rw [Pl.obj]
    (repeat (first | refine WL.step (Yl.move rfl) rfl ?_ | (refine WL.k_load ?_; first | refine WL.step (Yl.loadBlk (T := 3) Tryz.isAgg3 rfl zH (by rfl)) rfl ?_ | refine WL.step (Yl.loadBlk (T := 73) Tryz.isAgg73 rfl zH (by rfl)) rfl ?_) | (refine WL.k_fld ?_; first | refine WL.step (Yl.fldN0 (i := 0) (o := 0) (by kernel_rfl) rfl) rfl ?_ | refine WL.step (Yl.fldN0 (i := 2) (o := 2) (by kernel_rfl) rfl) rfl ?_) | refine WL.step (Yl.nilCheck rfl) rfl ?_ | (refine WL.k_bin .sub ?_; refine WL.step (Yl.sub64C rfl (by omega) (by omega)) rfl ?_) | refine WC.seq ?_ | refine WC.region ?_))
    refine WL.storeAt (T := 3) Tryz.sizeOf3 rfl rfl rfl zK rfl ?_
    by_cases hn : q.n = 1
    · (repeat (first | refine WL.step (Yl.move rfl) rfl ?_ | (refine WL.k_load ?_; first | refine WL.step (Yl.loadBlk (T := 3) Tryz.isAgg3 rfl zH (by rfl)) rfl ?_ | refine WL.step (Yl.loadBlk (T := 73) Tryz.isAgg73 rfl zH (by rfl)) rfl ?_) | (refine WL.k_fld ?_; first | refine WL.step (Yl.fldN0 (i := 0) (o := 0) (by kernel_rfl) rfl) rfl ?_ | refine WL.step (Yl.fldN0 (i := 2) (o := 2) (by kernel_rfl) rfl) rfl ?_) | refine WL.step (Yl.nilCheck rfl) rfl ?_ | (refine WL.k_bin .eql ?_; refine WL.step (Yl.eqlT rfl rfl (by omega)) rfl ?_) | refine WC.seq ?_ | refine WC.region ?_ | refine WL.nil ?_ | refine WN.then_normal ?_))
      refine WC.cond_true rfl rfl ?_
      (repeat (first | refine WL.step (Yl.move rfl) rfl ?_ | (refine WL.k_load ?_; first | refine WL.step (Yl.loadBlk (T := 61) Tryz.isAgg61 rfl zH (by rfl)) rfl ?_ | refine WL.step (Yl.loadBlk (T := 73) Tryz.isAgg73 rfl zH (by rfl)) rfl ?_) | (refine WL.k_fld ?_; first | refine WL.step (Yl.fldN0 (i := 1) (o := 1) (by kernel_rfl) rfl) rfl ?_ | refine WL.step (Yl.fldN0 (i := 2) (o := 2) (by kernel_rfl) rfl) rfl ?_) | refine WL.step (Yl.nilCheck rfl) rfl ?_ | refine WC.seq ?_ | refine WC.region ?_))
      refine WL.callS (g := 101) (A0 := .blk p.bd (drO p ⟨d, F, M, c, false, some q, ops + 1, rd⟩) :: bankItems p.bk p.da p.cap p.mb d M c) (B := [.blk q.b _, .row q.a q.c 3 1 (zcells q.K)]) Tryz.call101 rfl ((pk zK (pk zK (pk zK (pk zK (List.Perm.refl _)))))) (fun w0 st2 s1 => dcrash_r ⟨d, F, M, c, false, some q, ops + 1, rd⟩ q.a q.K.length q.c q.K w0 ok.wf ok.cap ok.m rfl (by omega) hq.ok.keep (row_out st2 ((pk zK (pk zK (pk zK (pk zK (List.Perm.refl _)))))) (.tail _ (.head _))) s1) rfl fun v C hv => ?_
      obtain ⟨rfl, t, ⟨t1, t2, t3, t4, t5, t6, tok⟩, rfl⟩ := hv
      simp only at t1 t2 t5 t6
      (repeat (first | refine WL.step (Yl.assign rfl) rfl ?_ | refine WL.nil ?_ | refine WN.then_normal ?_ | refine WC.ret ?_ | refine WN.then_ret ?_))
      refine WN.ret1S rfl rfl ⟨by simp [DV.op, DS.v, hn], t, tok, ?_, rfl⟩ ?_
      · obtain ⟨d9, F9, M9, c9, dn9, pl9, o9, r9⟩ := t
        simp only at t1 t2 t3 t4 t5 t6
        subst t1 t2 t3 t4 t5 t6
        simp [DV.op, DS.v, hn, DV.crash]
      · rw [drI, t4]
        simp only [plI, List.append_nil]
        exact Part.pre _
    (repeat (first | refine WL.step (Yl.move rfl) rfl ?_ | (refine WL.k_load ?_; first | refine WL.step (Yl.loadBlk (T := 3) Tryz.isAgg3 rfl zH (by rfl)) rfl ?_ | refine WL.step (Yl.loadBlk (T := 73) Tryz.isAgg73 rfl zH (by rfl)) rfl ?_) | (refine WL.k_fld ?_; first | refine WL.step (Yl.fldN0 (i := 0) (o := 0) (by kernel_rfl) rfl) rfl ?_ | refine WL.step (Yl.fldN0 (i := 2) (o := 2) (by kernel_rfl) rfl) rfl ?_) | refine WL.step (Yl.nilCheck rfl) rfl ?_ | (refine WL.k_bin .eql ?_; refine WL.step (Yl.eqlF rfl rfl (by omega)) rfl ?_) | refine WC.seq ?_ | refine WC.region ?_ | refine WL.nil ?_ | refine WN.then_normal ?_))
    refine WC.cond_false rfl rfl ?_
    (repeat (first | refine WL.step (Yl.move rfl) rfl ?_ | refine WC.seq ?_ | refine WC.region ?_ | refine WN.then_normal ?_ | refine WC.skip ?_))
    refine WL.callB (g := 92) (A0 := bankItems p.bk p.da p.cap p.mb d M c) (bd := [bptr p.bk]) Tryz.call92 rfl rfl ((pk zK (pk zK (pk zK (List.Perm.refl _))))) (fun w0 st2 s1 => bsync_r M c w0 ok.wf ok.cap ok.m s1) rfl fun v C hv => ?_
    obtain ⟨M2, c2, hM2, rfl, rfl⟩ := hv
    have hcw := crash_wf [128] ok.wf
    have e2 : (crashR [128] d F).2 = 0 := by rw [crashR, if_pos keepOne]
    simp only at hcw hM2 ⊢
    rw [e2]
    (repeat (first | refine WL.step (Yl.assign rfl) rfl ?_ | refine WL.nil ?_ | refine WN.then_normal ?_ | refine WC.ret ?_))
    refine WN.ret1S rfl rfl ⟨by simp [DV.op, DS.v, hn], ⟨(crashR [128] d F).1.1, (crashR [128] d F).1.2, M2, c2, false, some ⟨q.b, q.a, q.c, q.n - 1, q.K⟩, ops + 1, rd⟩, ⟨hcw.1, by simp only [hcw.2]; exact ok.cap, hM2, fun q2 hq2 => by simp only [Option.some.injEq] at hq2; subst hq2; exact ⟨by simp only; omega, ⟨by simp only; omega, by simp only; omega, hq.ok.2.2⟩, hq.c⟩⟩, by simp [DV.op, DS.v, hn, DV.done], rfl⟩ ?_
    simp only [drI, drO, plI, plv, Pl.obj, bankItems, List.cons_append, List.nil_append]
    exact (by repeat (first | exact Part.nil | refine Part.cons zK ?_ | refine Part.free ?_))
end
end Go.Proofs.YtbkdjfgkebkknaaGreatDoor
namespace Go.Proofs.YtbkdjfgkebkknaaGreatDoor
set_option linter.unusedVariables false
set_option linter.unusedSimpArgs false
open Go Go.RowKit
set_option maxRecDepth 100000
set_option maxHeartbeats 8000000
section
variable {P : Program} {fn : Func} {R : Value → List HA → Prop} {ρ : Env} {A B : List HA} {n : Nat} {w0 : World} {S : List Nat} {v : Value}
theorem WN.ret2S {t t2 : Tmp} {v2 : Value} (hr : fn.results = #[.tmp t, .tmp t2]) (hv : lk ρ t = some v) (hv2 : lk ρ t2 = some v2) (hR : R (.tuple #[v, v2]) B) (hp : Part A B) : WN ⟨P, n, w0, S⟩ (bodyPost P fn (GivesS S R w0)) .ret ρ A :=
  fun a w f s => bodyPost_ret (results_tmp2 hr _ _ _) f.defers (by rw [f.get t v hv, f.get t2 v2 hv2]; exact ⟨_, B, rfl, hR, s.part hp⟩)
end
theorem perm53 (x y z : HA) (L : List HA) : (z :: y :: x :: L).Perm (L ++ [x, y, z]) := by
  classical
  rw [List.perm_iff_count]; intro u; simp only [List.count_append, List.count_cons, List.count_nil]; omega
theorem permAr (x q1 q2 b : HA) (L R : List HA) : (x :: q1 :: q2 :: b :: (L ++ R)).Perm ((x :: L) ++ (q1 :: q2 :: b :: R)) := by
  classical
  rw [List.perm_iff_count]; intro u; simp only [List.count_append, List.count_cons]; omega
theorem partAr (q1 q2 b : HA) (R : List HA) : ∀ L : List HA, Part (q1 :: q2 :: b :: (L ++ R)) (L ++ [q1, q2])
  | [] => .cons .here (.cons .here .nil)
  | _ :: L => .cons (.there (.there (.there .here))) (partAr q1 q2 b R L)
theorem Yl.loadAllO {X : Cx} {A : List HA} {ρ : Env} {ty : TypeId} {x : Operand} {T T' : TypeId} {b k : Nat} {cs : Array Value} {fr : Nat × Nat} (hg : ∀ w, (isAgg T).run X.P w = .ok true w) (hk : ∀ w, (sizeOf T).run X.P w = .ok k w)
    (hx : ev ρ x = some (.pointer (some ⟨b, 0, none⟩))) (hm : Has X A b (.cells cs T' fr)) (hl : Nat.beq cs.size k = true) : Yl X (.load T x) ty ρ A (.agg cs) := by
  have hr : Rd X A (some ⟨b, 0, none⟩) cs.toList := fun w s => .inr ⟨b, 0, rfl, fun i v hi => by simp only [World.cell?, hm w s, Nat.zero_add]; simpa using hi⟩
  have := Yl.loadAggRd (X := X) (A := A) (ty := ty) (ρ := ρ) (us := cs.toList) (off := 0) hg hk hx hr (by simpa using hl) (by rw [List.drop_zero, List.take_length])
  rwa [Array.toArray_toList] at this
def DrdV (p : DP) (v : DV) (r : List UInt8 × Nat) : Value → List HA → Prop := fun u B => ∃ a c, r.1.length ≤ c ∧ u = .tuple #[.slice a r.1.length c, .int .i64 (r.2 : Int)] ∧ ∃ s : DS, s.Ok p ∧ s.v = v ∧ B = .row a c 151 1 (bs r.1) :: drI p s
def DV.read (v : DV) (sec : Int) : DV × (List UInt8 × Nat) := if v.down then (v, ([], 11)) else ((if (readR v.d v.F sec).2 = 0 then { v with rd := v.rd + 1 } else v), readR v.d v.F sec)
def DV.arm (v : DV) (n : Int) (K : List Int) : DV × Nat := if planOk n K then ((if n = 0 then (if v.down then { v with pl := none } else v.crash K) else { v with pl := some (n.toNat, K) }), 0) else (v, 2)
def DNewV (n : Nat) : Value → List HA → Prop := fun u B => ∃ p s, DS.Ok s p ∧ s.v = ⟨List.replicate n zblk, fun _ => none, false, none, 0, 0⟩ ∧ u = .tuple #[bptr p.bd, .int .i64 0] ∧ B = drI p s
theorem readR_code (d : List (List UInt8)) (F : Nat → Option (List UInt8)) (s : Int) : (readR d F s).2 = 0 ∨ (readR d F s).2 = 3 := by
  unfold readR; split <;> simp
theorem buildBk (a : Option Addr) (w : World) : (Instr.build 72 [(0, .pointer a)].toArray).run Tryz.prog w = .ok (.agg #[.pointer a]) w := by
  simp [Instr.build, Tryz.zeroValue72, run_underlying Tryz.underlying72, Tryz.sizeOf70, Value.cells, Instr.fill]
theorem buildDr (b : Value) (hb : b.oneCell' = true) (w : World) : (Instr.build 75 [(0, .agg #[b])].toArray).run Tryz.prog w = .ok (.agg #[b, .bool false, .pointer none, .int .i64 0, .int .i64 0]) w := by
  simp [Instr.build, Tryz.zeroValue75, run_underlying Tryz.underlying75, Tryz.sizeOf72, Tryz.sizeOf4, Tryz.sizeOf73, Tryz.sizeOf2, Value.cells, Instr.fill]
attribute [local irreducible] WL WC WN Yl WH WQ WT WE WU WG WV
section
variable {p : DP} {S : List Nat}
theorem dwrite_k (sec : Int) (a : Option Addr) (n c2 : Nat) (x : List UInt8) (s : DS) (w : World) (ok : s.Ok p) (hops : s.ops < 4611686018427387904) (hl : x.length = n) (hr : CellsOut w S a (bs x)) (st : St w S (drI p s) w) :
    Calls Tryz.prog 38 #[bptr p.bd, .int .i64 sec, .slice a n c2] w (GivesS S (DrK p s.pl (s.v.write sec x).1 (s.v.write sec x).2) w) := by
  refine enterS (args := [.pointer (some ⟨p.bd, 0, none⟩), _, _]) Tryz.func38 Tryz.ntmps38 rfl rfl st ?_
  (repeat (first | refine WC.seq ?_ | refine WC.region ?_))
  refine WL.box rfl rfl fun b3 => ?_
  refine WL.box rfl rfl fun b4 => ?_
  refine WL.box rfl rfl fun b5 => ?_
  rw [show (Value.pointer (some ⟨p.bd, 0, none⟩)).cells = #[bptr p.bd] from rfl, show (Value.int .i64 sec).cells = #[.int .i64 sec] from rfl, show (Value.slice a n c2).cells = #[.slice a n c2] from rfl]
  (repeat (first | refine WL.step (Yl.move rfl) rfl ?_ | refine WL.step (Yl.assign rfl) rfl ?_ | (refine WL.k_load ?_; refine WL.step (Yl.loadBlk (T := 26) Tryz.isAgg26 rfl zH (by rfl)) rfl ?_) | refine WL.callV (g := 87) (v := .int .i64 (if s.down then 11 else 0)) Tryz.call87 rfl (fun w0 st2 => dcheck_c w0 (ok.at_ st2 (fun x hx => .tail _ (.tail _ (.tail _ (hx)))))) rfl ?_ | refine WL.step (Yl.neq rfl rfl) rfl ?_ | refine WC.seq ?_ | refine WC.region ?_ | refine WL.nil ?_ | refine WN.then_normal ?_))
  cases e : s.down with
  | true =>
    rw [if_pos rfl]
    skip
    refine WC.cond_true rfl rfl ?_
    (repeat (first | refine WL.step (Yl.move rfl) rfl ?_ | refine WL.step (Yl.assign rfl) rfl ?_ | refine WC.seq ?_ | refine WC.region ?_ | refine WL.nil ?_ | refine WN.then_normal ?_ | refine WC.ret ?_ | refine WN.then_ret ?_))
    have hv : s.v.write sec x = (s.v, 11) := by rw [DV.write, if_pos (show s.v.down = true from e)]
    rw [hv]
    exact WN.ret1S rfl rfl ⟨rfl, s, ok, rfl, PlSub.refl _, rfl⟩ (.more (.more (.more (Part.refl _))))
  | false =>
    rw [if_neg (by decide)]
    skip
    refine WC.cond_false rfl rfl ?_
    (repeat (first | (refine WL.k_load ?_; refine WL.step (Yl.loadBlk (T := 26) Tryz.isAgg26 rfl zH (by rfl)) rfl ?_) | refine WL.step (Yl.capFunc rfl) rfl ?_ | refine WC.seq ?_ | refine WC.region ?_ | refine WN.then_normal ?_ | refine WC.skip ?_))
    refine WL.callS (g := 88) (A0 := drI p s ++ [.blk b3 (.cells #[bptr p.bd] 26 (0, 0)), .blk b4 (.cells #[.int .i64 sec] 3 (0, 0)), .blk b5 (.cells #[.slice a n c2] 23 (0, 0))]) (B := []) Tryz.call88 rfl (by rw [List.append_nil]; exact perm53 _ _ _ _) (fun w0 st2 s1 => dopw_r b3 b4 b5 sec a n c2 x s w0 e ok hops hl (old_out st2 (by rw [List.append_nil]; exact perm53 _ _ _ _) hr) s1) rfl fun v C hv => ?_
    obtain ⟨rfl, t, tok, htv, hps, rfl⟩ := hv
    (repeat (first | refine WL.step (Yl.assign rfl) rfl ?_ | refine WL.nil ?_ | refine WN.then_normal ?_ | refine WC.ret ?_))
    refine WN.ret1S rfl rfl ⟨rfl, t, tok, htv, hps, rfl⟩ ?_
    rw [List.append_nil]; exact Part.refl _
theorem dsync_r (s : DS) (w : World) (ok : s.Ok p) (hops : s.ops < 4611686018427387904) (st : St w S (drI p s) w) :
    Calls Tryz.prog 39 #[bptr p.bd] w (GivesS S (DrV p s.v.sync.1 s.v.sync.2) w) := by
  refine enterS (args := [.pointer (some ⟨p.bd, 0, none⟩)]) Tryz.func39 Tryz.ntmps39 rfl rfl st ?_
  (repeat (first | refine WL.step (Yl.move rfl) rfl ?_ | refine WL.step (Yl.assign rfl) rfl ?_ | refine WL.callV (g := 87) (v := .int .i64 (if s.down then 11 else 0)) Tryz.call87 rfl (fun w0 st2 => dcheck_c w0 (ok.at_ st2 (fun x hx => hx))) rfl ?_ | refine WL.step (Yl.neq rfl rfl) rfl ?_ | refine WC.seq ?_ | refine WC.region ?_ | refine WL.nil ?_ | refine WN.then_normal ?_))
  cases e : s.down with
  | true =>
    rw [if_pos rfl]
    skip
    refine WC.cond_true rfl rfl ?_
    (repeat (first | refine WL.step (Yl.move rfl) rfl ?_ | refine WL.step (Yl.assign rfl) rfl ?_ | refine WC.seq ?_ | refine WC.region ?_ | refine WL.nil ?_ | refine WN.then_normal ?_ | refine WC.ret ?_ | refine WN.then_ret ?_))
    have hv : s.v.sync = (s.v, 11) := by rw [DV.sync, if_pos (show s.v.down = true from e)]
    rw [hv]
    exact WN.ret1S rfl rfl ⟨rfl, s, ok, rfl, rfl⟩ (Part.refl _)
  | false =>
    rw [if_neg (by decide)]
    skip
    refine WC.cond_false rfl rfl ?_
    have hbk : HA.blk p.bd (drO p s) ∈ drI p s := .head _
    (repeat (first | refine WL.step (Yl.move rfl) rfl ?_ | (refine WL.k_load ?_; refine WL.step (Yl.loadBlk (T := 70) Tryz.isAgg70 rfl hbk (by rfl)) rfl ?_) | (refine WL.k_fld ?_; refine WL.step (Yl.fldN0 (i := 0) (o := 0) (by kernel_rfl) rfl) rfl ?_) | refine WL.step (Yl.nilCheck rfl) rfl ?_ | refine WL.step (Yl.bindFunc rfl) rfl ?_ | refine WC.seq ?_ | refine WC.region ?_ | refine WN.then_normal ?_ | refine WC.skip ?_))
    refine WL.callS (g := 88) (A0 := drI p s) (B := []) Tryz.call88 rfl (by rw [List.append_nil]) (fun w0 st2 s1 => dops_r s w0 e ok hops s1) rfl fun v C hv => ?_
    obtain ⟨rfl, t, tok, htv, rfl⟩ := hv
    (repeat (first | refine WL.step (Yl.assign rfl) rfl ?_ | refine WL.nil ?_ | refine WN.then_normal ?_ | refine WC.ret ?_))
    refine WN.ret1S rfl rfl ⟨rfl, t, tok, htv, rfl⟩ ?_
    rw [List.append_nil]; exact Part.refl _
theorem dread_r (sec : Int) (s : DS) (w : World) (ok : s.Ok p) (hrd : s.rd < 4611686018427387904) (st : St w S (drI p s) w) :
    Calls Tryz.prog 37 #[bptr p.bd, .int .i64 sec] w (GivesS S (DrdV p (s.v.read sec).1 (s.v.read sec).2) w) := by
  refine enterS (args := [.pointer (some ⟨p.bd, 0, none⟩), _]) Tryz.func37 Tryz.ntmps37 rfl rfl st ?_
  (repeat (first | refine WL.step (Yl.move rfl) rfl ?_ | refine WL.step (Yl.assign rfl) rfl ?_ | refine WL.callV (g := 87) (v := .int .i64 (if s.down then 11 else 0)) Tryz.call87 rfl (fun w0 st2 => dcheck_c w0 (ok.at_ st2 (fun x hx => hx))) rfl ?_ | refine WL.step (Yl.neq rfl rfl) rfl ?_ | refine WC.seq ?_ | refine WC.region ?_ | refine WL.nil ?_ | refine WN.then_normal ?_))
  cases e : s.down with
  | true =>
    rw [if_pos rfl]
    skip
    refine WC.cond_true rfl rfl ?_
    (repeat (first | refine WL.step (Yl.move rfl) rfl ?_ | refine WL.step (Yl.assign rfl) rfl ?_ | refine WC.seq ?_ | refine WC.region ?_ | refine WL.nil ?_ | refine WN.then_normal ?_ | refine WC.ret ?_ | refine WN.then_ret ?_))
    have hv : s.v.read sec = (s.v, ([], 11)) := by rw [DV.read, if_pos (show s.v.down = true from e)]
    rw [hv]
    exact WN.ret2S rfl rfl rfl ⟨none, 0, Nat.le_refl _, rfl, s, ok, rfl, rfl⟩ (.free (Part.refl _))
  | false =>
    have hv : s.v.read sec = ((if (readR s.d s.F sec).2 = 0 then { s.v with rd := s.rd + 1 } else s.v), readR s.d s.F sec) := by rw [DV.read, if_neg (by rw [show s.v.down = false from e]; decide)]; rfl
    rw [hv]
    rw [if_neg (show ¬ (false = true) by decide)]
    skip
    refine WC.cond_false rfl rfl ?_
    have hbk : HA.blk p.bd (drO p s) ∈ drI p s := .head _
    (repeat (first | refine WL.step (Yl.move rfl) rfl ?_ | (refine WL.k_load ?_; refine WL.step (Yl.loadBlk (T := 70) Tryz.isAgg70 rfl hbk (by rfl)) rfl ?_) | (refine WL.k_fld ?_; refine WL.step (Yl.fldN0 (i := 0) (o := 0) (by kernel_rfl) rfl) rfl ?_) | refine WL.step (Yl.nilCheck rfl) rfl ?_ | refine WC.seq ?_ | refine WC.region ?_ | refine WN.then_normal ?_ | refine WC.skip ?_))
    refine WL.call (g := 46) Tryz.call46 rfl (fun w0 st2 => bread_c sec w0 (ok.at_ st2 (fun x hx => hx)).bank) rfl fun v B hv => ?_
    obtain ⟨a', c', hc', rfl, rfl⟩ := hv
    rcases readR_code s.d s.F sec with h | h
    · rw [h, if_pos rfl]
      (repeat (first | refine WL.step (Yl.move rfl) rfl ?_ | refine WL.step (Yl.assign rfl) rfl ?_ | refine WL.step (Yl.extract rfl rfl) rfl ?_ | refine WL.step (Yl.eqlT rfl rfl rfl) rfl ?_ | refine WC.seq ?_ | refine WC.region ?_ | refine WL.nil ?_ | refine WN.then_normal ?_))
      refine WC.cond_true rfl rfl ?_
      simp only [drI, drO, plv, List.cons_append, List.nil_append]
      (repeat (first | refine WL.step (Yl.move rfl) rfl ?_ | (refine WL.k_load ?_; refine WL.step (Yl.loadBlk (T := 2) Tryz.isAgg2 rfl zH (by rfl)) rfl ?_) | (refine WL.k_fld ?_; refine WL.step (Yl.fldN0 (i := 4) (o := 4) (by kernel_rfl) rfl) rfl ?_) | refine WL.step (Yl.nilCheck rfl) rfl ?_ | (refine WL.k_bin .add ?_; refine WL.step (Yl.add64C rfl (by omega)) rfl ?_) | refine WC.region ?_))
      refine WL.storeAt (T := 2) Tryz.sizeOf2 rfl rfl rfl (.there .here) rfl ?_
      (repeat (first | refine WL.step (Yl.move rfl) rfl ?_ | refine WL.step (Yl.assign rfl) rfl ?_ | refine WC.seq ?_ | refine WC.region ?_ | refine WL.nil ?_ | refine WN.then_normal ?_ | refine WC.ret ?_))
      refine WN.ret2S rfl rfl rfl ⟨a', c', hc', by rw [h]; rfl, ⟨s.d, s.F, s.M, s.c, s.down, s.pl, s.ops, s.rd + 1⟩, ⟨ok.wf, ok.cap, ok.m, ok.pl⟩, rfl, rfl⟩ ?_
      simp only [drI, drO]
      exact .cons (.there .here) (.cons .here (Part.refl _))
    · rw [h, if_neg (show ¬ (3 = 0) by decide)]
      (repeat (first | refine WL.step (Yl.move rfl) rfl ?_ | refine WL.step (Yl.assign rfl) rfl ?_ | refine WL.step (Yl.extract rfl rfl) rfl ?_ | (refine WL.k_bin .eql ?_; refine WL.step (Yl.eqlF rfl rfl (by decide)) rfl ?_) | refine WC.seq ?_ | refine WC.region ?_ | refine WL.nil ?_ | refine WN.then_normal ?_))
      refine WC.cond_false rfl rfl ?_
      (repeat (first | refine WL.step (Yl.move rfl) rfl ?_ | refine WL.step (Yl.assign rfl) rfl ?_ | refine WC.seq ?_ | refine WC.region ?_ | refine WL.nil ?_ | refine WN.then_normal ?_ | refine WC.skip ?_ | refine WC.ret ?_))
      exact WN.ret2S rfl rfl rfl ⟨a', c', hc', by rw [h]; rfl, s, ok, rfl, rfl⟩ (Part.refl _)
theorem dnew_c (n : Nat) (w : World) (h1 : 1 ≤ n) (h2 : n ≤ 4096) : Calls Tryz.prog 11 #[.int .i64 (n : Int)] w (Gives (DNewV n) w) := by
  refine enter (args := [_]) Tryz.func11 Tryz.ntmps11 rfl rfl ?_
  (repeat (first | refine WL.step (Yl.move rfl) rfl ?_ | refine WL.step (Yl.assign rfl) rfl ?_ | refine WC.seq ?_ | refine WC.region ?_ | refine WL.nil ?_ | refine WN.then_normal ?_))
  refine WL.call (g := 55) Tryz.call55 rfl (fun w0 st => bnew_c n w0 h1 h2) rfl fun v1 B1 hv1 => ?_
  obtain ⟨bk, da, cp, mb, hcap, rfl, rfl⟩ := hv1
  (repeat (first | refine WL.step (Yl.move rfl) rfl ?_ | refine WL.step (Yl.assign rfl) rfl ?_ | refine WL.step (Yl.extract rfl rfl) rfl ?_ | refine WL.step (Yl.neqF rfl rfl rfl) rfl ?_ | refine WC.seq ?_ | refine WC.region ?_ | refine WL.nil ?_ | refine WN.then_normal ?_))
  refine WC.cond_false rfl rfl ?_
  (repeat (first | refine WL.step (Yl.move rfl) rfl ?_ | (refine WL.k_build ?_; first | refine WL.step (Yl.build (ps := [(0, .tmp 14)]) (vs := [(0, bptr bk)]) rfl (buildBk _)) rfl ?_ | refine WL.step (Yl.build (ps := [(0, .tmp 15)]) (vs := [(0, .agg #[bptr bk])]) rfl (buildDr _ rfl)) rfl ?_) | refine WC.seq ?_ | refine WC.region ?_ | refine WN.then_normal ?_ | refine WC.skip ?_))
  refine WL.boxA rfl rfl fun bd => ?_
  (repeat (first | refine WL.step (Yl.assign rfl) rfl ?_ | refine WL.nil ?_ | refine WN.then_normal ?_ | refine WC.ret ?_))
  refine WN.ret2 rfl rfl rfl ⟨⟨bd, bk, da, cp, mb⟩, ⟨List.replicate n zblk, fun _ => none, [], 0, false, none, 0, 0⟩, ⟨new_wf h1 h2, by simp only [List.length_replicate]; exact hcap, MapIs.empty (β := List UInt8) _, fun q hq => by cases hq⟩, rfl, rfl, rfl⟩ ?_
  simp only [drI, drO, plI, plv, List.append_nil]
  exact Part.refl _
theorem darm_r (n : Int) (a : Option Addr) (m c2 : Nat) (K : List Int) (s : DS) (w : World) (ok : s.Ok p) (hl : K.length = m) (hm : m ≤ 9223372036854775807) (hr : CellsOut w S a (zcells K)) (st : St w S (drI p s) w) :
    Calls Tryz.prog 48 #[bptr p.bd, .agg #[.int .i64 n, .slice a m c2]] w (GivesS S (DrV p (s.v.arm n K).1 (s.v.arm n K).2) w) := by
  refine enterS (args := [.pointer (some ⟨p.bd, 0, none⟩), .agg #[.int .i64 n, .slice a m c2]]) Tryz.func48 Tryz.ntmps48 rfl rfl st ?_
  subst hl
  (repeat (first | refine WC.seq ?_ | refine WC.region ?_))
  refine WL.boxA rfl rfl fun b3 => ?_
  (repeat (first | refine WL.step (Yl.move rfl) rfl ?_ | refine WL.step (Yl.assign rfl) rfl ?_ | refine WL.callV (g := 67) (v := .bool true) Tryz.call67 rfl (fun w0 st2 => dmade_c w0 (ok.at_ st2 (fun x hx => .tail _ (hx)))) rfl ?_ | refine WL.step (Yl.not rfl) rfl ?_ | refine WC.seq ?_ | refine WC.region ?_ | refine WL.nil ?_ | refine WN.then_normal ?_))
  refine WC.cond_false rfl rfl ?_
  (repeat (first | (refine WL.k_load ?_; refine WL.step (Yl.loadAll (T := 63) (T' := 63) Tryz.isAgg63 Tryz.sizeOf63 rfl zH rfl) rfl ?_) | refine WC.seq ?_ | refine WC.region ?_ | refine WN.then_normal ?_ | refine WC.skip ?_))
  refine WL.callV (g := 100) (v := .int .i64 (if planOk n K then 0 else 2)) Tryz.call100 rfl (fun w0 st2 => dchk_c n a K.length c2 K w0 rfl hm (Rd.out (P := Tryz.prog) (n := 0) hr w0 st2)) rfl ?_
  by_cases hp : ¬ planOk n K
  · rw [if_neg hp, show s.v.arm n K = (s.v, 2) by rw [DV.arm, if_neg hp]]
    (repeat (first | refine WL.step (Yl.move rfl) rfl ?_ | refine WL.step (Yl.assign rfl) rfl ?_ | (refine WL.k_bin .neq ?_; refine WL.step (Yl.neqT rfl rfl (by decide)) rfl ?_) | refine WC.seq ?_ | refine WC.region ?_ | refine WL.nil ?_ | refine WN.then_normal ?_))
    refine WC.cond_true rfl rfl ?_
    (repeat (first | refine WL.step (Yl.move rfl) rfl ?_ | refine WL.step (Yl.assign rfl) rfl ?_ | refine WC.seq ?_ | refine WC.region ?_ | refine WL.nil ?_ | refine WN.then_normal ?_ | refine WC.ret ?_ | refine WN.then_ret ?_))
    exact WN.ret1S rfl rfl ⟨rfl, s, ok, rfl, rfl⟩ (.more (Part.refl _))
  have hp := Decidable.not_not.1 hp
  have hk64 := hp.2.2.2.1
  rw [if_pos hp, show s.v.arm n K = ((if n = 0 then (if s.v.down then { s.v with pl := none } else s.v.crash K) else { s.v with pl := some (n.toNat, K) }), 0) by rw [DV.arm, if_pos hp]]
  (repeat (first | refine WL.step (Yl.move rfl) rfl ?_ | refine WL.step (Yl.assign rfl) rfl ?_ | refine WL.step (Yl.neqF rfl rfl rfl) rfl ?_ | refine WC.seq ?_ | refine WC.region ?_ | refine WL.nil ?_ | refine WN.then_normal ?_))
  refine WC.cond_false rfl rfl ?_
  (repeat (first | refine WL.step (Yl.move rfl) rfl ?_ | (refine WL.k_load ?_; refine WL.step (Yl.loadAll (T := 63) (T' := 63) Tryz.isAgg63 Tryz.sizeOf63 rfl zH rfl) rfl ?_) | refine WC.seq ?_ | refine WC.region ?_ | refine WN.then_normal ?_ | refine WC.skip ?_))
  refine WL.call (g := 68) Tryz.call68 rfl (fun w0 st2 => dclone_c n a K.length c2 K w0 rfl (by omega) (Rd.out (P := Tryz.prog) (n := 0) hr w0 st2)) rfl fun v B hv => ?_
  obtain ⟨qb, qa, qc, rfl, hqc, rfl⟩ := hv
  obtain ⟨LB, hLB⟩ : ∃ L, L = bankItems p.bk p.da p.cap p.mb s.d s.M s.c := ⟨_, rfl⟩
  simp only [drI, drO, plv, List.cons_append, List.nil_append]
  rw [← hLB]
  (repeat (first | (refine WL.k_fld ?_; refine WL.step (Yl.fldN0 (i := 2) (o := 2) (by kernel_rfl) rfl) rfl ?_) | refine WL.step (Yl.nilCheck rfl) rfl ?_))
  refine WL.storeAt (T := 73) Tryz.sizeOf73 rfl rfl rfl zK rfl ?_
  by_cases h0 : n = 0
  · subst h0
    rw [if_pos rfl]
    (repeat (first | (refine WL.k_load ?_; refine WL.step (Yl.loadBlk (T := 3) Tryz.isAgg3 rfl zH (by rfl)) rfl ?_) | (refine WL.k_fld ?_; refine WL.step (Yl.fldN0 (i := 0) (o := 0) (by kernel_rfl) rfl) rfl ?_) | refine WL.step (Yl.eqlT rfl rfl rfl) rfl ?_ | refine WC.seq ?_ | refine WC.region ?_ | refine WL.nil ?_ | refine WN.then_normal ?_))
    refine WC.cond_true rfl rfl ?_
    (repeat (first | refine WL.step (Yl.move rfl) rfl ?_ | (refine WL.k_fld ?_; refine WL.step (Yl.fldN0 (i := 2) (o := 2) (by kernel_rfl) rfl) rfl ?_) | refine WL.step (Yl.nilCheck rfl) rfl ?_ | refine WC.seq ?_ | refine WC.region ?_))
    refine WL.storeAt (T := 73) Tryz.sizeOf73 rfl rfl rfl .here rfl ?_
    (repeat (first | refine WL.step (Yl.move rfl) rfl ?_ | (refine WL.k_load ?_; refine WL.step (Yl.loadBlk (T := 4) Tryz.isAgg4 rfl zH (by rfl)) rfl ?_) | (refine WL.k_fld ?_; refine WL.step (Yl.fldN0 (i := 1) (o := 1) (by kernel_rfl) rfl) rfl ?_) | refine WL.step (Yl.nilCheck rfl) rfl ?_ | refine WL.step (Yl.not rfl) rfl ?_ | refine WC.seq ?_ | refine WC.region ?_ | refine WL.nil ?_ | refine WN.then_normal ?_))
    cases e : s.down with
    | true =>
      refine WC.cond_false rfl rfl ?_
      (repeat (first | refine WL.step (Yl.assign rfl) rfl ?_ | refine WC.seq ?_ | refine WC.region ?_ | refine WL.nil ?_ | refine WN.then_normal ?_ | refine WC.skip ?_ | refine WC.ret ?_))
      refine WN.ret1S rfl rfl ⟨rfl, ⟨s.d, s.F, s.M, s.c, true, none, s.ops, s.rd⟩, ⟨ok.wf, ok.cap, ok.m, fun q hq => by cases hq⟩, by rw [if_pos (show s.v.down = true from e)]; simp only [DS.v, e, Option.map_none], rfl⟩ ?_
      simp only [drI, drO, plI, plv, List.append_nil]
      subst hLB
      exact .cons .here (.more (.more (.more (by rw [← List.append_nil (bankItems _ _ _ _ _ _ _)]; exact Part.app _ .nil))))
    | false =>
      refine WC.cond_true rfl rfl ?_
      (repeat (first | refine WL.step (Yl.move rfl) rfl ?_ | (refine WL.k_load ?_; refine WL.step (Yl.loadBlk (T := 61) Tryz.isAgg61 rfl zH (by rfl)) rfl ?_) | (refine WL.k_fld ?_; refine WL.step (Yl.fldN0 (i := 1) (o := 1) (by kernel_rfl) rfl) rfl ?_) | refine WC.region ?_))
      subst hLB
      refine WL.callS (g := 101) (A0 := .blk p.bd (drO p ⟨s.d, s.F, s.M, s.c, false, none, s.ops, s.rd⟩) :: bankItems p.bk p.da p.cap p.mb s.d s.M s.c) (B := .blk qb (.cells #[.int .i64 0, .slice qa K.length qc] 63 (0, 0)) :: .row qa qc 3 1 (zcells K) :: .blk b3 (.cells #[.int .i64 0, .slice a K.length c2] 63 (0, 0)) :: plI s.pl) Tryz.call101 rfl (permAr _ _ _ _ _ _) (fun w0 st2 s1 => dcrash_r ⟨s.d, s.F, s.M, s.c, false, none, s.ops, s.rd⟩ a K.length c2 K w0 ok.wf ok.cap ok.m rfl (by omega) hp.keep (old_out st2 (permAr _ _ _ _ _ _) hr) s1) rfl fun v C hv => ?_
      obtain ⟨rfl, t, ⟨t1, t2, t3, t4, t5, t6, tok⟩, rfl⟩ := hv
      simp only at t1 t2 t5 t6
      (repeat (first | refine WL.step (Yl.assign rfl) rfl ?_ | refine WC.seq ?_ | refine WC.region ?_ | refine WL.nil ?_ | refine WN.then_normal ?_ | refine WC.ret ?_))
      refine WN.ret1S rfl rfl ⟨rfl, t, tok, ?_, rfl⟩ ?_
      · rw [if_neg (by rw [show s.v.down = false from e]; decide)]
        obtain ⟨d9, F9, M9, c9, dn9, pl9, o9, r9⟩ := t
        simp only at t1 t2 t3 t4 t5 t6
        subst t1 t2 t3 t4 t5 t6
        simp [DS.v, DV.crash]
      · rw [drI, t4]
        simp only [plI, List.append_nil]
        exact Part.pre _
  · rw [if_neg h0]
    obtain ⟨k, rfl⟩ := Int.eq_ofNat_of_zero_le hp.1
    (repeat (first | (refine WL.k_load ?_; refine WL.step (Yl.loadBlk (T := 3) Tryz.isAgg3 rfl zH (by rfl)) rfl ?_) | (refine WL.k_fld ?_; refine WL.step (Yl.fldN0 (i := 0) (o := 0) (by kernel_rfl) rfl) rfl ?_) | (refine WL.k_bin .eql ?_; refine WL.step (Yl.eqlF rfl rfl (by omega)) rfl ?_) | refine WC.seq ?_ | refine WC.region ?_ | refine WL.nil ?_ | refine WN.then_normal ?_))
    refine WC.cond_false rfl rfl ?_
    (repeat (first | refine WL.step (Yl.assign rfl) rfl ?_ | refine WC.seq ?_ | refine WC.region ?_ | refine WL.nil ?_ | refine WN.then_normal ?_ | refine WC.skip ?_ | refine WC.ret ?_))
    refine WN.ret1S rfl rfl ⟨rfl, ⟨s.d, s.F, s.M, s.c, s.down, some ⟨qb, qa, qc, k, K⟩, s.ops, s.rd⟩, ⟨ok.wf, ok.cap, ok.m, fun q hq => by simp only [Option.some.injEq] at hq; subst hq; exact ⟨by simp only; omega, hp, hqc⟩⟩, rfl, rfl⟩ ?_
    simp only [drI, drO, plI, plv, Pl.obj]
    subst hLB
    exact .cons .here (partAr _ _ _ _ _)
end
end Go.Proofs.YtbkdjfgkebkknaaGreatDoor
namespace Go.Proofs.YtbkdjfgkebkknaaGreatDoor
set_option linter.unusedVariables false
set_option linter.unusedSimpArgs false
open Go Go.RowKit
set_option maxRecDepth 100000
set_option maxHeartbeats 8000000
section
variable {X : Cx} {ops : Array Oper} {Q : Exit → Act → World → Prop} {ρ : Env} {A B : List HA} {rest : List Oper} {d : Tmp} {op : Op} {ty : TypeId} {ps : String} {af : Array Edge} {v : Value}
theorem WL.noZero {f : FuncId} {fn : Func} {t e pT : TypeId} {n : Nat} {x : Operand} {ts : Array TypeId} (hf : X.P.funcs[f]? = some fn) (hname : (fn.name == "runtime.NumGoroutine") = false) (hb : fn.body.isNone = true) (hn : Extern.findNext fn = none) (he : Extern.find fn = some (Extern.BytealgMakeNoZero.makeNoZero #[pT] #[t]))
    (hu : X.P.underlying t = some (.slice e)) (hx : ev ρ x = some (.int .i64 (n : Int))) (hn2 : n ≤ 1000000) (hd : Nat.blt d X.n = true)
    (h : ∀ (q : Option Addr × Nat) (vs : List Value), n ≤ q.2 → vs.length = n → WL X ops Q rest ((d, .slice q.1 n q.2) :: ρ) (.row q.1 q.2 e 1 vs :: A)) :
    WL X ops Q (⟨some d, .call { callee := .value (.func f), args := #[x], argTypes := ts }, ty, ps, af, none⟩ :: rest) ρ A :=
  WL.stepE (ι := { q : Nat × Nat × List Value // n ≤ q.2.1 ∧ q.2.2.length = n }) (fun i => .slice (some ⟨i.1.1, 0, none⟩) n i.1.2.1) (fun i => .row (some ⟨i.1.1, 0, none⟩) i.1.2.1 e 1 i.1.2.2 :: A) (fun o ho _ a w f1 s => by
    obtain ⟨cs, hrun, hle, hmax⟩ := Lib.run_makeNoZero (P := X.P) w #[pT] t e hu n (by omega)
    have hl : (cs.toList.take n).length = n := by rw [List.length_take, Array.length_toList]; omega
    have s2 : St X.w0 X.S A w.drew.drew := s.drew.drew
    refine ⟨⟨(w.heap.size, cs.size, cs.toList.take n), hle, hl⟩, w.drew.drew.alloc (.cells cs e), ?_, s2.new (Kept.alloc w.drew.drew _) (.inr ⟨w.heap.size, cs, rfl, ?_, ?_, hmax (by simp only [maxLen]; omega), ?_, ?_⟩) (fun b hb => ?_)⟩
    · have hc := run_callFunc_extern hf hname hb hn he #[.int .i64 (n : Int)] w
      rw [hrun] at hc
      have e1 := f1.ev hx
      simp only [execOp, ho, resolve, Deferred.ofValue, Act.eval, invoke, Sem.run_bind, Sem.run_pure, Result.andThen_ok, List.map_toArray, List.map_cons, List.map_nil]
      simp [Act.eval] at e1 ⊢
      rw [e1, hc]
      rfl
    · show (w.heap.push (.cells cs e))[w.heap.size]? = _; simp
    · simp
    · simp only [hl]; exact hle
    · simp only [hl]
    · simp only [HA.foot] at hb
      split at hb
      · cases hb
      · simp only [Option.map_some, Option.some.injEq] at hb; subst hb; exact Nat.le_refl _) hd (fun i => h (some ⟨i.1.1, 0, none⟩, i.1.2.1) i.1.2.2 i.2.1 i.2.2)
end
theorem rpre {X : Cx} {A : List HA} {a : Option Addr} {k m : Nat} {r : List Value} (b : UInt8) (h : Rd X A a (bs (List.replicate k b) ++ r)) (hm : m ≤ k) : Rd X A a (bs (List.replicate m b)) := by
  have h2 := Rd.cut (lo := 0) (cap := (bs (List.replicate k b) ++ r).length) (k := 1) (m := m) h (by omega)
  rw [cutA_zero, Nat.zero_mul, List.drop_zero, List.take_append_of_le_length (by rw [bs_length, List.length_replicate]; exact hm), ← bs_take, List.take_replicate, Nat.min_eq_left hm] at h2
  exact h2
theorem cutA_el {a : Option Addr} {i c : Nat} (h : c ≠ i) : cutA a i c 1 = el a i := by
  rw [cutA, if_neg h, Nat.mul_one]; rfl
attribute [local irreducible] WL WC WN Yl WH WQ WT WE WU WG WV
end Go.Proofs.YtbkdjfgkebkknaaGreatDoor
