import Derived.Test.YtbkdjfgkebkknaaGreatDoorRowJournalCrashesMg8
namespace Go.Proofs.YtbkdjfgkebkknaaGreatDoor
set_option linter.unusedVariables false
set_option linter.unusedSimpArgs false
open Go Go.RowKit
set_option maxRecDepth 100000
set_option maxHeartbeats 8000000
def DV.crash (v : DV) (K : List Int) : DV := { v with d := (crashR K v.d v.F).1.1, F := (crashR K v.d v.F).1.2, down := true, pl := none }
def DV.done (v : DV) : DV := { v with d := (crashR [128] v.d v.F).1.1, F := (crashR [128] v.d v.F).1.2 }
def DV.op (v : DV) (fin : DV → DV) : DV × Nat :=
  match v.pl with
  | none => (fin { v with ops := v.ops + 1 }, 0)
  | some (n, K) => if n = 1 then (({ v with ops := v.ops + 1 } : DV).crash K, 11) else (fin { v with ops := v.ops + 1, pl := some (n - 1, K) }, 0)
def DV.write (v : DV) (sec : Int) (x : List UInt8) : DV × Nat :=
  if v.down then (v, 11) else if writeE v.d.length sec x ≠ 0 then (v, writeE v.d.length sec x) else ({ v with F := writeF v.d.length v.F sec x } : DV).op id
def DV.sync (v : DV) : DV × Nat := if v.down then (v, 11) else v.op DV.done
theorem write_same {n : Nat} {F : Nat → Option (List UInt8)} {s : Int} {x : List UInt8} (h : writeE n s x ≠ 0) : writeF n F s x = F := by
  unfold writeF
  rw [if_neg]
  intro ⟨h1, h2⟩
  exact h (by unfold writeE; rw [if_pos h1, if_pos h2])
def PlSub (q0 q1 : Option Pl) : Prop := q1 = none ∨ ∃ q q', q0 = some q ∧ q1 = some q' ∧ q'.b = q.b ∧ q'.a = q.a ∧ q'.c = q.c
def DrK (p : DP) (q0 : Option Pl) (v : DV) (e : Nat) : Value → List HA → Prop := fun u B => u = .int .i64 (e : Int) ∧ ∃ s : DS, s.Ok p ∧ s.v = v ∧ PlSub q0 s.pl ∧ B = drI p s
theorem PlSub.refl (q : Option Pl) : PlSub q q := by
  cases q with
  | none => exact .inl rfl
  | some q => exact .inr ⟨q, q, rfl, rfl, rfl, rfl, rfl⟩
theorem PlSub.trans {q0 q1 q2 : Option Pl} (h : PlSub q0 q1) (k : PlSub q1 q2) : PlSub q0 q2 := by
  rcases k with k | ⟨a, b, h1, h2, h3, h4, h5⟩
  · exact .inl k
  · rcases h with h | ⟨c, d, g1, g2, g3, g4, g5⟩
    · rw [h] at h1; cases h1
    · rw [g2] at h1; cases h1
      exact .inr ⟨c, b, g1, h2, h3.trans g3, h4.trans g4, h5.trans g5⟩
theorem drI_sub {p : DP} {s0 s : DS} (h : PlSub s0.pl s.pl) : ∀ b ∈ (drI p s).filterMap HA.foot, b ∈ (drI p s0).filterMap HA.foot := by
  intro b hb
  simp only [drI, List.filterMap_cons, List.filterMap_append, HA.foot, List.mem_cons, List.mem_append, bankItems] at hb ⊢
  rcases hb with hb | hb | hb
  · exact .inl hb
  · exact .inr (.inl hb)
  · refine .inr (.inr ?_)
    rcases h with h | ⟨q, q', h1, h2, h3, h4, h5⟩
    · rw [h] at hb; simp [plI] at hb
    · rw [h2] at hb; rw [h1]
      simp only [plI, List.filterMap_cons, HA.foot, h3, h4, h5] at hb ⊢
      exact hb
attribute [local irreducible] WL WC WN Yl WH WQ WT WE WU WG WV
section
variable {p : DP} {S : List Nat}
theorem dnothing_c (w : World) : Calls Tryz.prog 91 #[] w (Gives (Val (.int .i64 0)) w) := by
  refine enter (args := []) Tryz.func91 Tryz.ntmps91 rfl rfl ?_
  (repeat (first | refine WL.step (Yl.assign rfl) rfl ?_ | refine WC.seq ?_ | refine WC.region ?_ | refine WL.nil ?_ | refine WN.then_normal ?_ | refine WC.ret ?_))
  exact WN.ret1 rfl rfl ⟨rfl, rfl⟩ .nil
def W1V (p : DP) (d : List (List UInt8)) (F : Nat → Option (List UInt8)) (e : Nat) (o : Obj) : Value → List HA → Prop := fun u B => ∃ M c, MapIs d.length F M c ∧ u = .int .i64 (e : Int) ∧ B = bankItems p.bk p.da p.cap p.mb d M c ++ [.blk p.bd o]
theorem dw1_r (b3 b4 b5 : Nat) (sec : Int) (a : Option Addr) (n c2 : Nat) (x : List UInt8) (s : DS) (w : World) (wf : BkWf s.d s.F) (hcap : s.d.length ≤ p.cap) (hM : MapIs s.d.length s.F s.M s.c) (hl : x.length = n) (hr : CellsOut w S a (bs x)) (st : St w S (bankItems p.bk p.da p.cap p.mb s.d s.M s.c ++ [.blk p.bd (drO p s), .blk b3 (.cells #[bptr p.bd] 26 (0, 0)), .blk b4 (.cells #[.int .i64 sec] 3 (0, 0)), .blk b5 (.cells #[.slice a n c2] 23 (0, 0))]) w) :
    Calls Tryz.prog 89 #[.pointer (some ⟨b3, 0, none⟩), .pointer (some ⟨b4, 0, none⟩), .pointer (some ⟨b5, 0, none⟩)] w (GivesS S (W1V p s.d (writeF s.d.length s.F sec x) (writeE s.d.length sec x) (drO p s)) w) := by
  refine enterS (args := [.pointer (some ⟨b3, 0, none⟩), .pointer (some ⟨b4, 0, none⟩), .pointer (some ⟨b5, 0, none⟩)]) Tryz.func89 Tryz.ntmps89 rfl rfl st ?_
  obtain ⟨O, hO⟩ : ∃ O, O = drO p s := ⟨_, rfl⟩
  have hOc := hO
  rw [drO] at hOc
  rw [← hO]
  subst hOc
  simp only [bankItems, List.cons_append, List.nil_append]
  (repeat (first | refine WL.step (Yl.assign rfl) rfl ?_ | refine WC.seq ?_ | refine WC.region ?_ | refine WL.nil ?_ | refine WN.then_normal ?_))
  refine WC.regionH [.blk p.bd (.cells #[bptr p.bk, .bool s.down, plv s.pl, .int .i64 (s.ops : Int), .int .i64 (s.rd : Int)] 75 (0, 0)), .blk b3 (.cells #[bptr p.bd] 26 (0, 0)), .blk b4 (.cells #[.int .i64 sec] 3 (0, 0)), .blk b5 (.cells #[.slice a n c2] 23 (0, 0))] (by kernel_rfl) ?_
  (refine WH.order [0, 1, 2, 3, 4, 5, 6] (by repeat (first | exact Part.nil | refine Part.cons (by repeat (first | exact Pick.here | apply Pick.there)) ?_ | refine Part.free ?_)) (by kernel_rfl) ?_; (repeat (first | (refine WT.k_load rfl ?_; first | refine WT.take rfl rfl (fun _ _ _ h => h) (Yl.loadBlk (T := 26) Tryz.isAgg26 rfl (by repeat (first | exact .head _ | refine .tail _ ?_)) (by rfl)) rfl (by kernel_rfl) (by kernel_rfl) ?_ | refine WT.take rfl rfl (fun _ _ _ h => h) (Yl.loadBlk (T := 70) Tryz.isAgg70 rfl (by repeat (first | exact .head _ | refine .tail _ ?_)) (by rfl)) rfl (by kernel_rfl) (by kernel_rfl) ?_ | refine WT.take rfl rfl (fun _ _ _ h => h) (Yl.loadBlk (T := 3) Tryz.isAgg3 rfl (by repeat (first | exact .head _ | refine .tail _ ?_)) (by rfl)) rfl (by kernel_rfl) (by kernel_rfl) ?_ | refine WT.take rfl rfl (fun _ _ _ h => h) (Yl.loadBlk (T := 23) Tryz.isAgg23 rfl (by repeat (first | exact .head _ | refine .tail _ ?_)) (by rfl)) rfl (by kernel_rfl) (by kernel_rfl) ?_) | (refine WT.k_fld rfl ?_; refine WT.take rfl rfl (fun _ _ _ h => h) (Yl.fldN0 (i := 0) (o := 0) (by kernel_rfl) rfl) rfl (by kernel_rfl) (by kernel_rfl) ?_) | (refine WT.k_nilc rfl ?_; refine WT.take rfl rfl (fun _ _ _ h => h) (Yl.nilCheck rfl) rfl (by kernel_rfl) (by kernel_rfl) ?_))); refine WT.nil ?_)
  refine WH.only (i := 7) (by kernel_rfl) rfl ?_
  refine WL.callS3 Tryz.call90 rfl (by repeat (first | exact Pick.here | apply Pick.there)) (by repeat (first | exact Pick.here | apply Pick.there)) (by repeat (first | exact Pick.here | apply Pick.there)) (fun w0 st2 hp s1 => bwrite_r a n c2 x sec s.M s.c w0 wf hcap hM hl s1 (old_out st2 hp hr)) rfl fun v B hv => ?_
  obtain ⟨M1, c1, hM1, rfl, rfl⟩ := hv
  simp only [bankItems, List.cons_append, List.nil_append]
  refine WL.nil (WN.nextH (by repeat (first | exact Part.nil | refine Part.cons (by repeat (first | exact Pick.here | apply Pick.there)) ?_ | refine Part.free ?_)) ?_)
  (refine WH.order [8] (by repeat (first | exact Part.nil | refine Part.cons (by repeat (first | exact Pick.here | apply Pick.there)) ?_ | refine Part.free ?_)) (by kernel_rfl) ?_; (repeat (first | (refine WT.k_assign rfl ?_; refine WT.take rfl rfl (fun _ _ _ h => h) (Yl.assign rfl) rfl (by kernel_rfl) (by kernel_rfl) ?_))); refine WT.nil ?_)
  refine WH.done (by kernel_rfl) ?_
  (repeat (first | refine WN.then_normal ?_ | refine WC.ret ?_))
  refine WN.ret1S rfl rfl ⟨M1, c1, hM1, rfl, rfl⟩ ?_
  simp only [bankItems, List.cons_append, List.nil_append]
  exact (by repeat (first | exact Part.nil | refine Part.cons (by repeat (first | exact Pick.here | apply Pick.there)) ?_ | refine Part.free ?_))
theorem dopw_r (b3 b4 b5 : Nat) (sec : Int) (a : Option Addr) (n c2 : Nat) (x : List UInt8) (s : DS) (w : World) (hdn : s.down = false) (ok : s.Ok p) (hops : s.ops < 4611686018427387904) (hl : x.length = n) (hr : CellsOut w S a (bs x)) (st : St w S (drI p s ++ [.blk b3 (.cells #[bptr p.bd] 26 (0, 0)), .blk b4 (.cells #[.int .i64 sec] 3 (0, 0)), .blk b5 (.cells #[.slice a n c2] 23 (0, 0))]) w) :
    Calls Tryz.prog 88 #[.pointer (some ⟨p.bd, 0, none⟩), .func (.func 89) #[] #[.pointer (some ⟨b3, 0, none⟩), .pointer (some ⟨b4, 0, none⟩), .pointer (some ⟨b5, 0, none⟩)], .func (.func 91) #[] #[]] w (GivesS S (DrK p s.pl (s.v.write sec x).1 (s.v.write sec x).2) w) := by
  refine enterS (args := [.pointer (some ⟨p.bd, 0, none⟩), .func (.func 89) #[] #[.pointer (some ⟨b3, 0, none⟩), .pointer (some ⟨b4, 0, none⟩), .pointer (some ⟨b5, 0, none⟩)], .func (.func 91) #[] #[]]) Tryz.func88 Tryz.ntmps88 rfl rfl st ?_
  obtain ⟨d, F, M, c, down, pl, ops, rd⟩ := s
  simp only at hdn ok hops ⊢
  subst hdn
  cases pl with
  | none =>
    simp only [drI, drO, plI, plv, bankItems, List.cons_append, List.nil_append]
    (repeat (first | refine WL.step (Yl.move rfl) rfl ?_ | refine WL.step (Yl.assign rfl) rfl ?_ | refine WC.seq ?_ | refine WC.region ?_ | refine WL.nil ?_ | refine WN.then_normal ?_))
    refine WL.callFS (A0 := bankItems p.bk p.da p.cap p.mb d M c ++ [.blk p.bd (drO p ⟨d, F, M, c, false, none, ops, rd⟩), .blk b3 (.cells #[bptr p.bd] 26 (0, 0)), .blk b4 (.cells #[.int .i64 sec] 3 (0, 0)), .blk b5 (.cells #[.slice a n c2] 23 (0, 0))]) (B := []) (cs := [.pointer (some ⟨b3, 0, none⟩), .pointer (some ⟨b4, 0, none⟩), .pointer (some ⟨b5, 0, none⟩)]) Tryz.call89 rfl rfl ((pk (by repeat (first | exact Pick.here | apply Pick.there)) (pk (by repeat (first | exact Pick.here | apply Pick.there)) (pk (by repeat (first | exact Pick.here | apply Pick.there)) (pk (by repeat (first | exact Pick.here | apply Pick.there)) (pk (by repeat (first | exact Pick.here | apply Pick.there)) (pk (by repeat (first | exact Pick.here | apply Pick.there)) (pk (by repeat (first | exact Pick.here | apply Pick.there)) (List.Perm.refl _))))))))) (fun w0 st2 s1 => dw1_r b3 b4 b5 sec a n c2 x ⟨d, F, M, c, false, none, ops, rd⟩ w0 ok.wf ok.cap ok.m hl (old_out st2 ((pk (by repeat (first | exact Pick.here | apply Pick.there)) (pk (by repeat (first | exact Pick.here | apply Pick.there)) (pk (by repeat (first | exact Pick.here | apply Pick.there)) (pk (by repeat (first | exact Pick.here | apply Pick.there)) (pk (by repeat (first | exact Pick.here | apply Pick.there)) (pk (by repeat (first | exact Pick.here | apply Pick.there)) (pk (by repeat (first | exact Pick.here | apply Pick.there)) (List.Perm.refl _))))))))) hr) s1) rfl fun v C hv => ?_
    obtain ⟨M1, c1, hM1, rfl, rfl⟩ := hv
    simp only at hM1 ⊢
    simp only [bankItems, drO, plv, List.cons_append, List.nil_append]
    by_cases he : writeE d.length sec x ≠ 0
    · (repeat (first | refine WL.step (Yl.move rfl) rfl ?_ | refine WL.step (Yl.assign rfl) rfl ?_ | (refine WL.k_bin .neq ?_; refine WL.step (Yl.neqT rfl rfl (by omega)) rfl ?_) | refine WC.seq ?_ | refine WC.region ?_ | refine WL.nil ?_ | refine WN.then_normal ?_))
      refine WC.cond_true rfl rfl ?_
      (repeat (first | refine WL.step (Yl.move rfl) rfl ?_ | refine WL.step (Yl.assign rfl) rfl ?_ | refine WC.seq ?_ | refine WC.region ?_ | refine WL.nil ?_ | refine WN.then_normal ?_ | refine WC.ret ?_ | refine WN.then_ret ?_))
      rw [write_same he] at hM1
      have hbad : ∀ v : DV, v.down = false → v.d = d → v.write sec x = (v, writeE d.length sec x) := fun v h1 h2 => by rw [DV.write, if_neg (by simp [h1]), if_pos (by rw [h2]; exact he), h2]
      rw [hbad _ rfl rfl]
      refine WN.ret1S rfl rfl ⟨rfl, ⟨d, F, M1, c1, false, none, ops, rd⟩, ⟨ok.wf, ok.cap, hM1, ok.pl⟩, rfl, .inl rfl, rfl⟩ ?_
      simp only [drI, drO, plI, plv, bankItems, List.cons_append, List.nil_append]
      exact (by repeat (first | exact Part.nil | refine Part.cons (by repeat (first | exact Pick.here | apply Pick.there)) ?_ | refine Part.free ?_))
    have he0 : writeE d.length sec x = 0 := by omega
    rw [he0]
    have hwv : ∀ v : DV, v.down = false → v.d = d → v.write sec x = ({ v with F := writeF d.length v.F sec x } : DV).op id := fun v h1 h2 => by rw [DV.write, if_neg (by simp [h1]), if_neg (by rw [h2]; omega), h2]
    rw [hwv _ rfl rfl]
    (repeat (first | refine WL.step (Yl.move rfl) rfl ?_ | refine WL.step (Yl.assign rfl) rfl ?_ | refine WL.step (Yl.neqF rfl rfl rfl) rfl ?_ | refine WC.seq ?_ | refine WC.region ?_ | refine WL.nil ?_ | refine WN.then_normal ?_))
    refine WC.cond_false rfl rfl ?_
    (repeat (first | refine WL.step (Yl.move rfl) rfl ?_ | (refine WL.k_load ?_; refine WL.step (Yl.loadBlk (T := 2) Tryz.isAgg2 rfl (by repeat (first | exact .head _ | refine .tail _ ?_)) (by rfl)) rfl ?_) | (refine WL.k_fld ?_; refine WL.step (Yl.fldN0 (i := 3) (o := 3) (by kernel_rfl) rfl) rfl ?_) | refine WL.step (Yl.nilCheck rfl) rfl ?_ | (refine WL.k_bin .add ?_; refine WL.step (Yl.add64C rfl (by omega)) rfl ?_) | refine WC.seq ?_ | refine WC.region ?_ | refine WN.then_normal ?_ | refine WC.skip ?_))
    refine WL.storeAt (T := 2) Tryz.sizeOf2 rfl rfl rfl (by repeat (first | exact Pick.here | apply Pick.there)) rfl ?_
    (repeat (first | refine WL.step (Yl.move rfl) rfl ?_ | (refine WL.k_load ?_; refine WL.step (Yl.loadBlk (T := 73) Tryz.isAgg73 rfl (by repeat (first | exact .head _ | refine .tail _ ?_)) (by rfl)) rfl ?_) | (refine WL.k_fld ?_; refine WL.step (Yl.fldN0 (i := 2) (o := 2) (by kernel_rfl) rfl) rfl ?_) | refine WL.step (Yl.nilCheck rfl) rfl ?_ | (refine WL.k_bin .neq ?_; refine WL.step (Yl.neqPN (by kernel_rfl) rfl) rfl ?_) | refine WC.seq ?_ | refine WC.region ?_ | refine WL.nil ?_ | refine WN.then_normal ?_))
    refine WC.cond_false rfl rfl ?_
    (repeat (first | refine WL.step (Yl.move rfl) rfl ?_ | refine WC.seq ?_ | refine WC.region ?_ | refine WN.then_normal ?_ | refine WC.skip ?_))
    refine WL.callFV (g := 91) (v := .int .i64 0) (cs := []) Tryz.call91 rfl rfl (fun w0 st => dnothing_c w0) rfl ?_
    (repeat (first | refine WL.step (Yl.assign rfl) rfl ?_ | refine WL.nil ?_ | refine WN.then_normal ?_ | refine WC.ret ?_))
    refine WN.ret1S rfl rfl ⟨rfl, ⟨d, (writeF d.length F sec x), M1, c1, false, none, ops + 1, rd⟩, ⟨(write_wf ok.wf sec x), ok.cap, hM1, fun q hq => by cases hq⟩, rfl, .inl rfl, rfl⟩ ?_
    simp only [drI, drO, plI, plv, Pl.obj, bankItems, List.cons_append, List.nil_append]
    exact (by repeat (first | exact Part.nil | refine Part.cons (by repeat (first | exact Pick.here | apply Pick.there)) ?_ | refine Part.free ?_))
  | some q =>
    simp only [drI, drO, plI, plv, bankItems, List.cons_append, List.nil_append]
    (repeat (first | refine WL.step (Yl.move rfl) rfl ?_ | refine WL.step (Yl.assign rfl) rfl ?_ | refine WC.seq ?_ | refine WC.region ?_ | refine WL.nil ?_ | refine WN.then_normal ?_))
    refine WL.callFS (A0 := bankItems p.bk p.da p.cap p.mb d M c ++ [.blk p.bd (drO p ⟨d, F, M, c, false, some q, ops, rd⟩), .blk b3 (.cells #[bptr p.bd] 26 (0, 0)), .blk b4 (.cells #[.int .i64 sec] 3 (0, 0)), .blk b5 (.cells #[.slice a n c2] 23 (0, 0))]) (B := [.blk q.b (Pl.obj q), .row q.a q.c 3 1 (zcells q.K)]) (cs := [.pointer (some ⟨b3, 0, none⟩), .pointer (some ⟨b4, 0, none⟩), .pointer (some ⟨b5, 0, none⟩)]) Tryz.call89 rfl rfl ((pk (by repeat (first | exact Pick.here | apply Pick.there)) (pk (by repeat (first | exact Pick.here | apply Pick.there)) (pk (by repeat (first | exact Pick.here | apply Pick.there)) (pk (by repeat (first | exact Pick.here | apply Pick.there)) (pk (by repeat (first | exact Pick.here | apply Pick.there)) (pk (by repeat (first | exact Pick.here | apply Pick.there)) (pk (by repeat (first | exact Pick.here | apply Pick.there)) (List.Perm.refl _))))))))) (fun w0 st2 s1 => dw1_r b3 b4 b5 sec a n c2 x ⟨d, F, M, c, false, some q, ops, rd⟩ w0 ok.wf ok.cap ok.m hl (old_out st2 ((pk (by repeat (first | exact Pick.here | apply Pick.there)) (pk (by repeat (first | exact Pick.here | apply Pick.there)) (pk (by repeat (first | exact Pick.here | apply Pick.there)) (pk (by repeat (first | exact Pick.here | apply Pick.there)) (pk (by repeat (first | exact Pick.here | apply Pick.there)) (pk (by repeat (first | exact Pick.here | apply Pick.there)) (pk (by repeat (first | exact Pick.here | apply Pick.there)) (List.Perm.refl _))))))))) hr) s1) rfl fun v C hv => ?_
    obtain ⟨M1, c1, hM1, rfl, rfl⟩ := hv
    simp only at hM1 ⊢
    simp only [bankItems, drO, plv, List.cons_append, List.nil_append]
    by_cases he : writeE d.length sec x ≠ 0
    · (repeat (first | refine WL.step (Yl.move rfl) rfl ?_ | refine WL.step (Yl.assign rfl) rfl ?_ | (refine WL.k_bin .neq ?_; refine WL.step (Yl.neqT rfl rfl (by omega)) rfl ?_) | refine WC.seq ?_ | refine WC.region ?_ | refine WL.nil ?_ | refine WN.then_normal ?_))
      refine WC.cond_true rfl rfl ?_
      (repeat (first | refine WL.step (Yl.move rfl) rfl ?_ | refine WL.step (Yl.assign rfl) rfl ?_ | refine WC.seq ?_ | refine WC.region ?_ | refine WL.nil ?_ | refine WN.then_normal ?_ | refine WC.ret ?_ | refine WN.then_ret ?_))
      rw [write_same he] at hM1
      have hbad : ∀ v : DV, v.down = false → v.d = d → v.write sec x = (v, writeE d.length sec x) := fun v h1 h2 => by rw [DV.write, if_neg (by simp [h1]), if_pos (by rw [h2]; exact he), h2]
      rw [hbad _ rfl rfl]
      refine WN.ret1S rfl rfl ⟨rfl, ⟨d, F, M1, c1, false, some q, ops, rd⟩, ⟨ok.wf, ok.cap, hM1, ok.pl⟩, rfl, .inr ⟨q, q, rfl, rfl, rfl, rfl, rfl⟩, rfl⟩ ?_
      simp only [drI, drO, plI, plv, bankItems, List.cons_append, List.nil_append]
      exact (by repeat (first | exact Part.nil | refine Part.cons (by repeat (first | exact Pick.here | apply Pick.there)) ?_ | refine Part.free ?_))
    have he0 : writeE d.length sec x = 0 := by omega
    rw [he0]
    have hwv : ∀ v : DV, v.down = false → v.d = d → v.write sec x = ({ v with F := writeF d.length v.F sec x } : DV).op id := fun v h1 h2 => by rw [DV.write, if_neg (by simp [h1]), if_neg (by rw [h2]; omega), h2]
    rw [hwv _ rfl rfl]
    (repeat (first | refine WL.step (Yl.move rfl) rfl ?_ | refine WL.step (Yl.assign rfl) rfl ?_ | refine WL.step (Yl.neqF rfl rfl rfl) rfl ?_ | refine WC.seq ?_ | refine WC.region ?_ | refine WL.nil ?_ | refine WN.then_normal ?_))
    refine WC.cond_false rfl rfl ?_
    (repeat (first | refine WL.step (Yl.move rfl) rfl ?_ | (refine WL.k_load ?_; refine WL.step (Yl.loadBlk (T := 2) Tryz.isAgg2 rfl (by repeat (first | exact .head _ | refine .tail _ ?_)) (by rfl)) rfl ?_) | (refine WL.k_fld ?_; refine WL.step (Yl.fldN0 (i := 3) (o := 3) (by kernel_rfl) rfl) rfl ?_) | refine WL.step (Yl.nilCheck rfl) rfl ?_ | (refine WL.k_bin .add ?_; refine WL.step (Yl.add64C rfl (by omega)) rfl ?_) | refine WC.seq ?_ | refine WC.region ?_ | refine WN.then_normal ?_ | refine WC.skip ?_))
    refine WL.storeAt (T := 2) Tryz.sizeOf2 rfl rfl rfl (by repeat (first | exact Pick.here | apply Pick.there)) rfl ?_
    (repeat (first | refine WL.step (Yl.move rfl) rfl ?_ | (refine WL.k_load ?_; refine WL.step (Yl.loadBlk (T := 73) Tryz.isAgg73 rfl (by repeat (first | exact .head _ | refine .tail _ ?_)) (by rfl)) rfl ?_) | (refine WL.k_fld ?_; refine WL.step (Yl.fldN0 (i := 2) (o := 2) (by kernel_rfl) rfl) rfl ?_) | refine WL.step (Yl.nilCheck rfl) rfl ?_ | (refine WL.k_bin .neq ?_; refine WL.step (Yl.neqPN (by kernel_rfl) rfl) rfl ?_) | refine WC.seq ?_ | refine WC.region ?_ | refine WL.nil ?_ | refine WN.then_normal ?_))
    refine WC.cond_true rfl rfl ?_
    have hq := ok.pl q rfl
    have hn1 := hq.n1
    have hn2 := hq.ok.2.1
    have hkl := hq.ok.2.2.2.1
    rw [Pl.obj]
    (repeat (first | refine WL.step (Yl.move rfl) rfl ?_ | (refine WL.k_load ?_; first | refine WL.step (Yl.loadBlk (T := 3) Tryz.isAgg3 rfl (by repeat (first | exact .head _ | refine .tail _ ?_)) (by rfl)) rfl ?_ | refine WL.step (Yl.loadBlk (T := 73) Tryz.isAgg73 rfl (by repeat (first | exact .head _ | refine .tail _ ?_)) (by rfl)) rfl ?_) | (refine WL.k_fld ?_; first | refine WL.step (Yl.fldN0 (i := 0) (o := 0) (by kernel_rfl) rfl) rfl ?_ | refine WL.step (Yl.fldN0 (i := 2) (o := 2) (by kernel_rfl) rfl) rfl ?_) | refine WL.step (Yl.nilCheck rfl) rfl ?_ | (refine WL.k_bin .sub ?_; refine WL.step (Yl.sub64C rfl (by omega) (by omega)) rfl ?_) | refine WC.seq ?_ | refine WC.region ?_))
    refine WL.storeAt (T := 3) Tryz.sizeOf3 rfl rfl rfl (by repeat (first | exact Pick.here | apply Pick.there)) rfl ?_
    by_cases hn : q.n = 1
    · (repeat (first | refine WL.step (Yl.move rfl) rfl ?_ | (refine WL.k_load ?_; first | refine WL.step (Yl.loadBlk (T := 3) Tryz.isAgg3 rfl (by repeat (first | exact .head _ | refine .tail _ ?_)) (by rfl)) rfl ?_ | refine WL.step (Yl.loadBlk (T := 73) Tryz.isAgg73 rfl (by repeat (first | exact .head _ | refine .tail _ ?_)) (by rfl)) rfl ?_) | (refine WL.k_fld ?_; first | refine WL.step (Yl.fldN0 (i := 0) (o := 0) (by kernel_rfl) rfl) rfl ?_ | refine WL.step (Yl.fldN0 (i := 2) (o := 2) (by kernel_rfl) rfl) rfl ?_) | refine WL.step (Yl.nilCheck rfl) rfl ?_ | (refine WL.k_bin .eql ?_; refine WL.step (Yl.eqlT rfl rfl (by omega)) rfl ?_) | refine WC.seq ?_ | refine WC.region ?_ | refine WL.nil ?_ | refine WN.then_normal ?_))
      refine WC.cond_true rfl rfl ?_
      (repeat (first | refine WL.step (Yl.move rfl) rfl ?_ | (refine WL.k_load ?_; first | refine WL.step (Yl.loadBlk (T := 61) Tryz.isAgg61 rfl (by repeat (first | exact .head _ | refine .tail _ ?_)) (by rfl)) rfl ?_ | refine WL.step (Yl.loadBlk (T := 73) Tryz.isAgg73 rfl (by repeat (first | exact .head _ | refine .tail _ ?_)) (by rfl)) rfl ?_) | (refine WL.k_fld ?_; first | refine WL.step (Yl.fldN0 (i := 1) (o := 1) (by kernel_rfl) rfl) rfl ?_ | refine WL.step (Yl.fldN0 (i := 2) (o := 2) (by kernel_rfl) rfl) rfl ?_) | refine WL.step (Yl.nilCheck rfl) rfl ?_ | refine WC.seq ?_ | refine WC.region ?_))
      refine WL.callS (g := 101) (A0 := .blk p.bd (drO p ⟨d, (writeF d.length F sec x), M1, c1, false, some q, ops + 1, rd⟩) :: bankItems p.bk p.da p.cap p.mb d M1 c1) (B := [.blk q.b _, .row q.a q.c 3 1 (zcells q.K)]) Tryz.call101 rfl ((pk (by repeat (first | exact Pick.here | apply Pick.there)) (pk (by repeat (first | exact Pick.here | apply Pick.there)) (pk (by repeat (first | exact Pick.here | apply Pick.there)) (pk (by repeat (first | exact Pick.here | apply Pick.there)) (List.Perm.refl _)))))) (fun w0 st2 s1 => dcrash_r ⟨d, (writeF d.length F sec x), M1, c1, false, some q, ops + 1, rd⟩ q.a q.K.length q.c q.K w0 (write_wf ok.wf sec x) ok.cap hM1 rfl (by omega) hq.ok.keep (row_out st2 ((pk (by repeat (first | exact Pick.here | apply Pick.there)) (pk (by repeat (first | exact Pick.here | apply Pick.there)) (pk (by repeat (first | exact Pick.here | apply Pick.there)) (pk (by repeat (first | exact Pick.here | apply Pick.there)) (List.Perm.refl _)))))) (.tail _ (.head _))) s1) rfl fun v C hv => ?_
      obtain ⟨rfl, t, ⟨t1, t2, t3, t4, t5, t6, tok⟩, rfl⟩ := hv
      simp only at t1 t2 t5 t6
      (repeat (first | refine WL.step (Yl.assign rfl) rfl ?_ | refine WL.nil ?_ | refine WN.then_normal ?_ | refine WC.ret ?_ | refine WN.then_ret ?_))
      refine WN.ret1S rfl rfl ⟨by simp [DV.op, DS.v, hn], t, tok, ?_, .inl t4, rfl⟩ ?_
      · obtain ⟨d9, F9, M9, c9, dn9, pl9, o9, r9⟩ := t
        simp only at t1 t2 t3 t4 t5 t6
        subst t1 t2 t3 t4 t5 t6
        simp [DV.op, DS.v, hn, DV.crash]
      · rw [drI, t4]
        simp only [plI, List.append_nil]
        exact Part.pre _
    (repeat (first | refine WL.step (Yl.move rfl) rfl ?_ | (refine WL.k_load ?_; first | refine WL.step (Yl.loadBlk (T := 3) Tryz.isAgg3 rfl (by repeat (first | exact .head _ | refine .tail _ ?_)) (by rfl)) rfl ?_ | refine WL.step (Yl.loadBlk (T := 73) Tryz.isAgg73 rfl (by repeat (first | exact .head _ | refine .tail _ ?_)) (by rfl)) rfl ?_) | (refine WL.k_fld ?_; first | refine WL.step (Yl.fldN0 (i := 0) (o := 0) (by kernel_rfl) rfl) rfl ?_ | refine WL.step (Yl.fldN0 (i := 2) (o := 2) (by kernel_rfl) rfl) rfl ?_) | refine WL.step (Yl.nilCheck rfl) rfl ?_ | (refine WL.k_bin .eql ?_; refine WL.step (Yl.eqlF rfl rfl (by omega)) rfl ?_) | refine WC.seq ?_ | refine WC.region ?_ | refine WL.nil ?_ | refine WN.then_normal ?_))
    refine WC.cond_false rfl rfl ?_
    (repeat (first | refine WL.step (Yl.move rfl) rfl ?_ | refine WC.seq ?_ | refine WC.region ?_ | refine WN.then_normal ?_ | refine WC.skip ?_))
    refine WL.callFV (g := 91) (v := .int .i64 0) (cs := []) Tryz.call91 rfl rfl (fun w0 st => dnothing_c w0) rfl ?_
    (repeat (first | refine WL.step (Yl.assign rfl) rfl ?_ | refine WL.nil ?_ | refine WN.then_normal ?_ | refine WC.ret ?_))
    refine WN.ret1S rfl rfl ⟨by simp [DV.op, DS.v, hn], ⟨d, (writeF d.length F sec x), M1, c1, false, some ⟨q.b, q.a, q.c, q.n - 1, q.K⟩, ops + 1, rd⟩, ⟨(write_wf ok.wf sec x), ok.cap, hM1, fun q2 hq2 => by simp only [Option.some.injEq] at hq2; subst hq2; exact ⟨by simp only; omega, ⟨by simp only; omega, by simp only; omega, hq.ok.2.2⟩, hq.c⟩⟩, by simp [DV.op, DS.v, hn, DV.done], .inr ⟨q, _, rfl, rfl, rfl, rfl, rfl⟩, rfl⟩ ?_
    simp only [drI, drO, plI, plv, Pl.obj, bankItems, List.cons_append, List.nil_append]
    exact (by repeat (first | exact Part.nil | refine Part.cons (by repeat (first | exact Pick.here | apply Pick.there)) ?_ | refine Part.free ?_))
theorem dops_r (s : DS) (w : World) (hdn : s.down = false) (ok : s.Ok p) (hops : s.ops < 4611686018427387904) (st : St w S (drI p s) w) :
    Calls Tryz.prog 88 #[.pointer (some ⟨p.bd, 0, none⟩), .func (.func 91) #[] #[], .func (.func 92) #[bptr p.bk] #[]] w (GivesS S (DrV p s.v.sync.1 s.v.sync.2) w) := by
  refine enterS (args := [.pointer (some ⟨p.bd, 0, none⟩), .func (.func 91) #[] #[], .func (.func 92) #[bptr p.bk] #[]]) Tryz.func88 Tryz.ntmps88 rfl rfl st ?_
  obtain ⟨d, F, M, c, down, pl, ops, rd⟩ := s
  simp only at hdn ok hops ⊢
  subst hdn
  cases pl with
  | none =>
    simp only [drI, drO, plI, plv, bankItems, List.cons_append, List.nil_append]
    (repeat (first | refine WL.step (Yl.move rfl) rfl ?_ | refine WL.step (Yl.assign rfl) rfl ?_ | refine WC.seq ?_ | refine WC.region ?_ | refine WL.nil ?_ | refine WN.then_normal ?_))
    refine WL.callFV (g := 91) (v := .int .i64 0) (cs := []) Tryz.call91 rfl rfl (fun w0 st => dnothing_c w0) rfl ?_
    (repeat (first | refine WL.step (Yl.move rfl) rfl ?_ | refine WL.step (Yl.assign rfl) rfl ?_ | refine WL.step (Yl.neqF rfl rfl rfl) rfl ?_ | refine WC.seq ?_ | refine WC.region ?_ | refine WL.nil ?_ | refine WN.then_normal ?_))
    refine WC.cond_false rfl rfl ?_
    have hsv : ∀ v : DV, v.down = false → v.sync = v.op DV.done := fun v h1 => by rw [DV.sync, if_neg (by simp [h1])]
    rw [hsv _ rfl]
    (repeat (first | refine WL.step (Yl.move rfl) rfl ?_ | (refine WL.k_load ?_; refine WL.step (Yl.loadBlk (T := 2) Tryz.isAgg2 rfl (by repeat (first | exact .head _ | refine .tail _ ?_)) (by rfl)) rfl ?_) | (refine WL.k_fld ?_; refine WL.step (Yl.fldN0 (i := 3) (o := 3) (by kernel_rfl) rfl) rfl ?_) | refine WL.step (Yl.nilCheck rfl) rfl ?_ | (refine WL.k_bin .add ?_; refine WL.step (Yl.add64C rfl (by omega)) rfl ?_) | refine WC.seq ?_ | refine WC.region ?_ | refine WN.then_normal ?_ | refine WC.skip ?_))
    refine WL.storeAt (T := 2) Tryz.sizeOf2 rfl rfl rfl (by repeat (first | exact Pick.here | apply Pick.there)) rfl ?_
    (repeat (first | refine WL.step (Yl.move rfl) rfl ?_ | (refine WL.k_load ?_; refine WL.step (Yl.loadBlk (T := 73) Tryz.isAgg73 rfl (by repeat (first | exact .head _ | refine .tail _ ?_)) (by rfl)) rfl ?_) | (refine WL.k_fld ?_; refine WL.step (Yl.fldN0 (i := 2) (o := 2) (by kernel_rfl) rfl) rfl ?_) | refine WL.step (Yl.nilCheck rfl) rfl ?_ | (refine WL.k_bin .neq ?_; refine WL.step (Yl.neqPN (by kernel_rfl) rfl) rfl ?_) | refine WC.seq ?_ | refine WC.region ?_ | refine WL.nil ?_ | refine WN.then_normal ?_))
    refine WC.cond_false rfl rfl ?_
    (repeat (first | refine WL.step (Yl.move rfl) rfl ?_ | refine WC.seq ?_ | refine WC.region ?_ | refine WN.then_normal ?_ | refine WC.skip ?_))
    refine WL.callB (g := 92) (A0 := bankItems p.bk p.da p.cap p.mb d M c) (bd := [bptr p.bk]) Tryz.call92 rfl rfl ((pk (by repeat (first | exact Pick.here | apply Pick.there)) (pk (by repeat (first | exact Pick.here | apply Pick.there)) (pk (by repeat (first | exact Pick.here | apply Pick.there)) (List.Perm.refl _))))) (fun w0 st2 s1 => bsync_r M c w0 ok.wf ok.cap ok.m s1) rfl fun v C hv => ?_
    obtain ⟨M2, c2, hM2, rfl, rfl⟩ := hv
    have hcw := crash_wf [128] ok.wf
    have e2 : (crashR [128] d F).2 = 0 := by rw [crashR, if_pos keepOne]
    simp only at hcw hM2 ⊢
    rw [e2]
    (repeat (first | refine WL.step (Yl.assign rfl) rfl ?_ | refine WL.nil ?_ | refine WN.then_normal ?_ | refine WC.ret ?_))
    refine WN.ret1S rfl rfl ⟨rfl, ⟨(crashR [128] d F).1.1, (crashR [128] d F).1.2, M2, c2, false, none, ops + 1, rd⟩, ⟨hcw.1, by simp only [hcw.2]; exact ok.cap, hM2, fun q hq => by cases hq⟩, rfl, rfl⟩ ?_
    simp only [drI, drO, plI, plv, Pl.obj, bankItems, List.cons_append, List.nil_append]
    exact (by repeat (first | exact Part.nil | refine Part.cons (by repeat (first | exact Pick.here | apply Pick.there)) ?_ | refine Part.free ?_))
  | some q =>
    simp only [drI, drO, plI, plv, bankItems, List.cons_append, List.nil_append]
    (repeat (first | refine WL.step (Yl.move rfl) rfl ?_ | refine WL.step (Yl.assign rfl) rfl ?_ | refine WC.seq ?_ | refine WC.region ?_ | refine WL.nil ?_ | refine WN.then_normal ?_))
    refine WL.callFV (g := 91) (v := .int .i64 0) (cs := []) Tryz.call91 rfl rfl (fun w0 st => dnothing_c w0) rfl ?_
    (repeat (first | refine WL.step (Yl.move rfl) rfl ?_ | refine WL.step (Yl.assign rfl) rfl ?_ | refine WL.step (Yl.neqF rfl rfl rfl) rfl ?_ | refine WC.seq ?_ | refine WC.region ?_ | refine WL.nil ?_ | refine WN.then_normal ?_))
    refine WC.cond_false rfl rfl ?_
    have hsv : ∀ v : DV, v.down = false → v.sync = v.op DV.done := fun v h1 => by rw [DV.sync, if_neg (by simp [h1])]
    rw [hsv _ rfl]
    (repeat (first | refine WL.step (Yl.move rfl) rfl ?_ | (refine WL.k_load ?_; refine WL.step (Yl.loadBlk (T := 2) Tryz.isAgg2 rfl (by repeat (first | exact .head _ | refine .tail _ ?_)) (by rfl)) rfl ?_) | (refine WL.k_fld ?_; refine WL.step (Yl.fldN0 (i := 3) (o := 3) (by kernel_rfl) rfl) rfl ?_) | refine WL.step (Yl.nilCheck rfl) rfl ?_ | (refine WL.k_bin .add ?_; refine WL.step (Yl.add64C rfl (by omega)) rfl ?_) | refine WC.seq ?_ | refine WC.region ?_ | refine WN.then_normal ?_ | refine WC.skip ?_))
    refine WL.storeAt (T := 2) Tryz.sizeOf2 rfl rfl rfl (by repeat (first | exact Pick.here | apply Pick.there)) rfl ?_
    (repeat (first | refine WL.step (Yl.move rfl) rfl ?_ | (refine WL.k_load ?_; refine WL.step (Yl.loadBlk (T := 73) Tryz.isAgg73 rfl (by repeat (first | exact .head _ | refine .tail _ ?_)) (by rfl)) rfl ?_) | (refine WL.k_fld ?_; refine WL.step (Yl.fldN0 (i := 2) (o := 2) (by kernel_rfl) rfl) rfl ?_) | refine WL.step (Yl.nilCheck rfl) rfl ?_ | (refine WL.k_bin .neq ?_; refine WL.step (Yl.neqPN (by kernel_rfl) rfl) rfl ?_) | refine WC.seq ?_ | refine WC.region ?_ | refine WL.nil ?_ | refine WN.then_normal ?_))
    refine WC.cond_true rfl rfl ?_
    have hq := ok.pl q rfl
    have hn1 := hq.n1
    have hn2 := hq.ok.2.1
    have hkl := hq.ok.2.2.2.1
    rw [Pl.obj]
    (repeat (first | refine WL.step (Yl.move rfl) rfl ?_ | (refine WL.k_load ?_; first | refine WL.step (Yl.loadBlk (T := 3) Tryz.isAgg3 rfl (by repeat (first | exact .head _ | refine .tail _ ?_)) (by rfl)) rfl ?_ | refine WL.step (Yl.loadBlk (T := 73) Tryz.isAgg73 rfl (by repeat (first | exact .head _ | refine .tail _ ?_)) (by rfl)) rfl ?_) | (refine WL.k_fld ?_; first | refine WL.step (Yl.fldN0 (i := 0) (o := 0) (by kernel_rfl) rfl) rfl ?_ | refine WL.step (Yl.fldN0 (i := 2) (o := 2) (by kernel_rfl) rfl) rfl ?_) | refine WL.step (Yl.nilCheck rfl) rfl ?_ | (refine WL.k_bin .sub ?_; refine WL.step (Yl.sub64C rfl (by omega) (by omega)) rfl ?_) | refine WC.seq ?_ | refine WC.region ?_))
    refine WL.storeAt (T := 3) Tryz.sizeOf3 rfl rfl rfl (by repeat (first | exact Pick.here | apply Pick.there)) rfl ?_
    by_cases hn : q.n = 1
    · (repeat (first | refine WL.step (Yl.move rfl) rfl ?_ | (refine WL.k_load ?_; first | refine WL.step (Yl.loadBlk (T := 3) Tryz.isAgg3 rfl (by repeat (first | exact .head _ | refine .tail _ ?_)) (by rfl)) rfl ?_ | refine WL.step (Yl.loadBlk (T := 73) Tryz.isAgg73 rfl (by repeat (first | exact .head _ | refine .tail _ ?_)) (by rfl)) rfl ?_) | (refine WL.k_fld ?_; first | refine WL.step (Yl.fldN0 (i := 0) (o := 0) (by kernel_rfl) rfl) rfl ?_ | refine WL.step (Yl.fldN0 (i := 2) (o := 2) (by kernel_rfl) rfl) rfl ?_) | refine WL.step (Yl.nilCheck rfl) rfl ?_ | (refine WL.k_bin .eql ?_; refine WL.step (Yl.eqlT rfl rfl (by omega)) rfl ?_) | refine WC.seq ?_ | refine WC.region ?_ | refine WL.nil ?_ | refine WN.then_normal ?_))
      refine WC.cond_true rfl rfl ?_
      (repeat (first | refine WL.step (Yl.move rfl) rfl ?_ | (refine WL.k_load ?_; first | refine WL.step (Yl.loadBlk (T := 61) Tryz.isAgg61 rfl (by repeat (first | exact .head _ | refine .tail _ ?_)) (by rfl)) rfl ?_ | refine WL.step (Yl.loadBlk (T := 73) Tryz.isAgg73 rfl (by repeat (first | exact .head _ | refine .tail _ ?_)) (by rfl)) rfl ?_) | (refine WL.k_fld ?_; first | refine WL.step (Yl.fldN0 (i := 1) (o := 1) (by kernel_rfl) rfl) rfl ?_ | refine WL.step (Yl.fldN0 (i := 2) (o := 2) (by kernel_rfl) rfl) rfl ?_) | refine WL.step (Yl.nilCheck rfl) rfl ?_ | refine WC.seq ?_ | refine WC.region ?_))
      refine WL.callS (g := 101) (A0 := .blk p.bd (drO p ⟨d, F, M, c, false, some q, ops + 1, rd⟩) :: bankItems p.bk p.da p.cap p.mb d M c) (B := [.blk q.b _, .row q.a q.c 3 1 (zcells q.K)]) Tryz.call101 rfl ((pk (by repeat (first | exact Pick.here | apply Pick.there)) (pk (by repeat (first | exact Pick.here | apply Pick.there)) (pk (by repeat (first | exact Pick.here | apply Pick.there)) (pk (by repeat (first | exact Pick.here | apply Pick.there)) (List.Perm.refl _)))))) (fun w0 st2 s1 => dcrash_r ⟨d, F, M, c, false, some q, ops + 1, rd⟩ q.a q.K.length q.c q.K w0 ok.wf ok.cap ok.m rfl (by omega) hq.ok.keep (row_out st2 ((pk (by repeat (first | exact Pick.here | apply Pick.there)) (pk (by repeat (first | exact Pick.here | apply Pick.there)) (pk (by repeat (first | exact Pick.here | apply Pick.there)) (pk (by repeat (first | exact Pick.here | apply Pick.there)) (List.Perm.refl _)))))) (.tail _ (.head _))) s1) rfl fun v C hv => ?_
      obtain ⟨rfl, t, ⟨t1, t2, t3, t4, t5, t6, tok⟩, rfl⟩ := hv
      simp only at t1 t2 t5 t6
      (repeat (first | refine WL.step (Yl.assign rfl) rfl ?_ | refine WL.nil ?_ | refine WN.then_normal ?_ | refine WC.ret ?_ | refine WN.then_ret ?_))
      refine WN.ret1S rfl rfl ⟨by simp [DV.op, DS.v, hn], t, tok, ?_, rfl⟩ ?_
      · obtain ⟨d9, F9, M9, c9, dn9, pl9, o9, r9⟩ := t
        simp only at t1 t2 t3 t4 t5 t6
        subst t1 t2 t3 t4 t5 t6
        simp [DV.op, DS.v, hn, DV.crash]
      · rw [drI, t4]
        simp only [plI, List.append_nil]
        exact Part.pre _
    (repeat (first | refine WL.step (Yl.move rfl) rfl ?_ | (refine WL.k_load ?_; first | refine WL.step (Yl.loadBlk (T := 3) Tryz.isAgg3 rfl (by repeat (first | exact .head _ | refine .tail _ ?_)) (by rfl)) rfl ?_ | refine WL.step (Yl.loadBlk (T := 73) Tryz.isAgg73 rfl (by repeat (first | exact .head _ | refine .tail _ ?_)) (by rfl)) rfl ?_) | (refine WL.k_fld ?_; first | refine WL.step (Yl.fldN0 (i := 0) (o := 0) (by kernel_rfl) rfl) rfl ?_ | refine WL.step (Yl.fldN0 (i := 2) (o := 2) (by kernel_rfl) rfl) rfl ?_) | refine WL.step (Yl.nilCheck rfl) rfl ?_ | (refine WL.k_bin .eql ?_; refine WL.step (Yl.eqlF rfl rfl (by omega)) rfl ?_) | refine WC.seq ?_ | refine WC.region ?_ | refine WL.nil ?_ | refine WN.then_normal ?_))
    refine WC.cond_false rfl rfl ?_
    (repeat (first | refine WL.step (Yl.move rfl) rfl ?_ | refine WC.seq ?_ | refine WC.region ?_ | refine WN.then_normal ?_ | refine WC.skip ?_))
    refine WL.callB (g := 92) (A0 := bankItems p.bk p.da p.cap p.mb d M c) (bd := [bptr p.bk]) Tryz.call92 rfl rfl ((pk (by repeat (first | exact Pick.here | apply Pick.there)) (pk (by repeat (first | exact Pick.here | apply Pick.there)) (pk (by repeat (first | exact Pick.here | apply Pick.there)) (List.Perm.refl _))))) (fun w0 st2 s1 => bsync_r M c w0 ok.wf ok.cap ok.m s1) rfl fun v C hv => ?_
    obtain ⟨M2, c2, hM2, rfl, rfl⟩ := hv
    have hcw := crash_wf [128] ok.wf
    have e2 : (crashR [128] d F).2 = 0 := by rw [crashR, if_pos keepOne]
    simp only at hcw hM2 ⊢
    rw [e2]
    (repeat (first | refine WL.step (Yl.assign rfl) rfl ?_ | refine WL.nil ?_ | refine WN.then_normal ?_ | refine WC.ret ?_))
    refine WN.ret1S rfl rfl ⟨by simp [DV.op, DS.v, hn], ⟨(crashR [128] d F).1.1, (crashR [128] d F).1.2, M2, c2, false, some ⟨q.b, q.a, q.c, q.n - 1, q.K⟩, ops + 1, rd⟩, ⟨hcw.1, by simp only [hcw.2]; exact ok.cap, hM2, fun q2 hq2 => by simp only [Option.some.injEq] at hq2; subst hq2; exact ⟨by simp only; omega, ⟨by simp only; omega, by simp only; omega, hq.ok.2.2⟩, hq.c⟩⟩, by simp [DV.op, DS.v, hn, DV.done], rfl⟩ ?_
    simp only [drI, drO, plI, plv, Pl.obj, bankItems, List.cons_append, List.nil_append]
    exact (by repeat (first | exact Part.nil | refine Part.cons (by repeat (first | exact Pick.here | apply Pick.there)) ?_ | refine Part.free ?_))
end
end Go.Proofs.YtbkdjfgkebkknaaGreatDoor
