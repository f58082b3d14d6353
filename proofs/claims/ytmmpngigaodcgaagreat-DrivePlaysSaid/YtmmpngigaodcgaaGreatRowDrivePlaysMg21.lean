import Derived.Test.YtmmpngigaodcgaaGreatRowDrivePlaysMg20
/- The document's drive: read, armed, restarted, made, copied; no drive. -/
namespace Go.Proofs.YtmmpngigaodcgaaGreat
set_option linter.unusedVariables false
set_option linter.unusedSimpArgs false
open Go Go.RowKit
set_option maxRecDepth 100000
set_option maxHeartbeats 8000000
theorem WN.part {X : Cx} {e : Exit} {Q : Exit → Act → World → Prop} {ρ : Env} {A B : List HA} (hp : Part A B) (h : WN X Q e ρ B) : WN X Q e ρ A := fun a w f s => h a w f (s.part hp)
theorem partR8 (n o : HA) : ∀ L : List HA, Part (n :: (L ++ [o])) (L ++ [n])
  | [] => .cons .here .nil
  | _ :: L => .cons (.there .here) (partR8 n o L)
theorem permR9 (b x r : HA) (L : List HA) : (b :: (x :: (L ++ [r]))).Perm ((x :: L) ++ [b, r]) := by
  classical
  rw [List.perm_iff_count]; intro u; simp only [List.count_append, List.count_cons, List.count_nil]; omega
theorem permR10 (f x b r : HA) (L Z2 : List HA) : (f :: ((x :: (L ++ Z2)) ++ [b, r])).Perm ((x :: (L ++ [f])) ++ (Z2 ++ [b, r])) := by
  classical
  rw [List.perm_iff_count]; intro u; simp only [List.count_append, List.count_cons, List.count_nil]; omega
theorem permR11 (f x : HA) (L Z : List HA) : (f :: x :: (L ++ Z)).Perm ((x :: (L ++ [f])) ++ Z) := by
  classical
  rw [List.perm_iff_count]; intro u; simp only [List.count_append, List.count_cons, List.count_nil]; omega
theorem permR12 (x q : HA) (L : List HA) : (x :: q :: L).Perm (x :: (L ++ [q])) := by
  classical
  rw [List.perm_iff_count]; intro u; simp only [List.count_append, List.count_cons, List.count_nil]; omega
theorem permR13 (x q : HA) (L : List HA) : (x :: q :: L).Perm (x :: (L ++ [q])) := permR12 x q L
def EdR (p : RDP) (s : RDS) (v : DV) (r : List UInt8 × Nat) : Value → List HA → Prop := fun u B => ∃ a c, r.1.length ≤ c ∧ u = .tuple #[.slice a r.1.length c, .int .i64 (r.2 : Int)] ∧ ∃ s' : RDS, s'.Ok ∧ s'.v = v ∧ s'.os = s.os ∧ s'.fs = s.fs ∧ B = .row a c 5 1 (bs r.1) :: rdI p s'
def ENewV (n : Nat) : Value → List HA → Prop := fun u B => ∃ p : RDP, ∃ s : RDS, ∃ Z, s.Ok ∧ s.v = ⟨List.replicate n zblk, fun _ => none, false, none, 0, 0⟩ ∧ u = .tuple #[bptr p.bd, .int .i64 0] ∧ B = rdI p s ++ Z ∧ ∀ x ∈ s.os ++ s.fs, InF Z x
def ECopyV (s : RDS) : Value → List HA → Prop := fun u B => ∃ p : RDP, ∃ s' : RDS, s'.Ok ∧ s'.v = s.v ∧ s'.os = s.os ∧ s'.fs = s.fs ∧ u = bptr p.bd ∧ B = rdI p s'
theorem buildRd1 (a : Option Addr) (w : World) : (Instr.build 64 [(0, .pointer a)].toArray).run Tryz.prog w = .ok (.agg #[.pointer a, .bool false, .int .i64 0, .slice none 0 0, .int .i64 0, .int .i64 0]) w := by
  simp [Instr.build, Tryz.zeroValue64, run_underlying Tryz.underlying64, Tryz.sizeOf60, Tryz.sizeOf4, Tryz.sizeOf33, Tryz.sizeOf2, Value.cells, Instr.fill]
theorem buildRd5 (b : Option Addr) (dn : Bool) (n : Int) (a : Option Addr) (m c : Nat) (o r : Int) (w : World) : (Instr.build 64 [(0, .pointer b), (1, .bool dn), (2, .agg #[.int .i64 n, .slice a m c]), (3, .int .i64 o), (4, .int .i64 r)].toArray).run Tryz.prog w = .ok (.agg #[.pointer b, .bool dn, .int .i64 n, .slice a m c, .int .i64 o, .int .i64 r]) w := by
  simp [Instr.build, Tryz.zeroValue64, run_underlying Tryz.underlying64, Tryz.sizeOf60, Tryz.sizeOf4, Tryz.sizeOf33, Tryz.sizeOf2, Value.cells, Instr.fill]
attribute [local irreducible] WL WC WN Yl WH WQ WT WE WU WG WV
section
variable {p : RDP} {S : List Nat}
theorem eread_r (sec : Int) (s : RDS) (w : World) (ok : s.Ok) (hO : ∀ y ∈ s.os ++ s.fs, OutF w S y) (hrd : s.rd < 4611686018427387904) (st : St w S (rdI p s) w) :
    Calls Tryz.prog 14 #[bptr p.bd, .int .i64 sec] w (GivesS S (EdR p s (s.v.read sec).1 (s.v.read sec).2) w) := by
  refine enterS (args := [.pointer (some ⟨p.bd, 0, none⟩), _]) Tryz.func14 Tryz.ntmps14 rfl rfl st ?_
  (repeat (first | refine WL.step (Yl.move rfl) rfl ?_ | refine WL.step (Yl.assign rfl) rfl ?_ | refine WL.callV (g := 35) (v := .bool true) Tryz.call35 rfl (fun w0 st2 => evalid_c w0 (ok.out st2 (fun x hx => hx) hO)) rfl ?_ | refine WL.step (Yl.not rfl) rfl ?_ | refine WC.seq ?_ | refine WC.region ?_ | refine WL.nil ?_ | refine WN.then_normal ?_))
  refine WC.cond_false rfl rfl ?_
  have hbk : HA.blk p.bd (rdO p s) ∈ rdI p s := .head _
  (repeat (first | refine WL.step (Yl.move rfl) rfl ?_ | (refine WL.k_load ?_; refine WL.step (Yl.loadBlk (T := 4) Tryz.isAgg4 rfl hbk (by rfl)) rfl ?_) | (refine WL.k_fld ?_; refine WL.step (Yl.fldN0 (i := 1) (o := 1) (by kernel_rfl) rfl) rfl ?_) | refine WL.step (Yl.nilCheck rfl) rfl ?_ | refine WC.seq ?_ | refine WC.region ?_ | refine WL.nil ?_ | refine WN.then_normal ?_ | refine WC.skip ?_))
  cases e : s.down with
  | true =>
    refine WC.cond_true rfl rfl ?_
    (repeat (first | refine WL.step (Yl.assign rfl) rfl ?_ | refine WC.seq ?_ | refine WC.region ?_ | refine WL.nil ?_ | refine WN.then_normal ?_ | refine WC.ret ?_ | refine WN.then_ret ?_))
    have hv : s.v.read sec = (s.v, ([], 11)) := by rw [DV.read, if_pos (show s.v.down = true from e)]
    rw [hv]
    exact WN.ret2S rfl rfl rfl ⟨none, 0, Nat.le_refl _, rfl, s, ok, rfl, rfl, rfl, rfl⟩ (.free (Part.refl _))
  | false =>
    refine WC.cond_false rfl rfl ?_
    have hv : s.v.read sec = ((if (readR s.d s.F sec).2 = 0 then { s.v with rd := s.rd + 1 } else s.v), readR s.d s.F sec) := by rw [DV.read, if_neg (by rw [show s.v.down = false from e]; decide)]; rfl
    rw [hv]
    (repeat (first | refine WL.step (Yl.move rfl) rfl ?_ | (refine WL.k_load ?_; refine WL.step (Yl.loadBlk (T := 60) Tryz.isAgg60 rfl hbk (by rfl)) rfl ?_) | (refine WL.k_fld ?_; refine WL.step (Yl.fldN0 (i := 0) (o := 0) (by kernel_rfl) rfl) rfl ?_) | refine WL.step (Yl.nilCheck rfl) rfl ?_ | refine WC.seq ?_ | refine WC.region ?_ | refine WN.then_normal ?_ | refine WC.skip ?_))
    refine WL.call (g := 42) Tryz.call42 rfl (fun w0 st2 => rread_c sec w0 (ok.out st2 (fun x hx => hx) hO).bank) rfl fun v B hv => ?_
    obtain ⟨a', c', hc', rfl, rfl⟩ := hv
    rcases readR_code s.d s.F sec with h | h
    · rw [h, if_pos rfl]
      (repeat (first | refine WL.step (Yl.move rfl) rfl ?_ | refine WL.step (Yl.assign rfl) rfl ?_ | refine WL.step (Yl.extract rfl rfl) rfl ?_ | refine WL.step (Yl.eqlT rfl rfl rfl) rfl ?_ | refine WC.seq ?_ | refine WC.region ?_ | refine WL.nil ?_ | refine WN.then_normal ?_))
      refine WC.cond_true rfl rfl ?_
      simp only [rdI, rdO, List.cons_append, List.nil_append]
      (repeat (first | refine WL.step (Yl.move rfl) rfl ?_ | (refine WL.k_load ?_; refine WL.step (Yl.loadBlk (T := 2) Tryz.isAgg2 rfl (by repeat (first | exact .head _ | refine .tail _ ?_)) (by rfl)) rfl ?_) | (refine WL.k_fld ?_; refine WL.step (Yl.fldN0 (i := 4) (o := 5) (by kernel_rfl) rfl) rfl ?_) | refine WL.step (Yl.nilCheck rfl) rfl ?_ | (refine WL.k_bin .add ?_; refine WL.step (Yl.add64C rfl (by omega)) rfl ?_) | refine WC.region ?_))
      refine WL.storeAt (T := 2) Tryz.sizeOf2 rfl rfl rfl (.there .here) rfl ?_
      (repeat (first | refine WL.step (Yl.move rfl) rfl ?_ | refine WL.step (Yl.assign rfl) rfl ?_ | refine WC.seq ?_ | refine WC.region ?_ | refine WL.nil ?_ | refine WN.then_normal ?_ | refine WC.ret ?_))
      refine WN.ret2S rfl rfl rfl ⟨a', c', hc', by rw [h]; rfl, { s with rd := s.rd + 1 }, ⟨ok.wf, ok.ok, ok.kc, ok.k64, ok.pl⟩, rfl, rfl, rfl, rfl⟩ ?_
      simp only [rdI, rdO]
      exact .cons (.there .here) (.cons .here (Part.refl _))
    · rw [h, if_neg (show ¬ (3 = 0) by decide)]
      (repeat (first | refine WL.step (Yl.move rfl) rfl ?_ | refine WL.step (Yl.assign rfl) rfl ?_ | refine WL.step (Yl.extract rfl rfl) rfl ?_ | (refine WL.k_bin .eql ?_; refine WL.step (Yl.eqlF rfl rfl (by decide)) rfl ?_) | refine WC.seq ?_ | refine WC.region ?_ | refine WL.nil ?_ | refine WN.then_normal ?_))
      refine WC.cond_false rfl rfl ?_
      (repeat (first | refine WL.step (Yl.move rfl) rfl ?_ | refine WL.step (Yl.assign rfl) rfl ?_ | refine WC.seq ?_ | refine WC.region ?_ | refine WL.nil ?_ | refine WN.then_normal ?_ | refine WC.skip ?_ | refine WC.ret ?_))
      exact WN.ret2S rfl rfl rfl ⟨a', c', hc', by rw [h]; rfl, s, ok, rfl, rfl, rfl, rfl⟩ (Part.refl _)
theorem erestart_r (s : RDS) (w : World) (ok : s.Ok) (hO : ∀ y ∈ s.os ++ s.fs, OutF w S y) (st : St w S (rdI p s) w) : Calls Tryz.prog 20 #[bptr p.bd] w (GivesS S (EdV p s { s.v with down := false } 0) w) := by
  refine enterS (args := [.pointer (some ⟨p.bd, 0, none⟩)]) Tryz.func20 Tryz.ntmps20 rfl rfl st ?_
  (repeat (first | refine WL.step (Yl.move rfl) rfl ?_ | refine WL.step (Yl.assign rfl) rfl ?_ | refine WL.callV (g := 35) (v := .bool true) Tryz.call35 rfl (fun w0 st2 => evalid_c w0 (ok.out st2 (fun x hx => hx) hO)) rfl ?_ | refine WL.step (Yl.not rfl) rfl ?_ | refine WC.seq ?_ | refine WC.region ?_ | refine WL.nil ?_ | refine WN.then_normal ?_))
  refine WC.cond_false rfl rfl ?_
  simp only [rdI, rdO, List.cons_append, List.nil_append]
  (repeat (first | refine WL.step (Yl.move rfl) rfl ?_ | (refine WL.k_fld ?_; refine WL.step (Yl.fldN0 (i := 1) (o := 1) (by kernel_rfl) rfl) rfl ?_) | refine WL.step (Yl.nilCheck rfl) rfl ?_ | refine WC.seq ?_ | refine WC.region ?_ | refine WN.then_normal ?_ | refine WC.skip ?_))
  refine WL.storeAt (T := 4) Tryz.sizeOf4 rfl rfl rfl .here rfl ?_
  (repeat (first | refine WL.step (Yl.assign rfl) rfl ?_ | refine WC.seq ?_ | refine WC.region ?_ | refine WL.nil ?_ | refine WN.then_normal ?_ | refine WC.ret ?_))
  refine WN.ret1S rfl rfl ⟨rfl, { s with down := false }, [], ⟨ok.wf, ok.ok, ok.kc, ok.k64, ok.pl⟩, rfl, (List.append_nil _).symm, fun y hy => .inl hy⟩ ?_
  simp only [rdI, rdO]
  exact Part.refl _
theorem earm_r (n : Int) (a : Option Addr) (m c2 : Nat) (K : List Int) (s : RDS) (w : World) (ok : s.Ok) (hO : ∀ y ∈ s.os ++ s.fs, OutF w S y) (hl : K.length = m) (hm : m ≤ 9223372036854775807) (hr : CellsOut w S a (zcells K)) (st : St w S (rdI p s) w) :
    Calls Tryz.prog 17 #[bptr p.bd, .agg #[.int .i64 n, .slice a m c2]] w (GivesS S (EdV p s (s.v.arm n K).1 (s.v.arm n K).2) w) := by
  refine enterS (args := [.pointer (some ⟨p.bd, 0, none⟩), .agg #[.int .i64 n, .slice a m c2]]) Tryz.func17 Tryz.ntmps17 rfl rfl st ?_
  subst hl
  (repeat (first | refine WC.seq ?_ | refine WC.region ?_))
  refine WL.boxA rfl rfl fun b3 => ?_
  (repeat (first | refine WL.step (Yl.move rfl) rfl ?_ | refine WL.step (Yl.assign rfl) rfl ?_ | refine WL.callV (g := 35) (v := .bool true) Tryz.call35 rfl (fun w0 st2 => evalid_c w0 (ok.out st2 (fun x hx => .tail _ hx) hO)) rfl ?_ | refine WL.step (Yl.not rfl) rfl ?_ | refine WC.seq ?_ | refine WC.region ?_ | refine WL.nil ?_ | refine WN.then_normal ?_))
  refine WC.cond_false rfl rfl ?_
  (repeat (first | (refine WL.k_load ?_; refine WL.step (Yl.loadAll (T := 33) (T' := 33) Tryz.isAgg33 Tryz.sizeOf33 rfl (by repeat (first | exact .head _ | refine .tail _ ?_)) rfl) rfl ?_) | refine WC.seq ?_ | refine WC.region ?_ | refine WN.then_normal ?_ | refine WC.skip ?_))
  refine WL.callV (g := 47) (v := .int .i64 (if planOk n K then 0 else 2)) Tryz.call47 rfl (fun w0 st2 => rchk33_c n a K.length c2 K w0 rfl hm (Rd.out (P := Tryz.prog) (n := 0) hr w0 st2)) rfl ?_
  by_cases hp : ¬ planOk n K
  · rw [if_neg hp, show s.v.arm n K = (s.v, 2) by rw [DV.arm, if_neg hp]]
    (repeat (first | (refine WL.k_bin .neq ?_; refine WL.step (Yl.neqT rfl rfl (by decide)) rfl ?_) | refine WL.nil ?_ | refine WN.then_normal ?_))
    refine WC.cond_true rfl rfl ?_
    (repeat (first | refine WL.step (Yl.assign rfl) rfl ?_ | refine WC.seq ?_ | refine WC.region ?_ | refine WL.nil ?_ | refine WN.then_normal ?_ | refine WC.ret ?_ | refine WN.then_ret ?_))
    exact WN.ret1S rfl rfl ⟨rfl, s, [], ok, rfl, (List.append_nil _).symm, fun y hy => .inl hy⟩ (.more (Part.refl _))
  have hp := Decidable.not_not.1 hp
  have hk64 := hp.2.2.2.1
  rw [if_pos hp, show s.v.arm n K = ((if n = 0 then (if s.v.down then { s.v with pl := none } else s.v.crash K) else { s.v with pl := some (n.toNat, K) }), 0) by rw [DV.arm, if_pos hp]]
  (repeat (first | refine WL.step (Yl.neqF rfl rfl rfl) rfl ?_ | refine WL.nil ?_ | refine WN.then_normal ?_))
  refine WC.cond_false rfl rfl ?_
  have hb3 : HA.blk b3 (.cells #[.int .i64 n, .slice a K.length c2] 33 (0, 0)) ∈ [HA.blk b3 (.cells #[.int .i64 n, .slice a K.length c2] 33 (0, 0))] := .head _
  (repeat (first | refine WC.seq ?_ | refine WN.then_normal ?_ | refine WC.skip ?_))
  refine WC.regionH [.blk b3 (.cells #[.int .i64 n, .slice a K.length c2] 33 (0, 0))] (by kernel_rfl) ?_
  (refine WH.order [0, 1, 2, 4, 5] (by repeat (first | exact Part.nil | refine Part.cons (by repeat (first | exact Pick.here | apply Pick.there)) ?_ | refine Part.free ?_)) (by kernel_rfl) ?_; (repeat (first | (refine WT.k_move rfl ?_; (refine WT.kn rfl ?_; refine WT.take rfl rfl (fun _ _ _ h => h) (Yl.move rfl) rfl (by kernel_rfl) (by kernel_rfl) ?_)) | (refine WT.k_load rfl ?_; (refine WT.kn rfl ?_; first | refine WT.take rfl rfl (fun _ _ _ h => h) (Yl.loadBlk (T := 3) Tryz.isAgg3 rfl (by repeat (first | exact .head _ | refine .tail _ ?_)) (by rfl)) rfl (by kernel_rfl) (by kernel_rfl) ?_ | refine WT.take rfl rfl (fun _ _ _ h => h) (Yl.loadBlk (T := 31) Tryz.isAgg31 rfl (by repeat (first | exact .head _ | refine .tail _ ?_)) (by rfl)) rfl (by kernel_rfl) (by kernel_rfl) ?_)) | (refine WT.k_fld rfl ?_; (refine WT.kn rfl ?_; first | refine WT.take rfl rfl (fun _ _ _ h => h) (Yl.fldN0 (i := 0) (o := 0) (by kernel_rfl) rfl) rfl (by kernel_rfl) (by kernel_rfl) ?_ | refine WT.take rfl rfl (fun _ _ _ h => h) (Yl.fldN0 (i := 1) (o := 1) (by kernel_rfl) rfl) rfl (by kernel_rfl) (by kernel_rfl) ?_)))); refine WT.nil ?_)
  refine WH.only (i := 3) (by kernel_rfl) rfl ?_
  refine WL.lit (t := 31) (vs := []) Tryz.underlying31 elemZ rfl rfl rfl (fun u hu => by simp at hu) rfl fun bl => ?_
  rw [show flat [] = zcells [] from rfl]
  refine WL.nil (WN.nextH (.cons (.there .here) .nil) ?_)
  refine WH.only (i := 6) (by kernel_rfl) rfl ?_
  refine WL.appendRow (t := 31) (n := 0) (m := K.length) (olds := zcells []) (news := zcells K) Tryz.underlying31 elemZ rfl rfl .here rfl (Nat.le_refl 0) (Rd.out hr) (by rw [zcells_len, Nat.mul_one]) (zcells_one _) (by omega) (by simp only [maxLen]; omega) rfl fun q hq => ?_
  rw [show zcells [] ++ zcells K = zcells K from rfl]
  simp only [Nat.zero_add] at hq ⊢
  refine WL.nil (WN.nextH (.cons (.there .here) .nil) ?_)
  (refine WH.order [7] (by repeat (first | exact Part.nil | refine Part.cons (by repeat (first | exact Pick.here | apply Pick.there)) ?_ | refine Part.free ?_)) (by kernel_rfl) ?_; (repeat (first | (refine WT.k_build rfl ?_; (refine WT.kn rfl ?_; refine WT.take rfl rfl (fun _ _ _ h => h) (Yl.build (ps := [(0, .tmp 13), (1, .tmp 17)]) (vs := [(0, .int .i64 n), (1, .slice q.1 K.length q.2)]) rfl (buildPl _ _ _ _)) rfl (by kernel_rfl) (by kernel_rfl) ?_)))); refine WT.nil ?_)
  (refine WH.order [8, 9] (by repeat (first | exact Part.nil | refine Part.cons (by repeat (first | exact Pick.here | apply Pick.there)) ?_ | refine Part.free ?_)) (by kernel_rfl) ?_; (repeat (first | (refine WT.k_fld rfl ?_; (refine WT.kn rfl ?_; refine WT.take rfl rfl (fun _ _ _ h => h) (Yl.fldN0 (i := 2) (o := 2) (by kernel_rfl) rfl) rfl (by kernel_rfl) (by kernel_rfl) ?_)) | (refine WT.k_nilc rfl ?_; (refine WT.kn rfl ?_; refine WT.take rfl rfl (fun _ _ _ h => h) (Yl.nilCheck rfl) rfl (by kernel_rfl) (by kernel_rfl) ?_)))); refine WT.nil ?_)
  refine WH.only (i := 10) (by kernel_rfl) rfl ?_
  simp only [rdI, rdO]
  refine WL.storeBlk (T := 33) (off := 2) (us := [.int .i64 n, .slice q.1 K.length q.2]) Tryz.sizeOf33 rfl rfl rfl (fun u hu => by simp at hu; rcases hu with rfl | rfl <;> rfl) (.there (.there .here)) (by simp) ?_
  refine WL.nil (WN.nextH (.cons (.there (.there .here)) .nil) (WH.done (by kernel_rfl) ?_))
  obtain ⟨k, rfl⟩ := Int.eq_ofNat_of_zero_le hp.1
  obtain ⟨t, ht⟩ : ∃ t : RDS, t = { s with n := k, qa := q.1, qc := q.2, K := K } := ⟨_, rfl⟩
  have htok : t.Ok := by rw [ht]; exact ⟨ok.wf, ok.ok, hq, hk64, fun _ => hp⟩
  have htO : ∀ y ∈ t.os ++ t.fs, OutF w S y := by rw [ht]; exact hO
  refine WN.part (B := .blk b3 (.cells #[.int .i64 (k : Int), .slice a K.length c2] 33 (0, 0)) :: rdI p t) (by rw [ht]; simp only [rdI, rdO, kRow]; exact .cons (.there (.there .here)) (.cons .here (partR8 _ _ _))) ?_
  have hdn : t.down = s.down := by rw [ht]
  have hbk : HA.blk p.bd (rdO p t) ∈ HA.blk b3 (.cells #[.int .i64 (k : Int), .slice a K.length c2] 33 (0, 0)) :: rdI p t := .tail _ (.head _)
  by_cases h0 : k = 0
  · rw [if_pos (by omega : (k : Int) = 0)]
    (repeat (first | refine WL.want rfl rfl rfl ?_ | refine WL.step (Yl.move rfl) rfl ?_ | (refine WL.k_load ?_; first | refine WL.step (Yl.loadBlk (T := 3) Tryz.isAgg3 rfl (by repeat (first | exact .head _ | refine .tail _ ?_)) (by rfl)) rfl ?_ | refine WL.step (Yl.loadBlk (T := 4) Tryz.isAgg4 rfl hbk (by rfl)) rfl ?_) | (refine WL.k_fld ?_; first | refine WL.step (Yl.fldN0 (i := 0) (o := 0) (by kernel_rfl) rfl) rfl ?_ | refine WL.step (Yl.fldN0 (i := 1) (o := 1) (by kernel_rfl) rfl) rfl ?_) | refine WL.step (Yl.pick_t rfl rfl rfl) rfl ?_ | refine WL.step (Yl.nilCheck rfl) rfl ?_ | (refine WL.k_bin .eql ?_; refine WL.step (Yl.eqlT rfl rfl (by omega)) rfl ?_) | refine WL.step (Yl.not rfl) rfl ?_ | refine WC.seq ?_ | refine WC.region ?_ | refine WL.nil ?_ | refine WN.then_normal ?_))
    cases e : s.down with
    | true =>
      rw [show t.down = true by rw [hdn, e]]
      refine WC.cond_false rfl rfl ?_
      (repeat (first | refine WL.step (Yl.assign rfl) rfl ?_ | refine WC.seq ?_ | refine WC.region ?_ | refine WL.nil ?_ | refine WN.then_normal ?_ | refine WC.skip ?_ | refine WC.ret ?_))
      refine WN.ret1S rfl rfl ⟨rfl, t, [], htok, ?_, (List.append_nil _).symm, by rw [ht]; exact fun y hy => .inl hy⟩ (.more (Part.refl _))
      rw [if_pos (show s.v.down = true from e), ht]
      simp [RDS.v, h0]
    | false =>
      rw [show t.down = false by rw [hdn, e]]
      refine WC.cond_true rfl rfl ?_
      (repeat (first | refine WL.step (Yl.move rfl) rfl ?_ | (refine WL.k_load ?_; refine WL.step (Yl.loadBlk (T := 31) Tryz.isAgg31 rfl (by repeat (first | exact .head _ | refine .tail _ ?_)) (by rfl)) rfl ?_) | (refine WL.k_fld ?_; refine WL.step (Yl.fldN0 (i := 1) (o := 1) (by kernel_rfl) rfl) rfl ?_) | refine WC.region ?_))
      refine WL.callS (g := 38) (A0 := .blk p.bd (rdO p t) :: rbI p.r t.os t.fs t.Is) (B := [.blk b3 (.cells #[.int .i64 (k : Int), .slice a K.length c2] 33 (0, 0)), kRow t]) Tryz.call38 rfl (permR9 _ _ _ _) (fun w0 st2 st1 => ecrash_r t a K.length c2 K w0 htok.wf htok.ok (fun y hy => ⟨(htO y hy).1, old_out st2 (permR9 _ _ _ _) (htO y hy).2⟩) rfl (by omega) (old_out st2 (permR9 _ _ _ _) hr) st1) rfl fun v C hv => ?_
      obtain ⟨rfl, os2, fs2, Is2, Z2, rfl, hok2, hin2⟩ := hv
      refine WL.free ?_
      (repeat (first | refine WL.step (Yl.assign rfl) rfl ?_ | refine WC.seq ?_ | refine WC.region ?_ | refine WL.nil ?_ | refine WN.then_normal ?_ | refine WC.ret ?_))
      have hcw := crash_wf K htok.wf
      have e9 : t.d = s.d ∧ t.F = s.F ∧ t.ops = s.ops ∧ t.rd = s.rd ∧ t.os = s.os ∧ t.fs = s.fs := by rw [ht]; exact ⟨rfl, rfl, rfl, rfl, rfl, rfl⟩
      simp only [e9.1, e9.2.1, e9.2.2.1, e9.2.2.2.1, e9.2.2.2.2.1, e9.2.2.2.2.2] at hok2 hin2 hcw ⊢
      rw [if_neg (by rw [show s.v.down = false from e]; decide)]
      exact WN.ret1S rfl rfl ⟨rfl, ⟨os2, fs2, Is2, (crashR K s.d s.F).1.1, (crashR K s.d s.F).1.2, true, 0, none, 0, [], s.ops, s.rd⟩, Z2 ++ [_, _], ⟨hcw.1, hok2, Nat.le_refl _, Nat.zero_le _, fun h => absurd rfl h⟩, rfl, rfl, fun y hy => (hin2 y hy).imp id fun h => h.mono fun z hz => List.mem_append_left _ hz⟩ (Part.perm (permR10 _ _ _ _ _ _))
  · rw [if_neg (by omega : ¬ (k : Int) = 0)]
    (repeat (first | refine WL.pass rfl rfl rfl rfl ?_ | refine WL.step (Yl.move rfl) rfl ?_ | (refine WL.k_load ?_; refine WL.step (Yl.loadBlk (T := 3) Tryz.isAgg3 rfl (by repeat (first | exact .head _ | refine .tail _ ?_)) (by rfl)) rfl ?_) | (refine WL.k_fld ?_; refine WL.step (Yl.fldN0 (i := 0) (o := 0) (by kernel_rfl) rfl) rfl ?_) | refine WL.step (Yl.pick_f rfl rfl rfl) rfl ?_ | (refine WL.k_bin .eql ?_; refine WL.step (Yl.eqlF rfl rfl (by omega)) rfl ?_) | refine WC.seq ?_ | refine WC.region ?_ | refine WL.nil ?_ | refine WN.then_normal ?_))
    refine WC.cond_false rfl rfl ?_
    (repeat (first | refine WL.step (Yl.assign rfl) rfl ?_ | refine WC.seq ?_ | refine WC.region ?_ | refine WL.nil ?_ | refine WN.then_normal ?_ | refine WC.skip ?_ | refine WC.ret ?_))
    refine WN.ret1S rfl rfl ⟨rfl, t, [], htok, ?_, (List.append_nil _).symm, by rw [ht]; exact fun y hy => .inl hy⟩ (.more (Part.refl _))
    rw [ht]
    simp [RDS.v, h0]
theorem enew_no (z : Int) (w : World) (h : z < 1 ∨ 4096 < z) : Calls Tryz.prog 6 #[.int .i64 z] w (Gives (Val (.tuple #[.pointer none, .int .i64 2])) w) := by
  refine enter (args := [_]) Tryz.func6 Tryz.ntmps6 rfl rfl ?_
  (repeat (first | refine WL.step (Yl.move rfl) rfl ?_ | refine WL.step (Yl.assign rfl) rfl ?_ | refine WC.seq ?_ | refine WC.region ?_ | refine WL.nil ?_ | refine WN.then_normal ?_))
  refine WL.callV (g := 29) (v := .tuple #[.pointer none, .int .i64 2]) Tryz.call29 rfl (fun w0 st => rnew_no z w0 h) rfl ?_
  (repeat (first | refine WL.step (Yl.move rfl) rfl ?_ | refine WL.step (Yl.assign rfl) rfl ?_ | refine WL.step (Yl.extract rfl rfl) rfl ?_ | (refine WL.k_bin .neq ?_; refine WL.step (Yl.neqT rfl rfl (by decide)) rfl ?_) | refine WC.seq ?_ | refine WC.region ?_ | refine WL.nil ?_ | refine WN.then_normal ?_))
  refine WC.cond_true rfl rfl ?_
  (repeat (first | refine WL.step (Yl.move rfl) rfl ?_ | refine WL.step (Yl.assign rfl) rfl ?_ | refine WC.seq ?_ | refine WC.region ?_ | refine WL.nil ?_ | refine WN.then_normal ?_ | refine WC.ret ?_ | refine WN.then_ret ?_))
  exact WN.ret2 rfl rfl rfl ⟨rfl, rfl⟩ .nil
theorem enew_c (n : Nat) (w : World) (h1 : 1 ≤ n) (h2 : n ≤ 4096) : Calls Tryz.prog 6 #[.int .i64 (n : Int)] w (Gives (ENewV n) w) := by
  refine enter (args := [_]) Tryz.func6 Tryz.ntmps6 rfl rfl ?_
  (repeat (first | refine WL.step (Yl.move rfl) rfl ?_ | refine WL.step (Yl.assign rfl) rfl ?_ | refine WC.seq ?_ | refine WC.region ?_ | refine WL.nil ?_ | refine WN.then_normal ?_))
  refine WL.call (g := 29) Tryz.call29 rfl (fun w0 st => rnew_c n w0 h1 h2) rfl fun v1 B1 hv1 => ?_
  obtain ⟨r, os, fs, Is, Z, rfl, rfl, hok, hin⟩ := hv1
  (repeat (first | refine WL.step (Yl.move rfl) rfl ?_ | refine WL.step (Yl.assign rfl) rfl ?_ | refine WL.step (Yl.extract rfl rfl) rfl ?_ | refine WL.step (Yl.neqF rfl rfl rfl) rfl ?_ | refine WC.seq ?_ | refine WC.region ?_ | refine WL.nil ?_ | refine WN.then_normal ?_))
  refine WC.cond_false rfl rfl ?_
  (repeat (first | refine WL.step (Yl.move rfl) rfl ?_ | refine WL.step (Yl.build (ps := [(0, .tmp 14)]) (vs := [(0, bptr r.br)]) rfl (buildRd1 _)) rfl ?_ | refine WC.seq ?_ | refine WC.region ?_ | refine WN.then_normal ?_ | refine WC.skip ?_))
  refine WL.boxA rfl rfl fun bd => ?_
  refine WL.free ?_
  (repeat (first | refine WL.step (Yl.assign rfl) rfl ?_ | refine WL.nil ?_ | refine WN.then_normal ?_ | refine WC.ret ?_))
  refine WN.ret2 rfl rfl rfl ⟨⟨bd, r⟩, ⟨os, fs, Is, List.replicate n zblk, fun _ => none, false, 0, none, 0, [], 0, 0⟩, Z, ⟨new_wf h1 h2, hok, Nat.le_refl _, Nat.zero_le _, fun h => absurd rfl h⟩, rfl, rfl, rfl, hin⟩ ?_
  simp only [List.append_nil]
  exact Part.perm (permR11 _ _ _ _)
theorem ecopy_c (s : RDS) (w : World) (h : RDAt w p s) : Calls Tryz.prog 22 #[bptr p.bd] w (Gives (ECopyV s) w) := by
  have hk64 := h.ok.k64
  refine enter (args := [.pointer (some ⟨p.bd, 0, none⟩)]) Tryz.func22 Tryz.ntmps22 rfl rfl ?_
  (repeat (first | refine WL.step (Yl.move rfl) rfl ?_ | refine WL.step (Yl.assign rfl) rfl ?_ | refine WL.callV (g := 35) (v := .bool true) Tryz.call35 rfl (fun w0 st => evalid_c w0 (h.keep st.kept)) rfl ?_ | refine WL.step (Yl.not rfl) rfl ?_ | refine WC.seq ?_ | refine WC.region ?_ | refine WL.nil ?_ | refine WN.then_normal ?_))
  refine WC.cond_false rfl rfl ?_
  (repeat (first | refine WC.seq ?_ | refine WN.then_normal ?_ | refine WC.skip ?_))
  refine WC.regionH [] (by kernel_rfl) ?_
  (refine WH.order [0, 1, 2, 3, 5, 6, 7, 8, 9, 10, 11, 12, 13, 15, 16, 17, 18, 19, 22, 23, 24, 25, 26, 27, 28, 29] (by repeat (first | exact Part.nil | refine Part.cons (by repeat (first | exact Pick.here | apply Pick.there)) ?_ | refine Part.free ?_)) (by kernel_rfl) ?_; (repeat (first | (refine WT.k_move rfl ?_; refine WT.take rfl rfl (fun _ _ _ h => h) (Yl.move rfl) rfl (by kernel_rfl) (by kernel_rfl) ?_) | (refine WT.k_load rfl ?_; refine WT.take rfl rfl (fun _ _ _ h => h) (Yl.loadH Tryz.isAgg60 rfl (Has.old h.blk) rfl) rfl (by kernel_rfl) (by kernel_rfl) ?_) | (refine WT.k_fld rfl ?_; first | refine WT.take rfl rfl (fun _ _ _ h => h) (Yl.fldN0 (i := 0) (o := 0) (by kernel_rfl) rfl) rfl (by kernel_rfl) (by kernel_rfl) ?_ | refine WT.take rfl rfl (fun _ _ _ h => h) (Yl.fldN0 (i := 1) (o := 1) (by kernel_rfl) rfl) rfl (by kernel_rfl) (by kernel_rfl) ?_ | refine WT.take rfl rfl (fun _ _ _ h => h) (Yl.fldN0 (i := 2) (o := 2) (by kernel_rfl) rfl) rfl (by kernel_rfl) (by kernel_rfl) ?_ | refine WT.take rfl rfl (fun _ _ _ h => h) (Yl.fldN0 (i := 3) (o := 4) (by kernel_rfl) rfl) rfl (by kernel_rfl) (by kernel_rfl) ?_ | refine WT.take rfl rfl (fun _ _ _ h => h) (Yl.fldN0 (i := 4) (o := 5) (by kernel_rfl) rfl) rfl (by kernel_rfl) (by kernel_rfl) ?_ | refine WT.take rfl rfl (fun _ _ _ h => h) (Yl.fldN (i := 0) (o := 0) (off := 2) (by kernel_rfl) rfl) rfl (by kernel_rfl) (by kernel_rfl) ?_ | refine WT.take rfl rfl (fun _ _ _ h => h) (Yl.fldN (i := 1) (o := 1) (off := 2) (by kernel_rfl) rfl) rfl (by kernel_rfl) (by kernel_rfl) ?_) | (refine WT.k_nilc rfl ?_; refine WT.take rfl rfl (fun _ _ _ h => h) (Yl.nilCheck rfl) rfl (by kernel_rfl) (by kernel_rfl) ?_))); refine WT.nil ?_)
  refine WH.two (i := 4) (j := 14) (by kernel_rfl) rfl rfl ?_ ?_
  · refine WL.call (g := 49) Tryz.call49 rfl (fun w0 st => rcopy_c w0 (h.keep st.kept).bank) rfl fun v B hv => ?_
    obtain ⟨r2, rfl, rfl⟩ := hv
    refine WL.nil (WN.nextH .nil ?_)
    refine WH.only (i := 14) (by kernel_rfl) rfl ?_
    refine WL.lit (t := 31) (vs := []) Tryz.underlying31 elemZ rfl rfl rfl (fun u hu => by simp at hu) rfl fun bl => ?_
    rw [show flat [] = zcells [] from rfl]
    refine WL.nil (WN.nextH .nil ?_)
    refine WH.only (i := 20) (by kernel_rfl) rfl ?_
    refine WL.appendRow (t := 31) (n := 0) (m := s.K.length) (olds := zcells []) (news := zcells s.K) Tryz.underlying31 elemZ rfl rfl .here rfl (Nat.le_refl 0) (.old h.k) (by rw [zcells_len, Nat.mul_one]) (zcells_one _) (by omega) (by simp only [maxLen]; omega) rfl fun q hq => ?_
    rw [show zcells [] ++ zcells s.K = zcells s.K from rfl]
    simp only [Nat.zero_add] at hq ⊢
    refine WL.nil (WN.nextH .nil ?_)
    (refine WH.order [21] (by repeat (first | exact Part.nil | refine Part.cons (by repeat (first | exact Pick.here | apply Pick.there)) ?_ | refine Part.free ?_)) (by kernel_rfl) ?_; (repeat (first | (refine WT.k_build rfl ?_; refine WT.take rfl rfl (fun _ _ _ h => h) (Yl.build (ps := [(0, .tmp 19), (1, .tmp 26)]) (vs := [(0, .int .i64 (s.n : Int)), (1, .slice q.1 s.K.length q.2)]) rfl (buildPl _ _ _ _)) rfl (by kernel_rfl) (by kernel_rfl) ?_))); refine WT.nil ?_)
    (refine WH.order [30] (by repeat (first | exact Part.nil | refine Part.cons (by repeat (first | exact Pick.here | apply Pick.there)) ?_ | refine Part.free ?_)) (by kernel_rfl) ?_; (repeat (first | (refine WT.k_build rfl ?_; refine WT.take rfl rfl (fun _ _ _ h => h) (Yl.build (ps := [(0, .tmp 10), (1, .tmp 14), (2, .tmp 27), (3, .tmp 31), (4, .tmp 35)]) (vs := [(0, bptr r2.br), (1, .bool s.down), (2, .agg #[.int .i64 (s.n : Int), .slice q.1 s.K.length q.2]), (3, .int .i64 (s.ops : Int)), (4, .int .i64 (s.rd : Int))]) rfl (buildRd5 _ _ _ _ _ _ _ _)) rfl (by kernel_rfl) (by kernel_rfl) ?_))); refine WT.nil ?_)
    refine WH.only (i := 31) (by kernel_rfl) rfl ?_
    refine WL.boxA rfl rfl fun bd => ?_
    refine WL.nil (WN.nextH .nil ?_)
    (refine WH.order [32] (by repeat (first | exact Part.nil | refine Part.cons (by repeat (first | exact Pick.here | apply Pick.there)) ?_ | refine Part.free ?_)) (by kernel_rfl) ?_; (repeat (first | (refine WT.k_assign rfl ?_; refine WT.take rfl rfl (fun _ _ _ h => h) (Yl.assign rfl) rfl (by kernel_rfl) (by kernel_rfl) ?_))); refine WT.nil ?_)
    refine WH.done (by kernel_rfl) ?_
    (repeat (first | refine WN.then_normal ?_ | refine WC.ret ?_))
    refine WN.ret1 rfl rfl ⟨⟨bd, r2⟩, { s with qa := q.1, qc := q.2 }, ⟨h.ok.wf, h.ok.ok, hq, h.ok.k64, h.ok.pl⟩, rfl, rfl, rfl, rfl, rfl⟩ ?_
    simp only [List.append_nil]
    exact Part.perm (permR12 _ _ _ )
  · refine WL.lit (t := 31) (vs := []) Tryz.underlying31 elemZ rfl rfl rfl (fun u hu => by simp at hu) rfl fun bl => ?_
    rw [show flat [] = zcells [] from rfl]
    refine WL.nil (WN.nextH .nil ?_)
    refine WH.only (i := 4) (by kernel_rfl) rfl ?_
    refine WL.call (g := 49) Tryz.call49 rfl (fun w0 st => rcopy_c w0 (h.keep st.kept).bank) rfl fun v B hv => ?_
    obtain ⟨r2, rfl, rfl⟩ := hv
    refine WL.nil (WN.nextH .nil ?_)
    refine WH.only (i := 20) (by kernel_rfl) rfl ?_
    refine WL.appendRow (t := 31) (n := 0) (m := s.K.length) (olds := zcells []) (news := zcells s.K) Tryz.underlying31 elemZ rfl rfl (Pick.app _ .here) rfl (Nat.le_refl 0) (.old h.k) (by rw [zcells_len, Nat.mul_one]) (zcells_one _) (by omega) (by simp only [maxLen]; omega) rfl fun q hq => ?_
    rw [show zcells [] ++ zcells s.K = zcells s.K from rfl]
    simp only [Nat.zero_add] at hq ⊢
    refine WL.nil (WN.nextH .nil ?_)
    (refine WH.order [21] (by repeat (first | exact Part.nil | refine Part.cons (by repeat (first | exact Pick.here | apply Pick.there)) ?_ | refine Part.free ?_)) (by kernel_rfl) ?_; (repeat (first | (refine WT.k_build rfl ?_; refine WT.take rfl rfl (fun _ _ _ h => h) (Yl.build (ps := [(0, .tmp 19), (1, .tmp 26)]) (vs := [(0, .int .i64 (s.n : Int)), (1, .slice q.1 s.K.length q.2)]) rfl (buildPl _ _ _ _)) rfl (by kernel_rfl) (by kernel_rfl) ?_))); refine WT.nil ?_)
    (refine WH.order [30] (by repeat (first | exact Part.nil | refine Part.cons (by repeat (first | exact Pick.here | apply Pick.there)) ?_ | refine Part.free ?_)) (by kernel_rfl) ?_; (repeat (first | (refine WT.k_build rfl ?_; refine WT.take rfl rfl (fun _ _ _ h => h) (Yl.build (ps := [(0, .tmp 10), (1, .tmp 14), (2, .tmp 27), (3, .tmp 31), (4, .tmp 35)]) (vs := [(0, bptr r2.br), (1, .bool s.down), (2, .agg #[.int .i64 (s.n : Int), .slice q.1 s.K.length q.2]), (3, .int .i64 (s.ops : Int)), (4, .int .i64 (s.rd : Int))]) rfl (buildRd5 _ _ _ _ _ _ _ _)) rfl (by kernel_rfl) (by kernel_rfl) ?_))); refine WT.nil ?_)
    refine WH.only (i := 31) (by kernel_rfl) rfl ?_
    refine WL.boxA rfl rfl fun bd => ?_
    refine WL.nil (WN.nextH .nil ?_)
    (refine WH.order [32] (by repeat (first | exact Part.nil | refine Part.cons (by repeat (first | exact Pick.here | apply Pick.there)) ?_ | refine Part.free ?_)) (by kernel_rfl) ?_; (repeat (first | (refine WT.k_assign rfl ?_; refine WT.take rfl rfl (fun _ _ _ h => h) (Yl.assign rfl) rfl (by kernel_rfl) (by kernel_rfl) ?_))); refine WT.nil ?_)
    refine WH.done (by kernel_rfl) ?_
    (repeat (first | refine WN.then_normal ?_ | refine WC.ret ?_))
    refine WN.ret1 rfl rfl ⟨⟨bd, r2⟩, { s with qa := q.1, qc := q.2 }, ⟨h.ok.wf, h.ok.ok, hq, h.ok.k64, h.ok.pl⟩, rfl, rfl, rfl, rfl, rfl⟩ ?_
    simp only [List.append_nil]
    exact Part.perm (permR13 _ _ _)
theorem ewrite_no (sec : Int) (a : Option Addr) (n c2 : Nat) (w : World) : Calls Tryz.prog 10 #[.pointer none, .int .i64 sec, .slice a n c2] w (Gives (Val (.int .i64 1)) w) := by
  refine enter (args := [.pointer none, .int .i64 sec, .slice a n c2]) Tryz.func10 Tryz.ntmps10 rfl rfl ?_
  (repeat (first | refine WL.step (Yl.move rfl) rfl ?_ | refine WL.step (Yl.assign rfl) rfl ?_ | refine WL.callV (g := 35) (v := .bool false) Tryz.call35 rfl (fun w0 st => evalid_no w0) rfl ?_ | refine WL.step (Yl.not rfl) rfl ?_ | refine WC.seq ?_ | refine WC.region ?_ | refine WL.nil ?_ | refine WN.then_normal ?_))
  refine WC.cond_true rfl rfl ?_
  (repeat (first | refine WL.step (Yl.assign rfl) rfl ?_ | refine WC.seq ?_ | refine WC.region ?_ | refine WL.nil ?_ | refine WN.then_normal ?_ | refine WC.ret ?_ | refine WN.then_ret ?_))
  exact WN.ret1 rfl rfl ⟨rfl, rfl⟩ .nil
theorem esync_no (w : World) : Calls Tryz.prog 12 #[.pointer none] w (Gives (Val (.int .i64 1)) w) := by
  refine enter (args := [.pointer none]) Tryz.func12 Tryz.ntmps12 rfl rfl ?_
  (repeat (first | refine WL.step (Yl.move rfl) rfl ?_ | refine WL.step (Yl.assign rfl) rfl ?_ | refine WL.callV (g := 35) (v := .bool false) Tryz.call35 rfl (fun w0 st => evalid_no w0) rfl ?_ | refine WL.step (Yl.not rfl) rfl ?_ | refine WC.seq ?_ | refine WC.region ?_ | refine WL.nil ?_ | refine WN.then_normal ?_))
  refine WC.cond_true rfl rfl ?_
  (repeat (first | refine WL.step (Yl.assign rfl) rfl ?_ | refine WC.seq ?_ | refine WC.region ?_ | refine WL.nil ?_ | refine WN.then_normal ?_ | refine WC.ret ?_ | refine WN.then_ret ?_))
  exact WN.ret1 rfl rfl ⟨rfl, rfl⟩ .nil
theorem eread_no (sec : Int) (w : World) : Calls Tryz.prog 14 #[.pointer none, .int .i64 sec] w (Gives (Val (.tuple #[.slice none 0 0, .int .i64 1])) w) := by
  refine enter (args := [.pointer none, .int .i64 sec]) Tryz.func14 Tryz.ntmps14 rfl rfl ?_
  (repeat (first | refine WL.step (Yl.move rfl) rfl ?_ | refine WL.step (Yl.assign rfl) rfl ?_ | refine WL.callV (g := 35) (v := .bool false) Tryz.call35 rfl (fun w0 st => evalid_no w0) rfl ?_ | refine WL.step (Yl.not rfl) rfl ?_ | refine WC.seq ?_ | refine WC.region ?_ | refine WL.nil ?_ | refine WN.then_normal ?_))
  refine WC.cond_true rfl rfl ?_
  (repeat (first | refine WL.step (Yl.assign rfl) rfl ?_ | refine WC.seq ?_ | refine WC.region ?_ | refine WL.nil ?_ | refine WN.then_normal ?_ | refine WC.ret ?_ | refine WN.then_ret ?_))
  exact WN.ret2 rfl rfl rfl ⟨rfl, rfl⟩ .nil
theorem earm_no (n : Int) (a : Option Addr) (m c2 : Nat) (w : World) : Calls Tryz.prog 17 #[.pointer none, .agg #[.int .i64 n, .slice a m c2]] w (Gives (Val (.int .i64 1)) w) := by
  refine enter (args := [.pointer none, .agg #[.int .i64 n, .slice a m c2]]) Tryz.func17 Tryz.ntmps17 rfl rfl ?_
  (repeat (first | refine WC.seq ?_ | refine WC.region ?_))
  refine WL.boxA rfl rfl fun b3 => ?_
  (repeat (first | refine WL.step (Yl.move rfl) rfl ?_ | refine WL.step (Yl.assign rfl) rfl ?_ | refine WL.callV (g := 35) (v := .bool false) Tryz.call35 rfl (fun w0 st => evalid_no w0) rfl ?_ | refine WL.step (Yl.not rfl) rfl ?_ | refine WC.seq ?_ | refine WC.region ?_ | refine WL.nil ?_ | refine WN.then_normal ?_))
  refine WC.cond_true rfl rfl ?_
  (repeat (first | refine WL.step (Yl.assign rfl) rfl ?_ | refine WC.seq ?_ | refine WC.region ?_ | refine WL.nil ?_ | refine WN.then_normal ?_ | refine WC.ret ?_ | refine WN.then_ret ?_))
  exact WN.ret1 rfl rfl ⟨rfl, rfl⟩ .nil
theorem erestart_no (w : World) : Calls Tryz.prog 20 #[.pointer none] w (Gives (Val (.int .i64 1)) w) := by
  refine enter (args := [.pointer none]) Tryz.func20 Tryz.ntmps20 rfl rfl ?_
  (repeat (first | refine WL.step (Yl.move rfl) rfl ?_ | refine WL.step (Yl.assign rfl) rfl ?_ | refine WL.callV (g := 35) (v := .bool false) Tryz.call35 rfl (fun w0 st => evalid_no w0) rfl ?_ | refine WL.step (Yl.not rfl) rfl ?_ | refine WC.seq ?_ | refine WC.region ?_ | refine WL.nil ?_ | refine WN.then_normal ?_))
  refine WC.cond_true rfl rfl ?_
  (repeat (first | refine WL.step (Yl.assign rfl) rfl ?_ | refine WC.seq ?_ | refine WC.region ?_ | refine WL.nil ?_ | refine WN.then_normal ?_ | refine WC.ret ?_ | refine WN.then_ret ?_))
  exact WN.ret1 rfl rfl ⟨rfl, rfl⟩ .nil
theorem ecopy_no (w : World) : Calls Tryz.prog 22 #[.pointer none] w (Gives (Val (.pointer none)) w) := by
  refine enter (args := [.pointer none]) Tryz.func22 Tryz.ntmps22 rfl rfl ?_
  (repeat (first | refine WL.step (Yl.move rfl) rfl ?_ | refine WL.step (Yl.assign rfl) rfl ?_ | refine WL.callV (g := 35) (v := .bool false) Tryz.call35 rfl (fun w0 st => evalid_no w0) rfl ?_ | refine WL.step (Yl.not rfl) rfl ?_ | refine WC.seq ?_ | refine WC.region ?_ | refine WL.nil ?_ | refine WN.then_normal ?_))
  refine WC.cond_true rfl rfl ?_
  (repeat (first | refine WL.step (Yl.assign rfl) rfl ?_ | refine WC.seq ?_ | refine WC.region ?_ | refine WL.nil ?_ | refine WN.then_normal ?_ | refine WC.ret ?_ | refine WN.then_ret ?_))
  exact WN.ret1 rfl rfl ⟨rfl, rfl⟩ .nil
end
end Go.Proofs.YtmmpngigaodcgaaGreat
