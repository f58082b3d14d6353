import Derived.Test.YtbkdjfgkebkknaaGreatDoorRowJournalRowsMg22
import Derived.Test.YtbkdjfgkebkknaaGreatDoorRowJournalRowsMg21
import Derived.Test.YtbkdjfgkebkknaaGreatDoorRowJournalRowsMg11
namespace Go.Proofs.YtbkdjfgkebkknaaGreatDoor
set_option linter.unusedVariables false
set_option linter.unusedSimpArgs false
open Go Go.RowKit
set_option maxRecDepth 100000
set_option maxHeartbeats 8000000
theorem WN.part {X : Cx} {e : Exit} {Q : Exit → Act → World → Prop} {ρ : Env} {A B : List HA} (hp : Part A B) (h : WN X Q e ρ B) : WN X Q e ρ A := fun a w f s => h a w f (s.part hp)
theorem partR8 (n o : HA) : ∀ L : List HA, Part (n :: (L ++ [o])) (L ++ [n])
  | [] => .cons .here .nil
  | _ :: L => .cons (.there .here) (partR8 n o L)
theorem permR9 (b x r : HA) (L : List HA) : (b :: (x :: (L ++ [r]))).Perm ((x :: L) ++ [b, r]) := by
  classical
  rw [List.perm_iff_count]; intro u; simp only [List.count_append, List.count_cons, List.count_nil]; omega
theorem permR10 (f x b r : HA) (L Z2 : List HA) : (f :: ((x :: (L ++ Z2)) ++ [b, r])).Perm ((x :: (L ++ [f])) ++ (Z2 ++ [b, r])) := by
  classical
  rw [List.perm_iff_count]; intro u; simp only [List.count_append, List.count_cons, List.count_nil]; omega
theorem permR11 (f x : HA) (L Z : List HA) : (f :: x :: (L ++ Z)).Perm ((x :: (L ++ [f])) ++ Z) := by
  classical
  rw [List.perm_iff_count]; intro u; simp only [List.count_append, List.count_cons, List.count_nil]; omega
def EdR (p : RDP) (s : RDS) (v : DV) (r : List UInt8 × Nat) : Value → List HA → Prop := fun u B => ∃ a c, r.1.length ≤ c ∧ u = .tuple #[.slice a r.1.length c, .int .i64 (r.2 : Int)] ∧ ∃ s' : RDS, s'.Ok ∧ s'.v = v ∧ s'.os = s.os ∧ s'.fs = s.fs ∧ B = .row a c 5 1 (bs r.1) :: rdI p s'
def ENewV (n : Nat) : Value → List HA → Prop := fun u B => ∃ p : RDP, ∃ s : RDS, ∃ Z, s.Ok ∧ s.v = ⟨List.replicate n zblk, fun _ => none, false, none, 0, 0⟩ ∧ u = .tuple #[bptr p.bd, .int .i64 0] ∧ B = rdI p s ++ Z ∧ ∀ x ∈ s.os ++ s.fs, InF Z x
theorem buildRd1 (a : Option Addr) (w : World) : (Instr.build 137 [(0, .pointer a)].toArray).run Tryz.prog w = .ok (.agg #[.pointer a, .bool false, .int .i64 0, .slice none 0 0, .int .i64 0, .int .i64 0]) w := by
  simp [Instr.build, Tryz.zeroValue137, run_underlying Tryz.underlying137, Tryz.sizeOf133, Tryz.sizeOf4, Tryz.sizeOf63, Tryz.sizeOf2, Value.cells, Instr.fill]
attribute [local irreducible] WL WC WN Yl WH WQ WT WE WU WG WV
section
variable {p : RDP} {S : List Nat}
theorem eread_r (sec : Int) (s : RDS) (w : World) (ok : s.Ok) (hO : ∀ y ∈ s.os ++ s.fs, OutF w S y) (hrd : s.rd < 4611686018427387904) (st : St w S (rdI p s) w) :
    Calls Tryz.prog 129 #[bptr p.bd, .int .i64 sec] w (GivesS S (EdR p s (s.v.read sec).1 (s.v.read sec).2) w) := by
  refine enterS (args := [.pointer (some ⟨p.bd, 0, none⟩), _]) Tryz.func129 Tryz.ntmps129 rfl rfl st ?_
  (repeat (first | refine WL.step (Yl.move rfl) rfl ?_ | refine WL.step (Yl.assign rfl) rfl ?_ | refine WL.callV (g := 75) (v := .bool true) Tryz.call75 rfl (fun w0 st2 => evalid_c w0 (ok.out st2 (fun x hx => hx) hO)) rfl ?_ | refine WL.step (Yl.not rfl) rfl ?_ | refine WC.seq ?_ | refine WC.region ?_ | refine WL.nil ?_ | refine WN.then_normal ?_))
  refine WC.cond_false rfl rfl ?_
  have hbk : HA.blk p.bd (rdO p s) ∈ rdI p s := .head _
  (repeat (first | refine WL.step (Yl.move rfl) rfl ?_ | (refine WL.k_load ?_; refine WL.step (Yl.loadBlk (T := 4) Tryz.isAgg4 rfl hbk (by rfl)) rfl ?_) | (refine WL.k_fld ?_; refine WL.step (Yl.fldN0 (i := 1) (o := 1) (by kernel_rfl) rfl) rfl ?_) | refine WL.step (Yl.nilCheck rfl) rfl ?_ | refine WC.seq ?_ | refine WC.region ?_ | refine WL.nil ?_ | refine WN.then_normal ?_ | refine WC.skip ?_))
  cases e : s.down with
  | true =>
    refine WC.cond_true rfl rfl ?_
    (repeat (first | refine WL.step (Yl.assign rfl) rfl ?_ | refine WC.seq ?_ | refine WC.region ?_ | refine WL.nil ?_ | refine WN.then_normal ?_ | refine WC.ret ?_ | refine WN.then_ret ?_))
    have hv : s.v.read sec = (s.v, ([], 11)) := by rw [DV.read, if_pos (show s.v.down = true from e)]
    rw [hv]
    exact WN.ret2S rfl rfl rfl ⟨none, 0, Nat.le_refl _, rfl, s, ok, rfl, rfl, rfl, rfl⟩ (.free (Part.refl _))
  | false =>
    refine WC.cond_false rfl rfl ?_
    have hv : s.v.read sec = ((if (readR s.d s.F sec).2 = 0 then { s.v with rd := s.rd + 1 } else s.v), readR s.d s.F sec) := by rw [DV.read, if_neg (by rw [show s.v.down = false from e]; decide)]; rfl
    rw [hv]
    (repeat (first | refine WL.step (Yl.move rfl) rfl ?_ | (refine WL.k_load ?_; refine WL.step (Yl.loadBlk (T := 133) Tryz.isAgg133 rfl hbk (by rfl)) rfl ?_) | (refine WL.k_fld ?_; refine WL.step (Yl.fldN0 (i := 0) (o := 0) (by kernel_rfl) rfl) rfl ?_) | refine WL.step (Yl.nilCheck rfl) rfl ?_ | refine WC.seq ?_ | refine WC.region ?_ | refine WN.then_normal ?_ | refine WC.skip ?_))
    refine WL.call (g := 79) Tryz.call79 rfl (fun w0 st2 => rread_c sec w0 (ok.out st2 (fun x hx => hx) hO).bank) rfl fun v B hv => ?_
    obtain ⟨a', c', hc', rfl, rfl⟩ := hv
    rcases readR_code s.d s.F sec with h | h
    · rw [h, if_pos rfl]
      (repeat (first | refine WL.step (Yl.move rfl) rfl ?_ | refine WL.step (Yl.assign rfl) rfl ?_ | refine WL.step (Yl.extract rfl rfl) rfl ?_ | refine WL.step (Yl.eqlT rfl rfl rfl) rfl ?_ | refine WC.seq ?_ | refine WC.region ?_ | refine WL.nil ?_ | refine WN.then_normal ?_))
      refine WC.cond_true rfl rfl ?_
      simp only [rdI, rdO, List.cons_append, List.nil_append]
      (repeat (first | refine WL.step (Yl.move rfl) rfl ?_ | (refine WL.k_load ?_; refine WL.step (Yl.loadBlk (T := 2) Tryz.isAgg2 rfl zH (by rfl)) rfl ?_) | (refine WL.k_fld ?_; refine WL.step (Yl.fldN0 (i := 4) (o := 5) (by kernel_rfl) rfl) rfl ?_) | refine WL.step (Yl.nilCheck rfl) rfl ?_ | (refine WL.k_bin .add ?_; refine WL.step (Yl.add64C rfl (by omega)) rfl ?_) | refine WC.region ?_))
      refine WL.storeAt (T := 2) Tryz.sizeOf2 rfl rfl rfl (.there .here) rfl ?_
      (repeat (first | refine WL.step (Yl.move rfl) rfl ?_ | refine WL.step (Yl.assign rfl) rfl ?_ | refine WC.seq ?_ | refine WC.region ?_ | refine WL.nil ?_ | refine WN.then_normal ?_ | refine WC.ret ?_))
      refine WN.ret2S rfl rfl rfl ⟨a', c', hc', by rw [h]; rfl, { s with rd := s.rd + 1 }, ⟨ok.wf, ok.ok, ok.kc, ok.k64, ok.pl⟩, rfl, rfl, rfl, rfl⟩ ?_
      simp only [rdI, rdO]
      exact .cons (.there .here) (.cons .here (Part.refl _))
    · rw [h, if_neg (show ¬ (3 = 0) by decide)]
      (repeat (first | refine WL.step (Yl.move rfl) rfl ?_ | refine WL.step (Yl.assign rfl) rfl ?_ | refine WL.step (Yl.extract rfl rfl) rfl ?_ | (refine WL.k_bin .eql ?_; refine WL.step (Yl.eqlF rfl rfl (by decide)) rfl ?_) | refine WC.seq ?_ | refine WC.region ?_ | refine WL.nil ?_ | refine WN.then_normal ?_))
      refine WC.cond_false rfl rfl ?_
      (repeat (first | refine WL.step (Yl.move rfl) rfl ?_ | refine WL.step (Yl.assign rfl) rfl ?_ | refine WC.seq ?_ | refine WC.region ?_ | refine WL.nil ?_ | refine WN.then_normal ?_ | refine WC.skip ?_ | refine WC.ret ?_))
      exact WN.ret2S rfl rfl rfl ⟨a', c', hc', by rw [h]; rfl, s, ok, rfl, rfl, rfl, rfl⟩ (Part.refl _)
theorem earm_r (n : Int) (a : Option Addr) (m c2 : Nat) (K : List Int) (s : RDS) (w : World) (ok : s.Ok) (hO : ∀ y ∈ s.os ++ s.fs, OutF w S y) (hl : K.length = m) (hm : m ≤ 9223372036854775807) (hr : CellsOut w S a (zcells K)) (st : St w S (rdI p s) w) :
    Calls Tryz.prog 49 #[bptr p.bd, .agg #[.int .i64 n, .slice a m c2]] w (GivesS S (EdV p s (s.v.arm n K).1 (s.v.arm n K).2) w) := by
  refine enterS (args := [.pointer (some ⟨p.bd, 0, none⟩), .agg #[.int .i64 n, .slice a m c2]]) Tryz.func49 Tryz.ntmps49 rfl rfl st ?_
  subst hl
  (repeat (first | refine WC.seq ?_ | refine WC.region ?_))
  refine WL.boxA rfl rfl fun b3 => ?_
  (repeat (first | refine WL.step (Yl.move rfl) rfl ?_ | refine WL.step (Yl.assign rfl) rfl ?_ | refine WL.callV (g := 75) (v := .bool true) Tryz.call75 rfl (fun w0 st2 => evalid_c w0 (ok.out st2 (fun x hx => .tail _ hx) hO)) rfl ?_ | refine WL.step (Yl.not rfl) rfl ?_ | refine WC.seq ?_ | refine WC.region ?_ | refine WL.nil ?_ | refine WN.then_normal ?_))
  refine WC.cond_false rfl rfl ?_
  (repeat (first | (refine WL.k_load ?_; refine WL.step (Yl.loadAll (T := 63) (T' := 63) Tryz.isAgg63 Tryz.sizeOf63 rfl zH rfl) rfl ?_) | refine WC.seq ?_ | refine WC.region ?_ | refine WN.then_normal ?_ | refine WC.skip ?_))
  refine WL.callV (g := 102) (v := .int .i64 (if planOk n K then 0 else 2)) Tryz.call102 rfl (fun w0 st2 => rchk33_c n a K.length c2 K w0 rfl hm (Rd.out (P := Tryz.prog) (n := 0) hr w0 st2)) rfl ?_
  by_cases hp : ¬ planOk n K
  · rw [if_neg hp, show s.v.arm n K = (s.v, 2) by rw [DV.arm, if_neg hp]]
    (repeat (first | (refine WL.k_bin .neq ?_; refine WL.step (Yl.neqT rfl rfl (by decide)) rfl ?_) | refine WL.nil ?_ | refine WN.then_normal ?_))
    refine WC.cond_true rfl rfl ?_
    (repeat (first | refine WL.step (Yl.assign rfl) rfl ?_ | refine WC.seq ?_ | refine WC.region ?_ | refine WL.nil ?_ | refine WN.then_normal ?_ | refine WC.ret ?_ | refine WN.then_ret ?_))
    exact WN.ret1S rfl rfl ⟨rfl, s, [], ok, rfl, (List.append_nil _).symm, fun y hy => .inl hy⟩ (.more (Part.refl _))
  have hp := Decidable.not_not.1 hp
  have hk64 := hp.2.2.2.1
  rw [if_pos hp, show s.v.arm n K = ((if n = 0 then (if s.v.down then { s.v with pl := none } else s.v.crash K) else { s.v with pl := some (n.toNat, K) }), 0) by rw [DV.arm, if_pos hp]]
  (repeat (first | refine WL.step (Yl.neqF rfl rfl rfl) rfl ?_ | refine WL.nil ?_ | refine WN.then_normal ?_))
  refine WC.cond_false rfl rfl ?_
  have hb3 : HA.blk b3 (.cells #[.int .i64 n, .slice a K.length c2] 63 (0, 0)) ∈ [HA.blk b3 (.cells #[.int .i64 n, .slice a K.length c2] 63 (0, 0))] := .head _
  (repeat (first | refine WC.seq ?_ | refine WN.then_normal ?_ | refine WC.skip ?_))
  refine WC.regionH [.blk b3 (.cells #[.int .i64 n, .slice a K.length c2] 63 (0, 0))] (by kernel_rfl) ?_
  (refine WH.order [0, 1, 2, 4, 5] (by repeat (first | exact Part.nil | refine Part.cons zK ?_ | refine Part.free ?_)) (by kernel_rfl) ?_; (repeat (first | (refine WT.k_move rfl ?_; (refine WT.kn rfl ?_; refine WT.take rfl rfl (fun _ _ _ h => h) (Yl.move rfl) rfl (by kernel_rfl) (by kernel_rfl) ?_)) | (refine WT.k_load rfl ?_; (refine WT.kn rfl ?_; first | refine WT.take rfl rfl (fun _ _ _ h => h) (Yl.loadBlk (T := 3) Tryz.isAgg3 rfl zH (by rfl)) rfl (by kernel_rfl) (by kernel_rfl) ?_ | refine WT.take rfl rfl (fun _ _ _ h => h) (Yl.loadBlk (T := 61) Tryz.isAgg61 rfl zH (by rfl)) rfl (by kernel_rfl) (by kernel_rfl) ?_)) | (refine WT.k_fld rfl ?_; (refine WT.kn rfl ?_; first | refine WT.take rfl rfl (fun _ _ _ h => h) (Yl.fldN0 (i := 0) (o := 0) (by kernel_rfl) rfl) rfl (by kernel_rfl) (by kernel_rfl) ?_ | refine WT.take rfl rfl (fun _ _ _ h => h) (Yl.fldN0 (i := 1) (o := 1) (by kernel_rfl) rfl) rfl (by kernel_rfl) (by kernel_rfl) ?_)))); refine WT.nil ?_)
  refine WH.only (i := 3) (by kernel_rfl) rfl ?_
  refine WL.lit (t := 61) (vs := []) Tryz.underlying61 elemZ rfl rfl rfl (fun u hu => by simp at hu) rfl fun bl => ?_
  rw [show flat [] = zcells [] from rfl]
  refine WL.nil (WN.nextH (.cons (.there .here) .nil) ?_)
  refine WH.only (i := 6) (by kernel_rfl) rfl ?_
  refine WL.appendRow (t := 61) (n := 0) (m := K.length) (olds := zcells []) (news := zcells K) Tryz.underlying61 elemZ rfl rfl .here rfl (Nat.le_refl 0) (Rd.out hr) (by rw [zcells_len, Nat.mul_one]) (zcells_one _) (by omega) (by simp only [maxLen]; omega) rfl fun q hq => ?_
  rw [show zcells [] ++ zcells K = zcells K from rfl]
  simp only [Nat.zero_add] at hq ⊢
  refine WL.nil (WN.nextH (.cons (.there .here) .nil) ?_)
  (refine WH.order [7] (by repeat (first | exact Part.nil | refine Part.cons zK ?_ | refine Part.free ?_)) (by kernel_rfl) ?_; (repeat (first | (refine WT.k_build rfl ?_; (refine WT.kn rfl ?_; refine WT.take rfl rfl (fun _ _ _ h => h) (Yl.build (ps := [(0, .tmp 13), (1, .tmp 17)]) (vs := [(0, .int .i64 n), (1, .slice q.1 K.length q.2)]) rfl (buildPl _ _ _ _)) rfl (by kernel_rfl) (by kernel_rfl) ?_)))); refine WT.nil ?_)
  (refine WH.order [8, 9] (by repeat (first | exact Part.nil | refine Part.cons zK ?_ | refine Part.free ?_)) (by kernel_rfl) ?_; (repeat (first | (refine WT.k_fld rfl ?_; (refine WT.kn rfl ?_; refine WT.take rfl rfl (fun _ _ _ h => h) (Yl.fldN0 (i := 2) (o := 2) (by kernel_rfl) rfl) rfl (by kernel_rfl) (by kernel_rfl) ?_)) | (refine WT.k_nilc rfl ?_; (refine WT.kn rfl ?_; refine WT.take rfl rfl (fun _ _ _ h => h) (Yl.nilCheck rfl) rfl (by kernel_rfl) (by kernel_rfl) ?_)))); refine WT.nil ?_)
  refine WH.only (i := 10) (by kernel_rfl) rfl ?_
  simp only [rdI, rdO]
  refine WL.storeBlk (T := 63) (off := 2) (us := [.int .i64 n, .slice q.1 K.length q.2]) Tryz.sizeOf63 rfl rfl rfl (fun u hu => by simp at hu; rcases hu with rfl | rfl <;> rfl) (.there (.there .here)) (by simp) ?_
  refine WL.nil (WN.nextH (.cons (.there (.there .here)) .nil) (WH.done (by kernel_rfl) ?_))
  obtain ⟨k, rfl⟩ := Int.eq_ofNat_of_zero_le hp.1
  obtain ⟨t, ht⟩ : ∃ t : RDS, t = { s with n := k, qa := q.1, qc := q.2, K := K } := ⟨_, rfl⟩
  have htok : t.Ok := by rw [ht]; exact ⟨ok.wf, ok.ok, hq, hk64, fun _ => hp⟩
  have htO : ∀ y ∈ t.os ++ t.fs, OutF w S y := by rw [ht]; exact hO
  refine WN.part (B := .blk b3 (.cells #[.int .i64 (k : Int), .slice a K.length c2] 63 (0, 0)) :: rdI p t) (by rw [ht]; simp only [rdI, rdO, kRow]; exact .cons (.there (.there .here)) (.cons .here (partR8 _ _ _))) ?_
  have hdn : t.down = s.down := by rw [ht]
  have hbk : HA.blk p.bd (rdO p t) ∈ HA.blk b3 (.cells #[.int .i64 (k : Int), .slice a K.length c2] 63 (0, 0)) :: rdI p t := .tail _ (.head _)
  by_cases h0 : k = 0
  · rw [if_pos (by omega : (k : Int) = 0)]
    (repeat (first | refine WL.want rfl rfl rfl ?_ | refine WL.step (Yl.move rfl) rfl ?_ | (refine WL.k_load ?_; first | refine WL.step (Yl.loadBlk (T := 3) Tryz.isAgg3 rfl zH (by rfl)) rfl ?_ | refine WL.step (Yl.loadBlk (T := 4) Tryz.isAgg4 rfl hbk (by rfl)) rfl ?_) | (refine WL.k_fld ?_; first | refine WL.step (Yl.fldN0 (i := 0) (o := 0) (by kernel_rfl) rfl) rfl ?_ | refine WL.step (Yl.fldN0 (i := 1) (o := 1) (by kernel_rfl) rfl) rfl ?_) | refine WL.step (Yl.pick_t rfl rfl rfl) rfl ?_ | refine WL.step (Yl.nilCheck rfl) rfl ?_ | (refine WL.k_bin .eql ?_; refine WL.step (Yl.eqlT rfl rfl (by omega)) rfl ?_) | refine WL.step (Yl.not rfl) rfl ?_ | refine WC.seq ?_ | refine WC.region ?_ | refine WL.nil ?_ | refine WN.then_normal ?_))
    cases e : s.down with
    | true =>
      rw [show t.down = true by rw [hdn, e]]
      refine WC.cond_false rfl rfl ?_
      (repeat (first | refine WL.step (Yl.assign rfl) rfl ?_ | refine WC.seq ?_ | refine WC.region ?_ | refine WL.nil ?_ | refine WN.then_normal ?_ | refine WC.skip ?_ | refine WC.ret ?_))
      refine WN.ret1S rfl rfl ⟨rfl, t, [], htok, ?_, (List.append_nil _).symm, by rw [ht]; exact fun y hy => .inl hy⟩ (.more (Part.refl _))
      rw [if_pos (show s.v.down = true from e), ht]
      simp [RDS.v, h0]
    | false =>
      rw [show t.down = false by rw [hdn, e]]
      refine WC.cond_true rfl rfl ?_
      (repeat (first | refine WL.step (Yl.move rfl) rfl ?_ | (refine WL.k_load ?_; refine WL.step (Yl.loadBlk (T := 61) Tryz.isAgg61 rfl zH (by rfl)) rfl ?_) | (refine WL.k_fld ?_; refine WL.step (Yl.fldN0 (i := 1) (o := 1) (by kernel_rfl) rfl) rfl ?_) | refine WC.region ?_))
      refine WL.callS (g := 103) (A0 := .blk p.bd (rdO p t) :: rbI p.r t.os t.fs t.Is) (B := [.blk b3 (.cells #[.int .i64 (k : Int), .slice a K.length c2] 63 (0, 0)), kRow t]) Tryz.call103 rfl (permR9 _ _ _ _) (fun w0 st2 st1 => ecrash_r t a K.length c2 K w0 htok.wf htok.ok (fun y hy => ⟨(htO y hy).1, old_out st2 (permR9 _ _ _ _) (htO y hy).2⟩) rfl (by omega) (old_out st2 (permR9 _ _ _ _) hr) st1) rfl fun v C hv => ?_
      obtain ⟨rfl, os2, fs2, Is2, Z2, rfl, hok2, hin2⟩ := hv
      refine WL.free ?_
      (repeat (first | refine WL.step (Yl.assign rfl) rfl ?_ | refine WC.seq ?_ | refine WC.region ?_ | refine WL.nil ?_ | refine WN.then_normal ?_ | refine WC.ret ?_))
      have hcw := crash_wf K htok.wf
      have e9 : t.d = s.d ∧ t.F = s.F ∧ t.ops = s.ops ∧ t.rd = s.rd ∧ t.os = s.os ∧ t.fs = s.fs := by rw [ht]; exact ⟨rfl, rfl, rfl, rfl, rfl, rfl⟩
      simp only [e9.1, e9.2.1, e9.2.2.1, e9.2.2.2.1, e9.2.2.2.2.1, e9.2.2.2.2.2] at hok2 hin2 hcw ⊢
      rw [if_neg (by rw [show s.v.down = false from e]; decide)]
      exact WN.ret1S rfl rfl ⟨rfl, ⟨os2, fs2, Is2, (crashR K s.d s.F).1.1, (crashR K s.d s.F).1.2, true, 0, none, 0, [], s.ops, s.rd⟩, Z2 ++ [_, _], ⟨hcw.1, hok2, Nat.le_refl _, Nat.zero_le _, fun h => absurd rfl h⟩, rfl, rfl, fun y hy => (hin2 y hy).imp id fun h => h.mono fun z hz => List.mem_append_left _ hz⟩ (Part.perm (permR10 _ _ _ _ _ _))
  · rw [if_neg (by omega : ¬ (k : Int) = 0)]
    (repeat (first | refine WL.pass rfl rfl rfl rfl ?_ | refine WL.step (Yl.move rfl) rfl ?_ | (refine WL.k_load ?_; refine WL.step (Yl.loadBlk (T := 3) Tryz.isAgg3 rfl zH (by rfl)) rfl ?_) | (refine WL.k_fld ?_; refine WL.step (Yl.fldN0 (i := 0) (o := 0) (by kernel_rfl) rfl) rfl ?_) | refine WL.step (Yl.pick_f rfl rfl rfl) rfl ?_ | (refine WL.k_bin .eql ?_; refine WL.step (Yl.eqlF rfl rfl (by omega)) rfl ?_) | refine WC.seq ?_ | refine WC.region ?_ | refine WL.nil ?_ | refine WN.then_normal ?_))
    refine WC.cond_false rfl rfl ?_
    (repeat (first | refine WL.step (Yl.assign rfl) rfl ?_ | refine WC.seq ?_ | refine WC.region ?_ | refine WL.nil ?_ | refine WN.then_normal ?_ | refine WC.skip ?_ | refine WC.ret ?_))
    refine WN.ret1S rfl rfl ⟨rfl, t, [], htok, ?_, (List.append_nil _).symm, by rw [ht]; exact fun y hy => .inl hy⟩ (.more (Part.refl _))
    rw [ht]
    simp [RDS.v, h0]
theorem enew_c (n : Nat) (w : World) (h1 : 1 ≤ n) (h2 : n ≤ 4096) : Calls Tryz.prog 24 #[.int .i64 (n : Int)] w (Gives (ENewV n) w) := by
  refine enter (args := [_]) Tryz.func24 Tryz.ntmps24 rfl rfl ?_
  (repeat (first | refine WL.step (Yl.move rfl) rfl ?_ | refine WL.step (Yl.assign rfl) rfl ?_ | refine WC.seq ?_ | refine WC.region ?_ | refine WL.nil ?_ | refine WN.then_normal ?_))
  refine WL.call (g := 70) Tryz.call70 rfl (fun w0 st => rnew_c n w0 h1 h2) rfl fun v1 B1 hv1 => ?_
  obtain ⟨r, os, fs, Is, Z, rfl, rfl, hok, hin⟩ := hv1
  (repeat (first | refine WL.step (Yl.move rfl) rfl ?_ | refine WL.step (Yl.assign rfl) rfl ?_ | refine WL.step (Yl.extract rfl rfl) rfl ?_ | refine WL.step (Yl.neqF rfl rfl rfl) rfl ?_ | refine WC.seq ?_ | refine WC.region ?_ | refine WL.nil ?_ | refine WN.then_normal ?_))
  refine WC.cond_false rfl rfl ?_
  (repeat (first | refine WL.step (Yl.move rfl) rfl ?_ | refine WL.step (Yl.build (ps := [(0, .tmp 14)]) (vs := [(0, bptr r.br)]) rfl (buildRd1 _)) rfl ?_ | refine WC.seq ?_ | refine WC.region ?_ | refine WN.then_normal ?_ | refine WC.skip ?_))
  refine WL.boxA rfl rfl fun bd => ?_
  refine WL.free ?_
  (repeat (first | refine WL.step (Yl.assign rfl) rfl ?_ | refine WL.nil ?_ | refine WN.then_normal ?_ | refine WC.ret ?_))
  refine WN.ret2 rfl rfl rfl ⟨⟨bd, r⟩, ⟨os, fs, Is, List.replicate n zblk, fun _ => none, false, 0, none, 0, [], 0, 0⟩, Z, ⟨new_wf h1 h2, hok, Nat.le_refl _, Nat.zero_le _, fun h => absurd rfl h⟩, rfl, rfl, rfl, hin⟩ ?_
  simp only [List.append_nil]
  exact Part.perm (permR11 _ _ _ _)
end
end Go.Proofs.YtbkdjfgkebkknaaGreatDoor
namespace Go.Proofs.YtbkdjfgkebkknaaGreatDoor
set_option linter.unusedVariables false
set_option linter.unusedSimpArgs false
open Go Go.RowKit
set_option maxRecDepth 100000
set_option maxHeartbeats 8000000
def InX (Z : List HA) (a : Option Addr) (vs : List Value) : Prop := vs = [] ∨ ∃ a0 cap T k vs0, HA.row a0 cap T k vs0 ∈ Z ∧ ∀ w S, CellsOut w S a0 vs0 → CellsOut w S a vs
theorem InX.mono {Z Z' : List HA} {a : Option Addr} {vs : List Value} (h : InX Z a vs) (hz : ∀ x ∈ Z, x ∈ Z') : InX Z' a vs := h.imp id fun ⟨a0, cap, T, k, vs0, h1, h2⟩ => ⟨a0, cap, T, k, vs0, hz _ h1, h2⟩
theorem InX.out {w0 w : World} {S : List Nat} {A A0 B : List HA} {a : Option Addr} {vs : List Value} (h : InX B a vs) (st : St w0 S A w) (hp : A.Perm (A0 ++ B)) : CellsOut w (A0.filterMap HA.foot) a vs := by
  rcases h with h | ⟨a0, cap, T, k, vs0, h1, h2⟩
  · rw [h]; exact .inl rfl
  · exact h2 _ _ (row_out st hp h1)
theorem InX.rd {X : Cx} {A Z : List HA} {a : Option Addr} {vs : List Value} (h : InX Z a vs) (hz : ∀ x ∈ Z, x ∈ A) : Rd X A a vs := by
  rcases h with h | ⟨a0, cap, T, k, vs0, h1, h2⟩
  · rw [h]; exact fun _ _ => .inl rfl
  · exact fun w st => (h2 _ _ (CellsAt.out (Rd.row (X := X) (hz _ h1) w st))).at_
theorem InX.row {Z : List HA} {a : Option Addr} {cap k : Nat} {T : TypeId} {vs : List Value} (h : HA.row a cap T k vs ∈ Z) : InX Z a vs := .inr ⟨a, cap, T, k, vs, h, fun _ _ h => h⟩
structure Kpg where
  a : Option Addr
  c : Nat
  L : List Pg
def Kpg.v (x : Kpg) : Value := .slice x.a x.L.length x.c
structure KJS where
  ta : Option Addr
  tc : Nat
  X : List Kpg
def KJS.Ts (s : KJS) : List (List Pg) := s.X.map (·.L)
def kO (rb : Nat) (first n : Nat) (ep : Int) (s : KJS) : Obj := .cells #[bptr rb, .int .i64 (first : Int), .int .i64 (n : Int), .int .i64 ep, .slice s.ta s.X.length s.tc] 141 (0, 0)
def kxRow (s : KJS) : HA := .row s.ta s.tc 158 1 (s.X.map Kpg.v)
def kI (rb kb : Nat) (first n : Nat) (ep : Int) (s : KJS) : List HA := [.blk kb (kO rb first n ep s), kxRow s]
structure KOut (w : World) (S : List Nat) (rb kb first n : Nat) (ep : Int) (s : KJS) : Prop where
  nS : kb ∉ S
  blk : w.heap[kb]? = some (kO rb first n ep s)
  row : CellsOut w S s.ta (s.X.map Kpg.v)
  pgs : ∀ x ∈ s.X, CellsOut w S x.a (pgs x.L)
  dat : ∀ x ∈ s.X, ∀ q ∈ x.L, CellsOut w S q.s.a (bs q.s.l)
theorem KOut.pass {w0 w : World} {S S' : List Nat} {A : List HA} {rb kb first n : Nat} {ep : Int} {s : KJS} (h : KOut w0 S rb kb first n ep s) (st : St w0 S A w) (hS : ∀ b ∈ S', ∃ x ∈ A, x.foot = some b) : KOut w S' rb kb first n ep s :=
  ⟨fun hb => by
      obtain ⟨x, hx, hf⟩ := hS _ hb
      rcases st.mine x hx _ hf with h1 | h1
      · exact h.nS h1
      · have := lt_of_heap h.blk; omega,
    (st.kept.block kb (lt_of_heap h.blk) h.nS).trans h.blk, h.row.pass st hS, fun x hx => (h.pgs x hx).pass st hS, fun x hx q hq => (h.dat x hx q hq).pass st hS⟩
theorem KOut.keep {w w' : World} {rb kb first n : Nat} {ep : Int} {s : KJS} {S : List Nat} {A : List HA} (h : KOut w S rb kb first n ep s) (st : St w S A w') : KOut w' [] rb kb first n ep s := h.pass st (by simp)
structure KIn (Z : List HA) (s : KJS) : Prop where
  pgs : ∀ x ∈ s.X, InX Z x.a (pgs x.L)
  dat : ∀ x ∈ s.X, ∀ q ∈ x.L, InX Z q.s.a (bs q.s.l)
theorem KIn.mono {Z Z' : List HA} {s : KJS} (h : KIn Z s) (hz : ∀ x ∈ Z, x ∈ Z') : KIn Z' s := ⟨fun x hx => (h.pgs x hx).mono hz, fun x hx q hq => (h.dat x hx q hq).mono hz⟩
theorem KIn.out {w0 w : World} {S : List Nat} {A A0 B : List HA} {rb kb first n : Nat} {ep : Int} {s : KJS} (h : KIn B s) (st : St w0 S A w) (hp : A.Perm (A0 ++ B)) (hi : ∀ x ∈ kI rb kb first n ep s, x ∈ B) : KOut w (A0.filterMap HA.foot) rb kb first n ep s := by
  obtain ⟨h1, h2⟩ := blk_out st hp (hi _ (.head _))
  exact ⟨h1, h2, row_out st hp (hi _ (.tail _ (.head _))), fun x hx => (h.pgs x hx).out st hp, fun x hx q hq => (h.dat x hx q hq).out st hp⟩
theorem KIn.at_ {w0 w : World} {S : List Nat} {A : List HA} {rb kb first n : Nat} {ep : Int} {s : KJS} (h : KIn A s) (st : St w0 S A w) (hi : ∀ x ∈ kI rb kb first n ep s, x ∈ A) : KOut w [] rb kb first n ep s := h.out (A0 := []) st (List.Perm.refl _) hi
def KNewV (rb first n : Nat) (ep : Int) : Value → List HA → Prop := fun u B => ∃ kb, u = .tuple #[bptr kb, .int .i64 0] ∧ B = kI rb kb first n ep ⟨none, 0, []⟩
theorem buildK (d : Option Addr) (a b e : Int) (w : World) : (Instr.build 141 [(0, .pointer d), (1, .int .i64 a), (2, .int .i64 b), (3, .int .i64 e)].toArray).run Tryz.prog w = .ok (.agg #[.pointer d, .int .i64 a, .int .i64 b, .int .i64 e, .slice none 0 0]) w := by
  simp [Instr.build, Tryz.zeroValue141, run_underlying Tryz.underlying141, Tryz.sizeOf3, Tryz.sizeOf2, Tryz.sizeOf52, Value.cells, Instr.fill]
theorem mem_get {α : Type} {l : List α} {i : Nat} (h : i < l.length) : ∃ x, l[i]? = some x ∧ x ∈ l := ⟨l[i], List.getElem?_eq_getElem h, List.getElem_mem h⟩
def usedT (Ts : List (List Pg)) : Nat := Ts.foldl (fun n L => n + (5 * L.length + 1)) 0
theorem usedT_snoc (Ts : List (List Pg)) (L : List Pg) : usedT (Ts ++ [L]) = usedT Ts + (5 * L.length + 1) := by simp [usedT]
theorem usedT_adds (first n : Nat) (ep : Int) (Ts : List (List Pg)) : ((JV.new first n ep).adds Ts).used = usedT Ts := by
  have key : ∀ (Ts : List (List Pg)) (j : JV) (k : Nat), j.used = k → (j.adds Ts).used = Ts.foldl (fun n L => n + (5 * L.length + 1)) k := fun Ts => by
    induction Ts with
    | nil => exact fun j k h => h
    | cons T Ts ih => exact fun j k h => ih (j.add T) _ (by rw [← h]; rfl)
  exact key Ts _ 0 rfl
theorem usedT_le : ∀ (Ts : List (List Pg)) (m : Nat), usedT (Ts.take m) ≤ usedT Ts := fun Ts m => by
  have key : ∀ (Ts : List (List Pg)) (k : Nat), k ≤ Ts.foldl (fun n L => n + (5 * L.length + 1)) k := fun Ts => by
    induction Ts with
    | nil => exact fun k => Nat.le_refl _
    | cons T Ts ih => exact fun k => Nat.le_trans (show k ≤ k + (5 * T.length + 1) by omega) (ih _)
  conv => rhs; rw [← List.take_append_drop m Ts]
  rw [usedT, usedT, List.foldl_append]
  exact key _ _
attribute [local irreducible] WL WC WN Yl WH WQ WT WE WU WG WV
section
variable {rp : RDP} {rs : RDS} {kb first n : Nat} {ep : Int} {s : KJS}
theorem krow_c (fi m e : Int) (w : World) (h : RDAt w rp rs) : Calls Tryz.prog 71 #[bptr rp.bd, .int .i64 fi, .int .i64 m, .int .i64 e] w (Gives (Val (.int .i64 (newE rs.d.length fi m e : Int))) w) := by
  have hpos := h.ok.wf.pos
  have hle := h.ok.wf.le
  refine enter (args := [.pointer (some ⟨rp.bd, 0, none⟩), _, _, _]) Tryz.func71 Tryz.ntmps71 rfl rfl ?_
  unfold newE
  rw [if_neg (by omega)]
  (repeat (first | refine WL.want rfl rfl rfl ?_ | refine WL.step (Yl.move rfl) rfl ?_ | refine WL.step (Yl.assign rfl) rfl ?_ | refine WL.step (Yl.pick_f rfl rfl rfl) rfl ?_ | (refine WL.k_bin .eql ?_; first | refine WL.step (Yl.eqlPN (by kernel_rfl) rfl) rfl ?_ | refine WL.step (Yl.eqlF rfl rfl (by omega)) rfl ?_) | refine WL.callV (g := 78) Tryz.call78 rfl (fun w0 st => elen_c w0 (h.keep st.kept)) rfl ?_ | refine WC.seq ?_ | refine WC.region ?_ | refine WL.nil ?_ | refine WN.then_normal ?_))
  refine WC.cond_false rfl rfl ?_
  by_cases h2 : e < 1 ∨ 1099511627776 < e
  · rw [if_pos h2]
    by_cases h3 : e < 1
    · (repeat (first | refine WL.pass rfl rfl rfl rfl ?_ | refine WL.step (Yl.move rfl) rfl ?_ | refine WL.step (Yl.pick_t rfl rfl rfl) rfl ?_ | (refine WL.k_bin .lss ?_; refine WL.step (Yl.lssT rfl rfl (by omega)) rfl ?_) | refine WC.seq ?_ | refine WC.region ?_ | refine WL.nil ?_ | refine WN.then_normal ?_ | refine WC.skip ?_))
      refine WC.cond_true rfl rfl ?_
      (repeat (first | refine WL.step (Yl.assign rfl) rfl ?_ | refine WC.seq ?_ | refine WC.region ?_ | refine WL.nil ?_ | refine WN.then_normal ?_ | refine WC.ret ?_ | refine WN.then_ret ?_))
      exact WN.ret1 rfl rfl ⟨rfl, rfl⟩ .nil
    · (repeat (first | refine WL.want rfl rfl rfl ?_ | refine WL.step (Yl.move rfl) rfl ?_ | refine WL.step (Yl.pick_f rfl rfl rfl) rfl ?_ | (refine WL.k_bin .lss ?_; refine WL.step (Yl.lssF rfl rfl (by omega)) rfl ?_) | (refine WL.k_bin .gtr ?_; refine WL.step (Yl.gtrT rfl rfl (by omega)) rfl ?_) | refine WC.seq ?_ | refine WC.region ?_ | refine WL.nil ?_ | refine WN.then_normal ?_ | refine WC.skip ?_))
      refine WC.cond_true rfl rfl ?_
      (repeat (first | refine WL.step (Yl.assign rfl) rfl ?_ | refine WC.seq ?_ | refine WC.region ?_ | refine WL.nil ?_ | refine WN.then_normal ?_ | refine WC.ret ?_ | refine WN.then_ret ?_))
      exact WN.ret1 rfl rfl ⟨rfl, rfl⟩ .nil
  rw [if_neg h2]
  (repeat (first | refine WL.want rfl rfl rfl ?_ | refine WL.step (Yl.move rfl) rfl ?_ | refine WL.step (Yl.pick_f rfl rfl rfl) rfl ?_ | (refine WL.k_bin .lss ?_; refine WL.step (Yl.lssF rfl rfl (by omega)) rfl ?_) | (refine WL.k_bin .gtr ?_; refine WL.step (Yl.gtrF rfl rfl (by omega)) rfl ?_) | refine WC.seq ?_ | refine WC.region ?_ | refine WL.nil ?_ | refine WN.then_normal ?_ | refine WC.skip ?_))
  refine WC.cond_false rfl rfl ?_
  by_cases k1 : fi < 0
  · rw [if_pos (.inl k1)]
    (repeat (first | refine WL.pass rfl rfl rfl rfl ?_ | refine WL.step (Yl.move rfl) rfl ?_ | refine WL.step (Yl.pick_t rfl rfl rfl) rfl ?_ | (refine WL.k_bin .lss ?_; refine WL.step (Yl.lssT (m := fi) (n := 0) rfl rfl (by omega)) rfl ?_) | refine WC.seq ?_ | refine WC.region ?_ | refine WL.nil ?_ | refine WN.then_normal ?_ | refine WC.skip ?_))
    refine WC.cond_true rfl rfl ?_
    (repeat (first | refine WL.step (Yl.assign rfl) rfl ?_ | refine WC.seq ?_ | refine WC.region ?_ | refine WL.nil ?_ | refine WN.then_normal ?_ | refine WC.ret ?_ | refine WN.then_ret ?_))
    exact WN.ret1 rfl rfl ⟨rfl, rfl⟩ .nil
  by_cases k2 : m < 1
  · rw [if_pos (.inr (.inl k2))]
    (repeat (first | (refine WL.kG ?_; first | refine WL.want rfl rfl rfl ?_ | refine WL.pass rfl rfl rfl rfl ?_) | refine WL.step (Yl.move rfl) rfl ?_ | (refine WL.k_pick ?_; first | refine WL.step (Yl.pick_t rfl rfl rfl) rfl ?_ | refine WL.step (Yl.pick_f rfl rfl rfl) rfl ?_) | (refine WL.k_bin .lss ?_; first | refine WL.step (Yl.lssF (m := fi) (n := 0) rfl rfl (by omega)) rfl ?_ | refine WL.step (Yl.lssT (m := m) (n := 1) rfl rfl (by omega)) rfl ?_) | refine WC.seq ?_ | refine WC.region ?_ | refine WL.nil ?_ | refine WN.then_normal ?_ | refine WC.skip ?_))
    refine WC.cond_true rfl rfl ?_
    (repeat (first | refine WL.step (Yl.assign rfl) rfl ?_ | refine WC.seq ?_ | refine WC.region ?_ | refine WL.nil ?_ | refine WN.then_normal ?_ | refine WC.ret ?_ | refine WN.then_ret ?_))
    exact WN.ret1 rfl rfl ⟨rfl, rfl⟩ .nil
  by_cases k3 : (rs.d.length : Int) < fi
  · rw [if_pos (.inr (.inr (.inl k3)))]
    (repeat (first | (refine WL.kG ?_; first | refine WL.want rfl rfl rfl ?_ | refine WL.pass rfl rfl rfl rfl ?_) | refine WL.step (Yl.move rfl) rfl ?_ | (refine WL.k_pick ?_; first | refine WL.step (Yl.pick_t rfl rfl rfl) rfl ?_ | refine WL.step (Yl.pick_f rfl rfl rfl) rfl ?_) | (refine WL.k_bin .lss ?_; first | refine WL.step (Yl.lssF (m := fi) (n := 0) rfl rfl (by omega)) rfl ?_ | refine WL.step (Yl.lssF (m := m) (n := 1) rfl rfl (by omega)) rfl ?_) | refine WL.callV (g := 78) Tryz.call78 rfl (fun w0 st => elen_c w0 (h.keep st.kept)) rfl ?_ | (refine WL.k_bin .gtr ?_; refine WL.step (Yl.gtrT (m := fi) (n := (rs.d.length : Int)) rfl rfl (by omega)) rfl ?_) | refine WC.seq ?_ | refine WC.region ?_ | refine WL.nil ?_ | refine WN.then_normal ?_ | refine WC.skip ?_))
    refine WC.cond_true rfl rfl ?_
    (repeat (first | refine WL.step (Yl.assign rfl) rfl ?_ | refine WC.seq ?_ | refine WC.region ?_ | refine WL.nil ?_ | refine WN.then_normal ?_ | refine WC.ret ?_ | refine WN.then_ret ?_))
    exact WN.ret1 rfl rfl ⟨rfl, rfl⟩ .nil
  by_cases k4 : (rs.d.length : Int) - fi < m
  · rw [if_pos (.inr (.inr (.inr k4)))]
    (repeat (first | refine WL.want rfl rfl rfl ?_ | refine WL.step (Yl.move rfl) rfl ?_ | refine WL.step (Yl.pick_f rfl rfl rfl) rfl ?_ | (refine WL.k_bin .lss ?_; first | refine WL.step (Yl.lssF (m := fi) (n := 0) rfl rfl (by omega)) rfl ?_ | refine WL.step (Yl.lssF (m := m) (n := 1) rfl rfl (by omega)) rfl ?_) | refine WL.callV (g := 78) Tryz.call78 rfl (fun w0 st => elen_c w0 (h.keep st.kept)) rfl ?_ | (refine WL.k_bin .gtr ?_; first | refine WL.step (Yl.gtrF (m := fi) (n := (rs.d.length : Int)) rfl rfl (by omega)) rfl ?_ | refine WL.step (Yl.gtrT (m := m) (n := (rs.d.length : Int) - fi) rfl rfl (by omega)) rfl ?_) | (refine WL.k_bin .sub ?_; refine WL.step (Yl.sub64 (m := (rs.d.length : Int)) (n := fi) rfl rfl (by omega)) rfl ?_) | refine WC.seq ?_ | refine WC.region ?_ | refine WL.nil ?_ | refine WN.then_normal ?_ | refine WC.skip ?_))
    refine WC.cond_true rfl rfl ?_
    (repeat (first | refine WL.step (Yl.assign rfl) rfl ?_ | refine WC.seq ?_ | refine WC.region ?_ | refine WL.nil ?_ | refine WN.then_normal ?_ | refine WC.ret ?_ | refine WN.then_ret ?_))
    exact WN.ret1 rfl rfl ⟨rfl, rfl⟩ .nil
  rw [if_neg (by omega)]
  (repeat (first | refine WL.want rfl rfl rfl ?_ | refine WL.step (Yl.move rfl) rfl ?_ | refine WL.step (Yl.pick_f rfl rfl rfl) rfl ?_ | (refine WL.k_bin .lss ?_; first | refine WL.step (Yl.lssF (m := fi) (n := 0) rfl rfl (by omega)) rfl ?_ | refine WL.step (Yl.lssF (m := m) (n := 1) rfl rfl (by omega)) rfl ?_) | refine WL.callV (g := 78) Tryz.call78 rfl (fun w0 st => elen_c w0 (h.keep st.kept)) rfl ?_ | (refine WL.k_bin .gtr ?_; first | refine WL.step (Yl.gtrF (m := fi) (n := (rs.d.length : Int)) rfl rfl (by omega)) rfl ?_ | refine WL.step (Yl.gtrF (m := m) (n := (rs.d.length : Int) - fi) rfl rfl (by omega)) rfl ?_) | (refine WL.k_bin .sub ?_; refine WL.step (Yl.sub64 (m := (rs.d.length : Int)) (n := fi) rfl rfl (by omega)) rfl ?_) | refine WC.seq ?_ | refine WC.region ?_ | refine WL.nil ?_ | refine WN.then_normal ?_ | refine WC.skip ?_))
  refine WC.cond_false rfl rfl ?_
  (repeat (first | refine WL.step (Yl.assign rfl) rfl ?_ | refine WC.seq ?_ | refine WC.region ?_ | refine WL.nil ?_ | refine WN.then_normal ?_ | refine WC.skip ?_ | refine WC.ret ?_))
  exact WN.ret1 rfl rfl ⟨rfl, rfl⟩ .nil
theorem knew_e (fi m e : Int) (w : World) (h : RDAt w rp rs) (he : newE rs.d.length fi m e ≠ 0) : Calls Tryz.prog 25 #[bptr rp.bd, .int .i64 fi, .int .i64 m, .int .i64 e] w (Gives (Val (.tuple #[.pointer none, .int .i64 (newE rs.d.length fi m e : Int)])) w) := by
  refine enter (args := [.pointer (some ⟨rp.bd, 0, none⟩), _, _, _]) Tryz.func25 Tryz.ntmps25 rfl rfl ?_
  (repeat (first | refine WL.step (Yl.move rfl) rfl ?_ | refine WL.step (Yl.assign rfl) rfl ?_ | refine WL.callV (g := 71) Tryz.call71 rfl (fun w0 st => krow_c fi m e w0 (h.keep st.kept)) rfl ?_ | (refine WL.k_bin .neq ?_; refine WL.step (Yl.neqT rfl rfl (by omega)) rfl ?_) | refine WC.seq ?_ | refine WC.region ?_ | refine WL.nil ?_ | refine WN.then_normal ?_))
  refine WC.cond_true rfl rfl ?_
  (repeat (first | refine WL.step (Yl.move rfl) rfl ?_ | refine WL.step (Yl.assign rfl) rfl ?_ | refine WC.seq ?_ | refine WC.region ?_ | refine WL.nil ?_ | refine WN.then_normal ?_ | refine WC.ret ?_ | refine WN.then_ret ?_))
  exact WN.ret2 rfl rfl rfl ⟨rfl, rfl⟩ .nil
theorem newE_ok {len first n : Nat} {ep : Int} (h0 : len ≠ 0) (he : Frm.Ep ep) (hn : 1 ≤ n) (hr : first + n ≤ len) : newE len (first : Int) (n : Int) ep = 0 := by
  have h1 : 1 ≤ ep ∧ ep ≤ 1099511627776 := he
  rw [newE, if_neg h0, if_neg (by omega), if_neg (by omega)]
theorem knew_c (w : World) (h : RDAt w rp rs) (he : Frm.Ep ep) (hn : 1 ≤ n) (hr : first + n ≤ rs.d.length) : Calls Tryz.prog 25 #[bptr rp.bd, .int .i64 (first : Int), .int .i64 (n : Int), .int .i64 ep] w (Gives (KNewV rp.bd first n ep) w) := by
  have hpos := h.ok.wf.pos
  have e0 := newE_ok (len := rs.d.length) (by omega) he hn hr
  refine enter (args := [.pointer (some ⟨rp.bd, 0, none⟩), _, _, _]) Tryz.func25 Tryz.ntmps25 rfl rfl ?_
  (repeat (first | refine WL.step (Yl.move rfl) rfl ?_ | refine WL.step (Yl.assign rfl) rfl ?_ | (refine WL.k_call 71 ?_; refine WL.callV (g := 71) (v := .int .i64 0) Tryz.call71 rfl (fun w0 st => by have := krow_c (first : Int) (n : Int) ep w0 (h.keep st.kept); rwa [e0] at this) rfl ?_) | refine WL.step (Yl.neqF rfl rfl rfl) rfl ?_ | refine WC.seq ?_ | refine WC.region ?_ | refine WL.nil ?_ | refine WN.then_normal ?_))
  refine WC.cond_false rfl rfl ?_
  (repeat (first | refine WL.step (Yl.move rfl) rfl ?_ | refine WL.step (Yl.build (ps := [(0, .tmp 19), (1, .tmp 20), (2, .tmp 21), (3, .tmp 22)]) (vs := [(0, bptr rp.bd), (1, .int .i64 (first : Int)), (2, .int .i64 (n : Int)), (3, .int .i64 ep)]) rfl (buildK _ _ _ _)) rfl ?_ | refine WC.seq ?_ | refine WC.region ?_ | refine WN.then_normal ?_ | refine WC.skip ?_))
  refine WL.boxA rfl rfl fun bk => ?_
  (repeat (first | refine WL.step (Yl.assign rfl) rfl ?_ | refine WL.nil ?_ | refine WN.then_normal ?_ | refine WC.ret ?_))
  exact WN.ret2 rfl rfl rfl ⟨bk, rfl, rfl⟩ (.cons .here (.free .nil))
theorem ksize_c (k : Nat) (w : World) (hk : k ≤ 100000) : Calls Tryz.prog 105 #[.int .i64 (k : Int)] w (Gives (Val (.int .i64 ((5 * k + 1 : Nat) : Int))) w) := by
  refine enter (args := [_]) Tryz.func105 Tryz.ntmps105 rfl rfl ?_
  (repeat (first | refine WL.step (Yl.move rfl) rfl ?_ | refine WL.step (Yl.assign rfl) rfl ?_ | (refine WL.k_bin .mul ?_; refine WL.step (Yl.mulC64 (m := k) rfl (by omega)) rfl ?_) | (refine WL.k_bin .add ?_; refine WL.step (Yl.add64C (m := 5 * k) rfl (by omega)) rfl ?_) | refine WC.seq ?_ | refine WC.region ?_ | refine WL.nil ?_ | refine WN.then_normal ?_ | refine WC.ret ?_))
  exact WN.ret1 rfl rfl ⟨rfl, rfl⟩ .nil
end
end Go.Proofs.YtbkdjfgkebkknaaGreatDoor
namespace Go.Proofs.YtbkdjfgkebkknaaGreatDoor
set_option linter.unusedVariables false
set_option linter.unusedSimpArgs false
open Go Go.RowKit
set_option maxHeartbeats 4000000
set_option maxRecDepth 100000
attribute [local irreducible] WL WC WN Yl WH WQ WT
theorem rcheckF_c (kd ep tx ix no : Int) (a : Option Addr) (n cap : Nat) (w : World) :
    Calls Tryz.prog 169 #[.agg #[.int .i64 kd, .int .i64 ep, .int .i64 tx, .int .i64 ix, .int .i64 no, .slice a n cap]] w (Gives (Val (.int .i64 ((Frm.check kd ep tx ix no n : Nat) : Int))) w) := by
  refine enter (args := [_]) Tryz.func169 Tryz.ntmps169 rfl rfl ?_
  (repeat (first | refine WC.seq ?_ | refine WC.region ?_))
  refine WL.box rfl rfl fun b => ?_
  by_cases he : Frm.Ep ep
  · by_cases ht : 1 ≤ tx ∧ tx ≤ 4294967295
    · (repeat (first | refine WL.want rfl rfl rfl ?_ | refine WL.step (Yl.move rfl) rfl ?_ | refine WL.step (Yl.assign rfl) rfl ?_ | (refine WL.k_load ?_; first | refine WL.step (Yl.loadBlk (T := 3) Tryz.isAgg3 rfl zH (by rfl)) rfl ?_ | refine WL.step (Yl.loadBlk (T := 2) Tryz.isAgg2 rfl zH (by rfl)) rfl ?_) | refine WL.step (Yl.fld0 (t := 159) Tryz.underlying159 fl159 rfl rfl) rfl ?_ | refine WL.step (Yl.pick_f rfl rfl rfl) rfl ?_ | refine WL.callV (g := 194) (v := .bool true) Tryz.call194 rfl (fun w _ => repoch_t _ w he) rfl ?_ | (refine WL.k_bin .lss ?_; refine WL.step (Yl.lssF rfl rfl (by omega)) rfl ?_) | (refine WL.k_bin .gtr ?_; refine WL.step (Yl.gtrF rfl rfl (by omega)) rfl ?_) | refine WL.step (Yl.not rfl) rfl ?_ | refine WC.seq ?_ | refine WC.region ?_ | refine WL.nil ?_ | refine WN.then_normal ?_))
      refine WC.cond_false rfl rfl ?_
      by_cases h1 : kd = 1
      · subst h1
        by_cases hx : 0 ≤ ix ∧ ix ≤ 4095 ∧ 0 ≤ no ∧ no ≤ 4095 ∧ n = 512
        · have e : Frm.check 1 ep tx ix no n = 0 := by unfold Frm.check; rw [if_pos]; exact ⟨he, ht.1, ht.2, .inl ⟨rfl, hx⟩⟩
          rw [e]
          (repeat (first | (refine WL.kG ?_; first | refine WL.want rfl rfl rfl ?_ | refine WL.pass rfl rfl rfl rfl ?_) | refine WL.step (Yl.move rfl) rfl ?_ | refine WL.step (Yl.assign rfl) rfl ?_ | (refine WL.k_load ?_; first | refine WL.step (Yl.loadBlk (T := 3) Tryz.isAgg3 rfl zH (by rfl)) rfl ?_ | refine WL.step (Yl.loadBlk (T := 23) Tryz.isAgg23 rfl zH (by rfl)) rfl ?_) | refine WL.step (Yl.fld0 (t := 159) Tryz.underlying159 fl159 rfl rfl) rfl ?_ | (refine WL.k_pick ?_; first | refine WL.step (Yl.pick_t rfl rfl rfl) rfl ?_ | refine WL.step (Yl.pick_f rfl rfl rfl) rfl ?_) | (refine WL.k_bin .eql ?_; first | refine WL.step (Yl.eqlF rfl rfl (by decide)) rfl ?_ | refine WL.step (Yl.eqlT rfl rfl (by omega)) rfl ?_) | (refine WL.k_bin .lss ?_; refine WL.step (Yl.lssT rfl rfl (by omega)) rfl ?_) | (refine WL.k_bin .geq ?_; refine WL.step (Yl.geqT rfl rfl (by omega)) rfl ?_) | refine WL.step (Yl.len (t := 23) Tryz.underlying23 rfl) rfl ?_ | refine WL.step (Yl.not rfl) rfl ?_ | refine WC.seq ?_ | refine WC.region ?_ | refine WL.nil ?_ | refine WN.then_normal ?_ | refine WC.skip ?_))
          refine WC.cond_false rfl rfl ?_
          (repeat (first | refine WL.step (Yl.assign rfl) rfl ?_ | refine WC.seq ?_ | refine WC.region ?_ | refine WL.nil ?_ | refine WN.then_normal ?_ | refine WC.skip ?_ | refine WC.ret ?_))
          exact WN.ret1 rfl rfl ⟨rfl, rfl⟩ .nil
        · have e : Frm.check 1 ep tx ix no n = 2 := by unfold Frm.check; rw [if_neg]; omega
          rw [e]
          by_cases g1 : 0 ≤ ix <;> by_cases g2 : ix < 4096 <;> by_cases g3 : 0 ≤ no <;> by_cases g4 : no < 4096 <;>
          first
          | (exact absurd (show False by omega) id)
          | ((repeat (first | (refine WL.kG ?_; first | refine WL.want rfl rfl rfl ?_ | refine WL.pass rfl rfl rfl rfl ?_) | refine WL.step (Yl.move rfl) rfl ?_ | refine WL.step (Yl.assign rfl) rfl ?_ | (refine WL.k_load ?_; first | refine WL.step (Yl.loadBlk (T := 3) Tryz.isAgg3 rfl zH (by rfl)) rfl ?_ | refine WL.step (Yl.loadBlk (T := 23) Tryz.isAgg23 rfl zH (by rfl)) rfl ?_) | refine WL.step (Yl.fld0 (t := 159) Tryz.underlying159 fl159 rfl rfl) rfl ?_ | (refine WL.k_pick ?_; first | refine WL.step (Yl.pick_t rfl rfl rfl) rfl ?_ | refine WL.step (Yl.pick_f rfl rfl rfl) rfl ?_) | (refine WL.k_bin .eql ?_; first | refine WL.step (Yl.eqlF rfl rfl (by omega)) rfl ?_ | refine WL.step (Yl.eqlT rfl rfl (by omega)) rfl ?_) | (refine WL.k_bin .lss ?_; first | refine WL.step (Yl.lssT rfl rfl (by omega)) rfl ?_ | refine WL.step (Yl.lssF rfl rfl (by omega)) rfl ?_) | (refine WL.k_bin .geq ?_; first | refine WL.step (Yl.geqT rfl rfl (by omega)) rfl ?_ | refine WL.step (Yl.geqF rfl rfl (by omega)) rfl ?_) | refine WL.step (Yl.len (t := 23) Tryz.underlying23 rfl) rfl ?_ | refine WL.step (Yl.not rfl) rfl ?_ | refine WC.seq ?_ | refine WC.region ?_ | refine WL.nil ?_ | refine WN.then_normal ?_ | refine WC.skip ?_))
             refine WC.cond_true rfl rfl ?_
             (repeat (first | refine WL.step (Yl.assign rfl) rfl ?_ | refine WC.seq ?_ | refine WC.region ?_ | refine WL.nil ?_ | refine WN.then_normal ?_ | refine WC.ret ?_ | refine WN.then_ret ?_))
             exact WN.ret1 rfl rfl ⟨rfl, rfl⟩ .nil)
      · by_cases h2 : kd = 2
        · subst h2
          by_cases hx : ix = 0 ∧ 1 ≤ no ∧ no ≤ 4096 ∧ n = 0
          · have e : Frm.check 2 ep tx ix no n = 0 := by unfold Frm.check; rw [if_pos]; exact ⟨he, ht.1, ht.2, .inr ⟨rfl, hx⟩⟩
            rw [e]
            (repeat (first | (refine WL.kG ?_; first | refine WL.want rfl rfl rfl ?_ | refine WL.pass rfl rfl rfl rfl ?_) | refine WL.step (Yl.move rfl) rfl ?_ | refine WL.step (Yl.assign rfl) rfl ?_ | (refine WL.k_load ?_; first | refine WL.step (Yl.loadBlk (T := 3) Tryz.isAgg3 rfl zH (by rfl)) rfl ?_ | refine WL.step (Yl.loadBlk (T := 23) Tryz.isAgg23 rfl zH (by rfl)) rfl ?_) | refine WL.step (Yl.fld0 (t := 159) Tryz.underlying159 fl159 rfl rfl) rfl ?_ | (refine WL.k_pick ?_; first | refine WL.step (Yl.pick_t rfl rfl rfl) rfl ?_ | refine WL.step (Yl.pick_f rfl rfl rfl) rfl ?_) | (refine WL.k_bin .eql ?_; first | refine WL.step (Yl.eqlF rfl rfl (by decide)) rfl ?_ | refine WL.step (Yl.eqlT rfl rfl (by omega)) rfl ?_) | (refine WL.k_bin .leq ?_; refine WL.step (Yl.leqT rfl rfl (by omega)) rfl ?_) | (refine WL.k_bin .geq ?_; refine WL.step (Yl.geqT rfl rfl (by omega)) rfl ?_) | refine WL.step (Yl.len (t := 23) Tryz.underlying23 rfl) rfl ?_ | refine WL.step (Yl.not rfl) rfl ?_ | refine WC.seq ?_ | refine WC.region ?_ | refine WL.nil ?_ | refine WN.then_normal ?_ | refine WC.skip ?_))
            refine WC.cond_false rfl rfl ?_
            (repeat (first | refine WL.step (Yl.assign rfl) rfl ?_ | refine WC.seq ?_ | refine WC.region ?_ | refine WL.nil ?_ | refine WN.then_normal ?_ | refine WC.skip ?_ | refine WC.ret ?_))
            exact WN.ret1 rfl rfl ⟨rfl, rfl⟩ .nil
          · have e : Frm.check 2 ep tx ix no n = 2 := by unfold Frm.check; rw [if_neg]; omega
            rw [e]
            by_cases g1 : ix = 0 <;> by_cases g3 : 1 ≤ no <;> by_cases g4 : no ≤ 4096 <;>
            first
            | (exact absurd (show False by omega) id)
            | ((repeat (first | (refine WL.kG ?_; first | refine WL.want rfl rfl rfl ?_ | refine WL.pass rfl rfl rfl rfl ?_) | refine WL.step (Yl.move rfl) rfl ?_ | refine WL.step (Yl.assign rfl) rfl ?_ | (refine WL.k_load ?_; first | refine WL.step (Yl.loadBlk (T := 3) Tryz.isAgg3 rfl zH (by rfl)) rfl ?_ | refine WL.step (Yl.loadBlk (T := 23) Tryz.isAgg23 rfl zH (by rfl)) rfl ?_) | refine WL.step (Yl.fld0 (t := 159) Tryz.underlying159 fl159 rfl rfl) rfl ?_ | (refine WL.k_pick ?_; first | refine WL.step (Yl.pick_t rfl rfl rfl) rfl ?_ | refine WL.step (Yl.pick_f rfl rfl rfl) rfl ?_) | (refine WL.k_bin .eql ?_; first | refine WL.step (Yl.eqlF rfl rfl (by omega)) rfl ?_ | refine WL.step (Yl.eqlT rfl rfl (by omega)) rfl ?_) | (refine WL.k_bin .leq ?_; first | refine WL.step (Yl.leqT rfl rfl (by omega)) rfl ?_ | refine WL.step (Yl.leqF rfl rfl (by omega)) rfl ?_) | (refine WL.k_bin .geq ?_; first | refine WL.step (Yl.geqT rfl rfl (by omega)) rfl ?_ | refine WL.step (Yl.geqF rfl rfl (by omega)) rfl ?_) | refine WL.step (Yl.len (t := 23) Tryz.underlying23 rfl) rfl ?_ | refine WL.step (Yl.not rfl) rfl ?_ | refine WC.seq ?_ | refine WC.region ?_ | refine WL.nil ?_ | refine WN.then_normal ?_ | refine WC.skip ?_))
               refine WC.cond_true rfl rfl ?_
               (repeat (first | refine WL.step (Yl.assign rfl) rfl ?_ | refine WC.seq ?_ | refine WC.region ?_ | refine WL.nil ?_ | refine WN.then_normal ?_ | refine WC.ret ?_ | refine WN.then_ret ?_))
               exact WN.ret1 rfl rfl ⟨rfl, rfl⟩ .nil)
        · have e : Frm.check kd ep tx ix no n = 2 := by unfold Frm.check; rw [if_neg]; omega
          rw [e]
          (repeat (first | (refine WL.kG ?_; first | refine WL.want rfl rfl rfl ?_ | refine WL.pass rfl rfl rfl rfl ?_) | refine WL.step (Yl.move rfl) rfl ?_ | refine WL.step (Yl.assign rfl) rfl ?_ | (refine WL.k_load ?_; refine WL.step (Yl.loadBlk (T := 3) Tryz.isAgg3 rfl zH (by rfl)) rfl ?_) | refine WL.step (Yl.fld0 (t := 159) Tryz.underlying159 fl159 rfl rfl) rfl ?_ | (refine WL.k_pick ?_; first | refine WL.step (Yl.pick_t rfl rfl rfl) rfl ?_ | refine WL.step (Yl.pick_f rfl rfl rfl) rfl ?_) | (refine WL.k_bin .eql ?_; refine WL.step (Yl.eqlF rfl rfl (by omega)) rfl ?_) | refine WL.step (Yl.not rfl) rfl ?_ | refine WC.seq ?_ | refine WC.region ?_ | refine WL.nil ?_ | refine WN.then_normal ?_ | refine WC.skip ?_))
          refine WC.cond_true rfl rfl ?_
          (repeat (first | refine WL.step (Yl.assign rfl) rfl ?_ | refine WC.seq ?_ | refine WC.region ?_ | refine WL.nil ?_ | refine WN.then_normal ?_ | refine WC.ret ?_ | refine WN.then_ret ?_))
          exact WN.ret1 rfl rfl ⟨rfl, rfl⟩ .nil
    · have e : Frm.check kd ep tx ix no n = 2 := by unfold Frm.check; rw [if_neg]; omega
      rw [e]
      by_cases g : tx < 1
      · (repeat (first | (refine WL.kG ?_; first | refine WL.want rfl rfl rfl ?_ | refine WL.pass rfl rfl rfl rfl ?_) | refine WL.step (Yl.move rfl) rfl ?_ | refine WL.step (Yl.assign rfl) rfl ?_ | (refine WL.k_load ?_; first | refine WL.step (Yl.loadBlk (T := 3) Tryz.isAgg3 rfl zH (by rfl)) rfl ?_ | refine WL.step (Yl.loadBlk (T := 2) Tryz.isAgg2 rfl zH (by rfl)) rfl ?_) | refine WL.step (Yl.fld0 (t := 159) Tryz.underlying159 fl159 rfl rfl) rfl ?_ | (refine WL.k_pick ?_; first | refine WL.step (Yl.pick_t rfl rfl rfl) rfl ?_ | refine WL.step (Yl.pick_f rfl rfl rfl) rfl ?_) | refine WL.callV (g := 194) (v := .bool true) Tryz.call194 rfl (fun w _ => repoch_t _ w he) rfl ?_ | refine WL.step (Yl.lssT rfl rfl g) rfl ?_ | refine WL.step (Yl.not rfl) rfl ?_ | refine WC.seq ?_ | refine WC.region ?_ | refine WL.nil ?_ | refine WN.then_normal ?_))
        refine WC.cond_true rfl rfl ?_
        (repeat (first | refine WL.step (Yl.assign rfl) rfl ?_ | refine WC.seq ?_ | refine WC.region ?_ | refine WL.nil ?_ | refine WN.then_normal ?_ | refine WC.ret ?_ | refine WN.then_ret ?_))
        exact WN.ret1 rfl rfl ⟨rfl, rfl⟩ .nil
      · (repeat (first | refine WL.want rfl rfl rfl ?_ | refine WL.step (Yl.move rfl) rfl ?_ | refine WL.step (Yl.assign rfl) rfl ?_ | (refine WL.k_load ?_; first | refine WL.step (Yl.loadBlk (T := 3) Tryz.isAgg3 rfl zH (by rfl)) rfl ?_ | refine WL.step (Yl.loadBlk (T := 2) Tryz.isAgg2 rfl zH (by rfl)) rfl ?_) | refine WL.step (Yl.fld0 (t := 159) Tryz.underlying159 fl159 rfl rfl) rfl ?_ | refine WL.step (Yl.pick_f rfl rfl rfl) rfl ?_ | refine WL.callV (g := 194) (v := .bool true) Tryz.call194 rfl (fun w _ => repoch_t _ w he) rfl ?_ | refine WL.step (Yl.lssF rfl rfl g) rfl ?_ | (refine WL.k_bin .gtr ?_; refine WL.step (Yl.gtrT rfl rfl (by omega)) rfl ?_) | refine WL.step (Yl.not rfl) rfl ?_ | refine WC.seq ?_ | refine WC.region ?_ | refine WL.nil ?_ | refine WN.then_normal ?_))
        refine WC.cond_true rfl rfl ?_
        (repeat (first | refine WL.step (Yl.assign rfl) rfl ?_ | refine WC.seq ?_ | refine WC.region ?_ | refine WL.nil ?_ | refine WN.then_normal ?_ | refine WC.ret ?_ | refine WN.then_ret ?_))
        exact WN.ret1 rfl rfl ⟨rfl, rfl⟩ .nil
  · have e : Frm.check kd ep tx ix no n = 2 := by unfold Frm.check; rw [if_neg]; exact fun h => he h.1
    rw [e]
    (repeat (first | refine WL.pass rfl rfl rfl rfl ?_ | refine WL.step (Yl.move rfl) rfl ?_ | refine WL.step (Yl.assign rfl) rfl ?_ | (refine WL.k_load ?_; refine WL.step (Yl.loadBlk (T := 2) Tryz.isAgg2 rfl zH (by rfl)) rfl ?_) | refine WL.step (Yl.fld0 (t := 159) Tryz.underlying159 fl159 rfl rfl) rfl ?_ | refine WL.step (Yl.pick_t rfl rfl rfl) rfl ?_ | refine WL.callV (g := 194) (v := .bool false) Tryz.call194 rfl (fun w _ => repoch_f _ w he) rfl ?_ | refine WL.step (Yl.not rfl) rfl ?_ | refine WC.seq ?_ | refine WC.region ?_ | refine WL.nil ?_ | refine WN.then_normal ?_))
    refine WC.cond_true rfl rfl ?_
    (repeat (first | refine WL.step (Yl.assign rfl) rfl ?_ | refine WC.seq ?_ | refine WC.region ?_ | refine WL.nil ?_ | refine WN.then_normal ?_ | refine WC.ret ?_ | refine WN.then_ret ?_))
    exact WN.ret1 rfl rfl ⟨rfl, rfl⟩ .nil
end Go.Proofs.YtbkdjfgkebkknaaGreatDoor
