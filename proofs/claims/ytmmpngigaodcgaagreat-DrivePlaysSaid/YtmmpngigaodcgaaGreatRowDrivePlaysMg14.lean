import Derived.Test.YtmmpngigaodcgaaGreatRowDrivePlaysMg13
import Derived.Test.YtmmpngigaodcgaaGreatRowDrivePlaysMg10
/- The document's bank: copied. -/
namespace Go.Proofs.YtmmpngigaodcgaaGreat
set_option linter.unusedVariables false
set_option linter.unusedSimpArgs false
open Go Go.RowKit
set_option maxRecDepth 100000
set_option maxHeartbeats 8000000
def RCopyV (os fs : List Sl) (Is : List Bool) : Value → List HA → Prop := fun u B => ∃ p' : RP, u = bptr p'.br ∧ B = rbI p' os fs Is
theorem buildRb3 (a b e : Option Addr) (n m k c c2 c3 : Nat) (w : World) : (Instr.build 80 [(0, Value.slice a n c), (1, .slice b m c2), (2, .slice e k c3)].toArray).run Tryz.prog w = .ok (.agg #[.slice a n c, .slice b m c2, .slice e k c3]) w := by
  simp [Instr.build, Tryz.zeroValue80, run_underlying Tryz.underlying80, Tryz.sizeOf77, Tryz.sizeOf78, Instr.fill, Value.cells]
theorem svs_nil : svs [] = [] := rfl
theorem bls_nil : bls [] = [] := rfl
theorem WH.three {X : Cx} {ops : Array Oper} {Q : Exit → Act → World → Prop} {ρ : Env} {A A0 : List HA} {fuel : Nat} {listed : Array Bool} {i j l : Nat} {o o2 o3 : Oper} (hr : Region.ready .any ops listed = [i, j, l]) (hi : ops[i]? = some o) (hj : ops[j]? = some o2) (hl : ops[l]? = some o3)
    (h : WL X ops (Exit.then (HNext X A0 ops Q fuel (listed.setIfInBounds i true)) Q) [o] ρ A)
    (h2 : WL X ops (Exit.then (HNext X A0 ops Q fuel (listed.setIfInBounds j true)) Q) [o2] ρ A)
    (h3 : WL X ops (Exit.then (HNext X A0 ops Q fuel (listed.setIfInBounds l true)) Q) [o3] ρ A) : WH X A0 ops Q (fuel + 1) listed ρ A :=
  WH.all hr (by simp) (fun k hk => by
    simp at hk
    rcases hk with rfl | rfl | rfl
    · exact ⟨o, hi, h⟩
    · exact ⟨o2, hj, h2⟩
    · exact ⟨o3, hl, h3⟩)
attribute [local irreducible] WL WC WN Yl WH WQ WT WE WU WG WV
section
variable {p : RP} {os fs : List Sl} {Is : List Bool} {d : List (List UInt8)} {F : Nat → Option (List UInt8)}
theorem rcopy_c (w : World) (h : RbAt w p os fs Is d F) : Calls Tryz.prog 49 #[bptr p.br] w (Gives (RCopyV os fs Is) w) := by
  have hol := h.ok.k.ol
  have hfl := h.ok.k.fl
  have hil := h.ok.il
  have hle := h.wf.le
  refine enter (args := [.pointer (some ⟨p.br, 0, none⟩)]) Tryz.func49 Tryz.ntmps49 rfl rfl ?_
  (repeat (first | refine WL.step (Yl.move rfl) rfl ?_ | refine WL.step (Yl.assign rfl) rfl ?_ | refine WL.callV (g := 64) (v := .bool true) Tryz.call64 rfl (fun w0 st => rvalid_c w0 (h.keep st.kept)) rfl ?_ | refine WL.step (Yl.not rfl) rfl ?_ | refine WC.seq ?_ | refine WC.region ?_ | refine WL.nil ?_ | refine WN.then_normal ?_))
  refine WC.cond_false rfl rfl ?_
  (repeat (first | refine WC.seq ?_ | refine WN.then_normal ?_ | refine WC.skip ?_))
  refine WC.regionH [] (by kernel_rfl) ?_
  (refine WH.order [1, 2, 3, 4, 7, 8, 9, 10, 13, 14, 15, 16] (by repeat (first | exact Part.nil | refine Part.cons (by repeat (first | exact Pick.here | apply Pick.there)) ?_ | refine Part.free ?_)) (by kernel_rfl) ?_; (repeat (first | (refine WT.k_move rfl ?_; refine WT.take rfl rfl (fun _ _ _ h => h) (Yl.move rfl) rfl (by kernel_rfl) (by kernel_rfl) ?_) | (refine WT.k_load rfl ?_; refine WT.take rfl rfl (fun _ _ _ h => h) (Yl.loadH Tryz.isAgg77 rfl (Has.old h.blk) rfl) rfl (by kernel_rfl) (by kernel_rfl) ?_) | (refine WT.k_fld rfl ?_; refine WT.take rfl rfl (fun _ _ _ h => h) (Yl.fld0 (t := 80) Tryz.underlying80 fl80 rfl rfl) rfl (by kernel_rfl) (by kernel_rfl) ?_) | (refine WT.k_nilc rfl ?_; refine WT.take rfl rfl (fun _ _ _ h => h) (Yl.nilCheck rfl) rfl (by kernel_rfl) (by kernel_rfl) ?_))); refine WT.nil ?_)
  refine WH.three (i := 0) (j := 6) (l := 12) (by kernel_rfl) rfl rfl rfl ?_ ?_ ?_
  · refine WL.lit (t := 77) (vs := []) Tryz.underlying77 elemSl rfl rfl rfl (fun u hu => by simp at hu) rfl fun b0 => ?_
    rw [show flat [] = svs [] from rfl]
    refine WL.nil (WN.nextH .nil ?_)
    refine WH.three (i := 5) (j := 6) (l := 12) (by kernel_rfl) rfl rfl rfl ?_ ?_ ?_
    · refine WL.appendRow (t := 77) (n := 0) (m := os.length) (olds := svs []) (news := svs os) Tryz.underlying77 elemSl rfl rfl (by repeat (first | exact Pick.here | apply Pick.there)) rfl (Nat.le_refl 0) (.old h.ro) (by rw [svs_len, Nat.mul_one]) (svs_one _) (by omega) (by simp only [maxLen]; omega) rfl fun p5 hp5 => ?_
      simp only [svs_nil, List.nil_append, Nat.zero_add] at hp5 ⊢
      refine WL.nil (WN.nextH .nil ?_)
      refine WH.two (i := 6) (j := 12) (by kernel_rfl) rfl rfl ?_ ?_
      · refine WL.lit (t := 78) (vs := []) Tryz.underlying78 elemB rfl rfl rfl (fun u hu => by simp at hu) rfl fun b6 => ?_
        rw [show flat [] = bls [] from rfl]
        refine WL.nil (WN.nextH .nil ?_)
        refine WH.two (i := 11) (j := 12) (by kernel_rfl) rfl rfl ?_ ?_
        · refine WL.appendRow (t := 78) (n := 0) (m := Is.length) (olds := bls []) (news := bls Is) Tryz.underlying78 elemB rfl rfl (by repeat (first | exact Pick.here | apply Pick.there)) rfl (Nat.le_refl 0) (.old h.ri) (by rw [bls_len, Nat.mul_one]) (bls_one _) (by omega) (by simp only [maxLen]; omega) rfl fun p11 hp11 => ?_
          simp only [bls_nil, List.nil_append, Nat.zero_add] at hp11 ⊢
          refine WL.nil (WN.nextH .nil ?_)
          refine WH.only (i := 12) (by kernel_rfl) rfl ?_
          refine WL.lit (t := 77) (vs := []) Tryz.underlying77 elemSl rfl rfl rfl (fun u hu => by simp at hu) rfl fun b12 => ?_
          rw [show flat [] = svs [] from rfl]
          refine WL.nil (WN.nextH .nil ?_)
          refine WH.only (i := 17) (by kernel_rfl) rfl ?_
          refine WL.appendRow (t := 77) (n := 0) (m := fs.length) (olds := svs []) (news := svs fs) Tryz.underlying77 elemSl rfl rfl (by repeat (first | exact Pick.here | apply Pick.there)) rfl (Nat.le_refl 0) (.old h.rf) (by rw [svs_len, Nat.mul_one]) (svs_one _) (by omega) (by simp only [maxLen]; omega) rfl fun p17 hp17 => ?_
          simp only [svs_nil, List.nil_append, Nat.zero_add] at hp17 ⊢
          refine WL.nil (WN.nextH .nil ?_)
          (refine WH.order [18] (by repeat (first | exact Part.nil | refine Part.cons (by repeat (first | exact Pick.here | apply Pick.there)) ?_ | refine Part.free ?_)) (by kernel_rfl) ?_; (repeat (first | (refine WT.k_build rfl ?_; refine WT.take rfl rfl (fun _ _ _ h => h) (Yl.build (ps := [(0, .tmp 11), (1, .tmp 17), (2, .tmp 23)]) rfl (buildRb3 _ _ _ _ _ _ _ _ _)) rfl (by kernel_rfl) (by kernel_rfl) ?_))); refine WT.nil ?_)
          refine WH.only (i := 19) (by kernel_rfl) rfl ?_
          refine WL.boxA rfl rfl fun br => ?_
          refine WL.nil (WN.nextH .nil ?_)
          (refine WH.order [20] (by repeat (first | exact Part.nil | refine Part.cons (by repeat (first | exact Pick.here | apply Pick.there)) ?_ | refine Part.free ?_)) (by kernel_rfl) ?_; (repeat (first | (refine WT.k_assign rfl ?_; refine WT.take rfl rfl (fun _ _ _ h => h) (Yl.assign rfl) rfl (by kernel_rfl) (by kernel_rfl) ?_))); refine WT.nil ?_)
          refine WH.done (by kernel_rfl) ?_
          (repeat (first | refine WN.then_normal ?_ | refine WC.ret ?_))
          refine WN.ret1 rfl rfl ⟨⟨br, p5.1, p5.2, p11.1, p11.2, p17.1, p17.2⟩, rfl, rfl⟩ ?_
          simp only [rbI]
          exact (by repeat (first | exact Part.nil | refine Part.cons (by repeat (first | exact Pick.here | apply Pick.there)) ?_ | refine Part.free ?_))
        · refine WL.lit (t := 77) (vs := []) Tryz.underlying77 elemSl rfl rfl rfl (fun u hu => by simp at hu) rfl fun b12 => ?_
          rw [show flat [] = svs [] from rfl]
          refine WL.nil (WN.nextH .nil ?_)
          refine WH.only (i := 11) (by kernel_rfl) rfl ?_
          refine WL.appendRow (t := 78) (n := 0) (m := Is.length) (olds := bls []) (news := bls Is) Tryz.underlying78 elemB rfl rfl (by repeat (first | exact Pick.here | apply Pick.there)) rfl (Nat.le_refl 0) (.old h.ri) (by rw [bls_len, Nat.mul_one]) (bls_one _) (by omega) (by simp only [maxLen]; omega) rfl fun p11 hp11 => ?_
          simp only [bls_nil, List.nil_append, Nat.zero_add] at hp11 ⊢
          refine WL.nil (WN.nextH .nil ?_)
          refine WH.only (i := 17) (by kernel_rfl) rfl ?_
          refine WL.appendRow (t := 77) (n := 0) (m := fs.length) (olds := svs []) (news := svs fs) Tryz.underlying77 elemSl rfl rfl (by repeat (first | exact Pick.here | apply Pick.there)) rfl (Nat.le_refl 0) (.old h.rf) (by rw [svs_len, Nat.mul_one]) (svs_one _) (by omega) (by simp only [maxLen]; omega) rfl fun p17 hp17 => ?_
          simp only [svs_nil, List.nil_append, Nat.zero_add] at hp17 ⊢
          refine WL.nil (WN.nextH .nil ?_)
          (refine WH.order [18] (by repeat (first | exact Part.nil | refine Part.cons (by repeat (first | exact Pick.here | apply Pick.there)) ?_ | refine Part.free ?_)) (by kernel_rfl) ?_; (repeat (first | (refine WT.k_build rfl ?_; refine WT.take rfl rfl (fun _ _ _ h => h) (Yl.build (ps := [(0, .tmp 11), (1, .tmp 17), (2, .tmp 23)]) rfl (buildRb3 _ _ _ _ _ _ _ _ _)) rfl (by kernel_rfl) (by kernel_rfl) ?_))); refine WT.nil ?_)
          refine WH.only (i := 19) (by kernel_rfl) rfl ?_
          refine WL.boxA rfl rfl fun br => ?_
          refine WL.nil (WN.nextH .nil ?_)
          (refine WH.order [20] (by repeat (first | exact Part.nil | refine Part.cons (by repeat (first | exact Pick.here | apply Pick.there)) ?_ | refine Part.free ?_)) (by kernel_rfl) ?_; (repeat (first | (refine WT.k_assign rfl ?_; refine WT.take rfl rfl (fun _ _ _ h => h) (Yl.assign rfl) rfl (by kernel_rfl) (by kernel_rfl) ?_))); refine WT.nil ?_)
          refine WH.done (by kernel_rfl) ?_
          (repeat (first | refine WN.then_normal ?_ | refine WC.ret ?_))
          refine WN.ret1 rfl rfl ⟨⟨br, p5.1, p5.2, p11.1, p11.2, p17.1, p17.2⟩, rfl, rfl⟩ ?_
          simp only [rbI]
          exact (by repeat (first | exact Part.nil | refine Part.cons (by repeat (first | exact Pick.here | apply Pick.there)) ?_ | refine Part.free ?_))
      · refine WL.lit (t := 77) (vs := []) Tryz.underlying77 elemSl rfl rfl rfl (fun u hu => by simp at hu) rfl fun b12 => ?_
        rw [show flat [] = svs [] from rfl]
        refine WL.nil (WN.nextH .nil ?_)
        refine WH.only (i := 6) (by kernel_rfl) rfl ?_
        refine WL.lit (t := 78) (vs := []) Tryz.underlying78 elemB rfl rfl rfl (fun u hu => by simp at hu) rfl fun b6 => ?_
        rw [show flat [] = bls [] from rfl]
        refine WL.nil (WN.nextH .nil ?_)
        refine WH.only (i := 11) (by kernel_rfl) rfl ?_
        refine WL.appendRow (t := 78) (n := 0) (m := Is.length) (olds := bls []) (news := bls Is) Tryz.underlying78 elemB rfl rfl (by repeat (first | exact Pick.here | apply Pick.there)) rfl (Nat.le_refl 0) (.old h.ri) (by rw [bls_len, Nat.mul_one]) (bls_one _) (by omega) (by simp only [maxLen]; omega) rfl fun p11 hp11 => ?_
        simp only [bls_nil, List.nil_append, Nat.zero_add] at hp11 ⊢
        refine WL.nil (WN.nextH .nil ?_)
        refine WH.only (i := 17) (by kernel_rfl) rfl ?_
        refine WL.appendRow (t := 77) (n := 0) (m := fs.length) (olds := svs []) (news := svs fs) Tryz.underlying77 elemSl rfl rfl (by repeat (first | exact Pick.here | apply Pick.there)) rfl (Nat.le_refl 0) (.old h.rf) (by rw [svs_len, Nat.mul_one]) (svs_one _) (by omega) (by simp only [maxLen]; omega) rfl fun p17 hp17 => ?_
        simp only [svs_nil, List.nil_append, Nat.zero_add] at hp17 ⊢
        refine WL.nil (WN.nextH .nil ?_)
        (refine WH.order [18] (by repeat (first | exact Part.nil | refine Part.cons (by repeat (first | exact Pick.here | apply Pick.there)) ?_ | refine Part.free ?_)) (by kernel_rfl) ?_; (repeat (first | (refine WT.k_build rfl ?_; refine WT.take rfl rfl (fun _ _ _ h => h) (Yl.build (ps := [(0, .tmp 11), (1, .tmp 17), (2, .tmp 23)]) rfl (buildRb3 _ _ _ _ _ _ _ _ _)) rfl (by kernel_rfl) (by kernel_rfl) ?_))); refine WT.nil ?_)
        refine WH.only (i := 19) (by kernel_rfl) rfl ?_
        refine WL.boxA rfl rfl fun br => ?_
        refine WL.nil (WN.nextH .nil ?_)
        (refine WH.order [20] (by repeat (first | exact Part.nil | refine Part.cons (by repeat (first | exact Pick.here | apply Pick.there)) ?_ | refine Part.free ?_)) (by kernel_rfl) ?_; (repeat (first | (refine WT.k_assign rfl ?_; refine WT.take rfl rfl (fun _ _ _ h => h) (Yl.assign rfl) rfl (by kernel_rfl) (by kernel_rfl) ?_))); refine WT.nil ?_)
        refine WH.done (by kernel_rfl) ?_
        (repeat (first | refine WN.then_normal ?_ | refine WC.ret ?_))
        refine WN.ret1 rfl rfl ⟨⟨br, p5.1, p5.2, p11.1, p11.2, p17.1, p17.2⟩, rfl, rfl⟩ ?_
        simp only [rbI]
        exact (by repeat (first | exact Part.nil | refine Part.cons (by repeat (first | exact Pick.here | apply Pick.there)) ?_ | refine Part.free ?_))
    · refine WL.lit (t := 78) (vs := []) Tryz.underlying78 elemB rfl rfl rfl (fun u hu => by simp at hu) rfl fun b6 => ?_
      rw [show flat [] = bls [] from rfl]
      refine WL.nil (WN.nextH .nil ?_)
      refine WH.two (i := 5) (j := 12) (by kernel_rfl) rfl rfl ?_ ?_
      · refine WL.appendRow (t := 77) (n := 0) (m := os.length) (olds := svs []) (news := svs os) Tryz.underlying77 elemSl rfl rfl (by repeat (first | exact Pick.here | apply Pick.there)) rfl (Nat.le_refl 0) (.old h.ro) (by rw [svs_len, Nat.mul_one]) (svs_one _) (by omega) (by simp only [maxLen]; omega) rfl fun p5 hp5 => ?_
        simp only [svs_nil, List.nil_append, Nat.zero_add] at hp5 ⊢
        refine WL.nil (WN.nextH .nil ?_)
        refine WH.two (i := 11) (j := 12) (by kernel_rfl) rfl rfl ?_ ?_
        · refine WL.appendRow (t := 78) (n := 0) (m := Is.length) (olds := bls []) (news := bls Is) Tryz.underlying78 elemB rfl rfl (by repeat (first | exact Pick.here | apply Pick.there)) rfl (Nat.le_refl 0) (.old h.ri) (by rw [bls_len, Nat.mul_one]) (bls_one _) (by omega) (by simp only [maxLen]; omega) rfl fun p11 hp11 => ?_
          simp only [bls_nil, List.nil_append, Nat.zero_add] at hp11 ⊢
          refine WL.nil (WN.nextH .nil ?_)
          refine WH.only (i := 12) (by kernel_rfl) rfl ?_
          refine WL.lit (t := 77) (vs := []) Tryz.underlying77 elemSl rfl rfl rfl (fun u hu => by simp at hu) rfl fun b12 => ?_
          rw [show flat [] = svs [] from rfl]
          refine WL.nil (WN.nextH .nil ?_)
          refine WH.only (i := 17) (by kernel_rfl) rfl ?_
          refine WL.appendRow (t := 77) (n := 0) (m := fs.length) (olds := svs []) (news := svs fs) Tryz.underlying77 elemSl rfl rfl (by repeat (first | exact Pick.here | apply Pick.there)) rfl (Nat.le_refl 0) (.old h.rf) (by rw [svs_len, Nat.mul_one]) (svs_one _) (by omega) (by simp only [maxLen]; omega) rfl fun p17 hp17 => ?_
          simp only [svs_nil, List.nil_append, Nat.zero_add] at hp17 ⊢
          refine WL.nil (WN.nextH .nil ?_)
          (refine WH.order [18] (by repeat (first | exact Part.nil | refine Part.cons (by repeat (first | exact Pick.here | apply Pick.there)) ?_ | refine Part.free ?_)) (by kernel_rfl) ?_; (repeat (first | (refine WT.k_build rfl ?_; refine WT.take rfl rfl (fun _ _ _ h => h) (Yl.build (ps := [(0, .tmp 11), (1, .tmp 17), (2, .tmp 23)]) rfl (buildRb3 _ _ _ _ _ _ _ _ _)) rfl (by kernel_rfl) (by kernel_rfl) ?_))); refine WT.nil ?_)
          refine WH.only (i := 19) (by kernel_rfl) rfl ?_
          refine WL.boxA rfl rfl fun br => ?_
          refine WL.nil (WN.nextH .nil ?_)
          (refine WH.order [20] (by repeat (first | exact Part.nil | refine Part.cons (by repeat (first | exact Pick.here | apply Pick.there)) ?_ | refine Part.free ?_)) (by kernel_rfl) ?_; (repeat (first | (refine WT.k_assign rfl ?_; refine WT.take rfl rfl (fun _ _ _ h => h) (Yl.assign rfl) rfl (by kernel_rfl) (by kernel_rfl) ?_))); refine WT.nil ?_)
          refine WH.done (by kernel_rfl) ?_
          (repeat (first | refine WN.then_normal ?_ | refine WC.ret ?_))
          refine WN.ret1 rfl rfl ⟨⟨br, p5.1, p5.2, p11.1, p11.2, p17.1, p17.2⟩, rfl, rfl⟩ ?_
          simp only [rbI]
          exact (by repeat (first | exact Part.nil | refine Part.cons (by repeat (first | exact Pick.here | apply Pick.there)) ?_ | refine Part.free ?_))
        · refine WL.lit (t := 77) (vs := []) Tryz.underlying77 elemSl rfl rfl rfl (fun u hu => by simp at hu) rfl fun b12 => ?_
          rw [show flat [] = svs [] from rfl]
          refine WL.nil (WN.nextH .nil ?_)
          refine WH.only (i := 11) (by kernel_rfl) rfl ?_
          refine WL.appendRow (t := 78) (n := 0) (m := Is.length) (olds := bls []) (news := bls Is) Tryz.underlying78 elemB rfl rfl (by repeat (first | exact Pick.here | apply Pick.there)) rfl (Nat.le_refl 0) (.old h.ri) (by rw [bls_len, Nat.mul_one]) (bls_one _) (by omega) (by simp only [maxLen]; omega) rfl fun p11 hp11 => ?_
          simp only [bls_nil, List.nil_append, Nat.zero_add] at hp11 ⊢
          refine WL.nil (WN.nextH .nil ?_)
          refine WH.only (i := 17) (by kernel_rfl) rfl ?_
          refine WL.appendRow (t := 77) (n := 0) (m := fs.length) (olds := svs []) (news := svs fs) Tryz.underlying77 elemSl rfl rfl (by repeat (first | exact Pick.here | apply Pick.there)) rfl (Nat.le_refl 0) (.old h.rf) (by rw [svs_len, Nat.mul_one]) (svs_one _) (by omega) (by simp only [maxLen]; omega) rfl fun p17 hp17 => ?_
          simp only [svs_nil, List.nil_append, Nat.zero_add] at hp17 ⊢
          refine WL.nil (WN.nextH .nil ?_)
          (refine WH.order [18] (by repeat (first | exact Part.nil | refine Part.cons (by repeat (first | exact Pick.here | apply Pick.there)) ?_ | refine Part.free ?_)) (by kernel_rfl) ?_; (repeat (first | (refine WT.k_build rfl ?_; refine WT.take rfl rfl (fun _ _ _ h => h) (Yl.build (ps := [(0, .tmp 11), (1, .tmp 17), (2, .tmp 23)]) rfl (buildRb3 _ _ _ _ _ _ _ _ _)) rfl (by kernel_rfl) (by kernel_rfl) ?_))); refine WT.nil ?_)
          refine WH.only (i := 19) (by kernel_rfl) rfl ?_
          refine WL.boxA rfl rfl fun br => ?_
          refine WL.nil (WN.nextH .nil ?_)
          (refine WH.order [20] (by repeat (first | exact Part.nil | refine Part.cons (by repeat (first | exact Pick.here | apply Pick.there)) ?_ | refine Part.free ?_)) (by kernel_rfl) ?_; (repeat (first | (refine WT.k_assign rfl ?_; refine WT.take rfl rfl (fun _ _ _ h => h) (Yl.assign rfl) rfl (by kernel_rfl) (by kernel_rfl) ?_))); refine WT.nil ?_)
          refine WH.done (by kernel_rfl) ?_
          (repeat (first | refine WN.then_normal ?_ | refine WC.ret ?_))
          refine WN.ret1 rfl rfl ⟨⟨br, p5.1, p5.2, p11.1, p11.2, p17.1, p17.2⟩, rfl, rfl⟩ ?_
          simp only [rbI]
          exact (by repeat (first | exact Part.nil | refine Part.cons (by repeat (first | exact Pick.here | apply Pick.there)) ?_ | refine Part.free ?_))
      · refine WL.lit (t := 77) (vs := []) Tryz.underlying77 elemSl rfl rfl rfl (fun u hu => by simp at hu) rfl fun b12 => ?_
        rw [show flat [] = svs [] from rfl]
        refine WL.nil (WN.nextH .nil ?_)
        refine WH.only (i := 5) (by kernel_rfl) rfl ?_
        refine WL.appendRow (t := 77) (n := 0) (m := os.length) (olds := svs []) (news := svs os) Tryz.underlying77 elemSl rfl rfl (by repeat (first | exact Pick.here | apply Pick.there)) rfl (Nat.le_refl 0) (.old h.ro) (by rw [svs_len, Nat.mul_one]) (svs_one _) (by omega) (by simp only [maxLen]; omega) rfl fun p5 hp5 => ?_
        simp only [svs_nil, List.nil_append, Nat.zero_add] at hp5 ⊢
        refine WL.nil (WN.nextH .nil ?_)
        refine WH.only (i := 11) (by kernel_rfl) rfl ?_
        refine WL.appendRow (t := 78) (n := 0) (m := Is.length) (olds := bls []) (news := bls Is) Tryz.underlying78 elemB rfl rfl (by repeat (first | exact Pick.here | apply Pick.there)) rfl (Nat.le_refl 0) (.old h.ri) (by rw [bls_len, Nat.mul_one]) (bls_one _) (by omega) (by simp only [maxLen]; omega) rfl fun p11 hp11 => ?_
        simp only [bls_nil, List.nil_append, Nat.zero_add] at hp11 ⊢
        refine WL.nil (WN.nextH .nil ?_)
        refine WH.only (i := 17) (by kernel_rfl) rfl ?_
        refine WL.appendRow (t := 77) (n := 0) (m := fs.length) (olds := svs []) (news := svs fs) Tryz.underlying77 elemSl rfl rfl (by repeat (first | exact Pick.here | apply Pick.there)) rfl (Nat.le_refl 0) (.old h.rf) (by rw [svs_len, Nat.mul_one]) (svs_one _) (by omega) (by simp only [maxLen]; omega) rfl fun p17 hp17 => ?_
        simp only [svs_nil, List.nil_append, Nat.zero_add] at hp17 ⊢
        refine WL.nil (WN.nextH .nil ?_)
        (refine WH.order [18] (by repeat (first | exact Part.nil | refine Part.cons (by repeat (first | exact Pick.here | apply Pick.there)) ?_ | refine Part.free ?_)) (by kernel_rfl) ?_; (repeat (first | (refine WT.k_build rfl ?_; refine WT.take rfl rfl (fun _ _ _ h => h) (Yl.build (ps := [(0, .tmp 11), (1, .tmp 17), (2, .tmp 23)]) rfl (buildRb3 _ _ _ _ _ _ _ _ _)) rfl (by kernel_rfl) (by kernel_rfl) ?_))); refine WT.nil ?_)
        refine WH.only (i := 19) (by kernel_rfl) rfl ?_
        refine WL.boxA rfl rfl fun br => ?_
        refine WL.nil (WN.nextH .nil ?_)
        (refine WH.order [20] (by repeat (first | exact Part.nil | refine Part.cons (by repeat (first | exact Pick.here | apply Pick.there)) ?_ | refine Part.free ?_)) (by kernel_rfl) ?_; (repeat (first | (refine WT.k_assign rfl ?_; refine WT.take rfl rfl (fun _ _ _ h => h) (Yl.assign rfl) rfl (by kernel_rfl) (by kernel_rfl) ?_))); refine WT.nil ?_)
        refine WH.done (by kernel_rfl) ?_
        (repeat (first | refine WN.then_normal ?_ | refine WC.ret ?_))
        refine WN.ret1 rfl rfl ⟨⟨br, p5.1, p5.2, p11.1, p11.2, p17.1, p17.2⟩, rfl, rfl⟩ ?_
        simp only [rbI]
        exact (by repeat (first | exact Part.nil | refine Part.cons (by repeat (first | exact Pick.here | apply Pick.there)) ?_ | refine Part.free ?_))
    · refine WL.lit (t := 77) (vs := []) Tryz.underlying77 elemSl rfl rfl rfl (fun u hu => by simp at hu) rfl fun b12 => ?_
      rw [show flat [] = svs [] from rfl]
      refine WL.nil (WN.nextH .nil ?_)
      refine WH.two (i := 5) (j := 6) (by kernel_rfl) rfl rfl ?_ ?_
      · refine WL.appendRow (t := 77) (n := 0) (m := os.length) (olds := svs []) (news := svs os) Tryz.underlying77 elemSl rfl rfl (by repeat (first | exact Pick.here | apply Pick.there)) rfl (Nat.le_refl 0) (.old h.ro) (by rw [svs_len, Nat.mul_one]) (svs_one _) (by omega) (by simp only [maxLen]; omega) rfl fun p5 hp5 => ?_
        simp only [svs_nil, List.nil_append, Nat.zero_add] at hp5 ⊢
        refine WL.nil (WN.nextH .nil ?_)
        refine WH.only (i := 6) (by kernel_rfl) rfl ?_
        refine WL.lit (t := 78) (vs := []) Tryz.underlying78 elemB rfl rfl rfl (fun u hu => by simp at hu) rfl fun b6 => ?_
        rw [show flat [] = bls [] from rfl]
        refine WL.nil (WN.nextH .nil ?_)
        refine WH.only (i := 11) (by kernel_rfl) rfl ?_
        refine WL.appendRow (t := 78) (n := 0) (m := Is.length) (olds := bls []) (news := bls Is) Tryz.underlying78 elemB rfl rfl (by repeat (first | exact Pick.here | apply Pick.there)) rfl (Nat.le_refl 0) (.old h.ri) (by rw [bls_len, Nat.mul_one]) (bls_one _) (by omega) (by simp only [maxLen]; omega) rfl fun p11 hp11 => ?_
        simp only [bls_nil, List.nil_append, Nat.zero_add] at hp11 ⊢
        refine WL.nil (WN.nextH .nil ?_)
        refine WH.only (i := 17) (by kernel_rfl) rfl ?_
        refine WL.appendRow (t := 77) (n := 0) (m := fs.length) (olds := svs []) (news := svs fs) Tryz.underlying77 elemSl rfl rfl (by repeat (first | exact Pick.here | apply Pick.there)) rfl (Nat.le_refl 0) (.old h.rf) (by rw [svs_len, Nat.mul_one]) (svs_one _) (by omega) (by simp only [maxLen]; omega) rfl fun p17 hp17 => ?_
        simp only [svs_nil, List.nil_append, Nat.zero_add] at hp17 ⊢
        refine WL.nil (WN.nextH .nil ?_)
        (refine WH.order [18] (by repeat (first | exact Part.nil | refine Part.cons (by repeat (first | exact Pick.here | apply Pick.there)) ?_ | refine Part.free ?_)) (by kernel_rfl) ?_; (repeat (first | (refine WT.k_build rfl ?_; refine WT.take rfl rfl (fun _ _ _ h => h) (Yl.build (ps := [(0, .tmp 11), (1, .tmp 17), (2, .tmp 23)]) rfl (buildRb3 _ _ _ _ _ _ _ _ _)) rfl (by kernel_rfl) (by kernel_rfl) ?_))); refine WT.nil ?_)
        refine WH.only (i := 19) (by kernel_rfl) rfl ?_
        refine WL.boxA rfl rfl fun br => ?_
        refine WL.nil (WN.nextH .nil ?_)
        (refine WH.order [20] (by repeat (first | exact Part.nil | refine Part.cons (by repeat (first | exact Pick.here | apply Pick.there)) ?_ | refine Part.free ?_)) (by kernel_rfl) ?_; (repeat (first | (refine WT.k_assign rfl ?_; refine WT.take rfl rfl (fun _ _ _ h => h) (Yl.assign rfl) rfl (by kernel_rfl) (by kernel_rfl) ?_))); refine WT.nil ?_)
        refine WH.done (by kernel_rfl) ?_
        (repeat (first | refine WN.then_normal ?_ | refine WC.ret ?_))
        refine WN.ret1 rfl rfl ⟨⟨br, p5.1, p5.2, p11.1, p11.2, p17.1, p17.2⟩, rfl, rfl⟩ ?_
        simp only [rbI]
        exact (by repeat (first | exact Part.nil | refine Part.cons (by repeat (first | exact Pick.here | apply Pick.there)) ?_ | refine Part.free ?_))
      · refine WL.lit (t := 78) (vs := []) Tryz.underlying78 elemB rfl rfl rfl (fun u hu => by simp at hu) rfl fun b6 => ?_
        rw [show flat [] = bls [] from rfl]
        refine WL.nil (WN.nextH .nil ?_)
        refine WH.only (i := 5) (by kernel_rfl) rfl ?_
        refine WL.appendRow (t := 77) (n := 0) (m := os.length) (olds := svs []) (news := svs os) Tryz.underlying77 elemSl rfl rfl (by repeat (first | exact Pick.here | apply Pick.there)) rfl (Nat.le_refl 0) (.old h.ro) (by rw [svs_len, Nat.mul_one]) (svs_one _) (by omega) (by simp only [maxLen]; omega) rfl fun p5 hp5 => ?_
        simp only [svs_nil, List.nil_append, Nat.zero_add] at hp5 ⊢
        refine WL.nil (WN.nextH .nil ?_)
        refine WH.only (i := 11) (by kernel_rfl) rfl ?_
        refine WL.appendRow (t := 78) (n := 0) (m := Is.length) (olds := bls []) (news := bls Is) Tryz.underlying78 elemB rfl rfl (by repeat (first | exact Pick.here | apply Pick.there)) rfl (Nat.le_refl 0) (.old h.ri) (by rw [bls_len, Nat.mul_one]) (bls_one _) (by omega) (by simp only [maxLen]; omega) rfl fun p11 hp11 => ?_
        simp only [bls_nil, List.nil_append, Nat.zero_add] at hp11 ⊢
        refine WL.nil (WN.nextH .nil ?_)
        refine WH.only (i := 17) (by kernel_rfl) rfl ?_
        refine WL.appendRow (t := 77) (n := 0) (m := fs.length) (olds := svs []) (news := svs fs) Tryz.underlying77 elemSl rfl rfl (by repeat (first | exact Pick.here | apply Pick.there)) rfl (Nat.le_refl 0) (.old h.rf) (by rw [svs_len, Nat.mul_one]) (svs_one _) (by omega) (by simp only [maxLen]; omega) rfl fun p17 hp17 => ?_
        simp only [svs_nil, List.nil_append, Nat.zero_add] at hp17 ⊢
        refine WL.nil (WN.nextH .nil ?_)
        (refine WH.order [18] (by repeat (first | exact Part.nil | refine Part.cons (by repeat (first | exact Pick.here | apply Pick.there)) ?_ | refine Part.free ?_)) (by kernel_rfl) ?_; (repeat (first | (refine WT.k_build rfl ?_; refine WT.take rfl rfl (fun _ _ _ h => h) (Yl.build (ps := [(0, .tmp 11), (1, .tmp 17), (2, .tmp 23)]) rfl (buildRb3 _ _ _ _ _ _ _ _ _)) rfl (by kernel_rfl) (by kernel_rfl) ?_))); refine WT.nil ?_)
        refine WH.only (i := 19) (by kernel_rfl) rfl ?_
        refine WL.boxA rfl rfl fun br => ?_
        refine WL.nil (WN.nextH .nil ?_)
        (refine WH.order [20] (by repeat (first | exact Part.nil | refine Part.cons (by repeat (first | exact Pick.here | apply Pick.there)) ?_ | refine Part.free ?_)) (by kernel_rfl) ?_; (repeat (first | (refine WT.k_assign rfl ?_; refine WT.take rfl rfl (fun _ _ _ h => h) (Yl.assign rfl) rfl (by kernel_rfl) (by kernel_rfl) ?_))); refine WT.nil ?_)
        refine WH.done (by kernel_rfl) ?_
        (repeat (first | refine WN.then_normal ?_ | refine WC.ret ?_))
        refine WN.ret1 rfl rfl ⟨⟨br, p5.1, p5.2, p11.1, p11.2, p17.1, p17.2⟩, rfl, rfl⟩ ?_
        simp only [rbI]
        exact (by repeat (first | exact Part.nil | refine Part.cons (by repeat (first | exact Pick.here | apply Pick.there)) ?_ | refine Part.free ?_))
  · refine WL.lit (t := 78) (vs := []) Tryz.underlying78 elemB rfl rfl rfl (fun u hu => by simp at hu) rfl fun b6 => ?_
    rw [show flat [] = bls [] from rfl]
    refine WL.nil (WN.nextH .nil ?_)
    refine WH.two (i := 0) (j := 12) (by kernel_rfl) rfl rfl ?_ ?_
    · refine WL.lit (t := 77) (vs := []) Tryz.underlying77 elemSl rfl rfl rfl (fun u hu => by simp at hu) rfl fun b0 => ?_
      rw [show flat [] = svs [] from rfl]
      refine WL.nil (WN.nextH .nil ?_)
      refine WH.two (i := 5) (j := 12) (by kernel_rfl) rfl rfl ?_ ?_
      · refine WL.appendRow (t := 77) (n := 0) (m := os.length) (olds := svs []) (news := svs os) Tryz.underlying77 elemSl rfl rfl (by repeat (first | exact Pick.here | apply Pick.there)) rfl (Nat.le_refl 0) (.old h.ro) (by rw [svs_len, Nat.mul_one]) (svs_one _) (by omega) (by simp only [maxLen]; omega) rfl fun p5 hp5 => ?_
        simp only [svs_nil, List.nil_append, Nat.zero_add] at hp5 ⊢
        refine WL.nil (WN.nextH .nil ?_)
        refine WH.two (i := 11) (j := 12) (by kernel_rfl) rfl rfl ?_ ?_
        · refine WL.appendRow (t := 78) (n := 0) (m := Is.length) (olds := bls []) (news := bls Is) Tryz.underlying78 elemB rfl rfl (by repeat (first | exact Pick.here | apply Pick.there)) rfl (Nat.le_refl 0) (.old h.ri) (by rw [bls_len, Nat.mul_one]) (bls_one _) (by omega) (by simp only [maxLen]; omega) rfl fun p11 hp11 => ?_
          simp only [bls_nil, List.nil_append, Nat.zero_add] at hp11 ⊢
          refine WL.nil (WN.nextH .nil ?_)
          refine WH.only (i := 12) (by kernel_rfl) rfl ?_
          refine WL.lit (t := 77) (vs := []) Tryz.underlying77 elemSl rfl rfl rfl (fun u hu => by simp at hu) rfl fun b12 => ?_
          rw [show flat [] = svs [] from rfl]
          refine WL.nil (WN.nextH .nil ?_)
          refine WH.only (i := 17) (by kernel_rfl) rfl ?_
          refine WL.appendRow (t := 77) (n := 0) (m := fs.length) (olds := svs []) (news := svs fs) Tryz.underlying77 elemSl rfl rfl (by repeat (first | exact Pick.here | apply Pick.there)) rfl (Nat.le_refl 0) (.old h.rf) (by rw [svs_len, Nat.mul_one]) (svs_one _) (by omega) (by simp only [maxLen]; omega) rfl fun p17 hp17 => ?_
          simp only [svs_nil, List.nil_append, Nat.zero_add] at hp17 ⊢
          refine WL.nil (WN.nextH .nil ?_)
          (refine WH.order [18] (by repeat (first | exact Part.nil | refine Part.cons (by repeat (first | exact Pick.here | apply Pick.there)) ?_ | refine Part.free ?_)) (by kernel_rfl) ?_; (repeat (first | (refine WT.k_build rfl ?_; refine WT.take rfl rfl (fun _ _ _ h => h) (Yl.build (ps := [(0, .tmp 11), (1, .tmp 17), (2, .tmp 23)]) rfl (buildRb3 _ _ _ _ _ _ _ _ _)) rfl (by kernel_rfl) (by kernel_rfl) ?_))); refine WT.nil ?_)
          refine WH.only (i := 19) (by kernel_rfl) rfl ?_
          refine WL.boxA rfl rfl fun br => ?_
          refine WL.nil (WN.nextH .nil ?_)
          (refine WH.order [20] (by repeat (first | exact Part.nil | refine Part.cons (by repeat (first | exact Pick.here | apply Pick.there)) ?_ | refine Part.free ?_)) (by kernel_rfl) ?_; (repeat (first | (refine WT.k_assign rfl ?_; refine WT.take rfl rfl (fun _ _ _ h => h) (Yl.assign rfl) rfl (by kernel_rfl) (by kernel_rfl) ?_))); refine WT.nil ?_)
          refine WH.done (by kernel_rfl) ?_
          (repeat (first | refine WN.then_normal ?_ | refine WC.ret ?_))
          refine WN.ret1 rfl rfl ⟨⟨br, p5.1, p5.2, p11.1, p11.2, p17.1, p17.2⟩, rfl, rfl⟩ ?_
          simp only [rbI]
          exact (by repeat (first | exact Part.nil | refine Part.cons (by repeat (first | exact Pick.here | apply Pick.there)) ?_ | refine Part.free ?_))
        · refine WL.lit (t := 77) (vs := []) Tryz.underlying77 elemSl rfl rfl rfl (fun u hu => by simp at hu) rfl fun b12 => ?_
          rw [show flat [] = svs [] from rfl]
          refine WL.nil (WN.nextH .nil ?_)
          refine WH.only (i := 11) (by kernel_rfl) rfl ?_
          refine WL.appendRow (t := 78) (n := 0) (m := Is.length) (olds := bls []) (news := bls Is) Tryz.underlying78 elemB rfl rfl (by repeat (first | exact Pick.here | apply Pick.there)) rfl (Nat.le_refl 0) (.old h.ri) (by rw [bls_len, Nat.mul_one]) (bls_one _) (by omega) (by simp only [maxLen]; omega) rfl fun p11 hp11 => ?_
          simp only [bls_nil, List.nil_append, Nat.zero_add] at hp11 ⊢
          refine WL.nil (WN.nextH .nil ?_)
          refine WH.only (i := 17) (by kernel_rfl) rfl ?_
          refine WL.appendRow (t := 77) (n := 0) (m := fs.length) (olds := svs []) (news := svs fs) Tryz.underlying77 elemSl rfl rfl (by repeat (first | exact Pick.here | apply Pick.there)) rfl (Nat.le_refl 0) (.old h.rf) (by rw [svs_len, Nat.mul_one]) (svs_one _) (by omega) (by simp only [maxLen]; omega) rfl fun p17 hp17 => ?_
          simp only [svs_nil, List.nil_append, Nat.zero_add] at hp17 ⊢
          refine WL.nil (WN.nextH .nil ?_)
          (refine WH.order [18] (by repeat (first | exact Part.nil | refine Part.cons (by repeat (first | exact Pick.here | apply Pick.there)) ?_ | refine Part.free ?_)) (by kernel_rfl) ?_; (repeat (first | (refine WT.k_build rfl ?_; refine WT.take rfl rfl (fun _ _ _ h => h) (Yl.build (ps := [(0, .tmp 11), (1, .tmp 17), (2, .tmp 23)]) rfl (buildRb3 _ _ _ _ _ _ _ _ _)) rfl (by kernel_rfl) (by kernel_rfl) ?_))); refine WT.nil ?_)
          refine WH.only (i := 19) (by kernel_rfl) rfl ?_
          refine WL.boxA rfl rfl fun br => ?_
          refine WL.nil (WN.nextH .nil ?_)
          (refine WH.order [20] (by repeat (first | exact Part.nil | refine Part.cons (by repeat (first | exact Pick.here | apply Pick.there)) ?_ | refine Part.free ?_)) (by kernel_rfl) ?_; (repeat (first | (refine WT.k_assign rfl ?_; refine WT.take rfl rfl (fun _ _ _ h => h) (Yl.assign rfl) rfl (by kernel_rfl) (by kernel_rfl) ?_))); refine WT.nil ?_)
          refine WH.done (by kernel_rfl) ?_
          (repeat (first | refine WN.then_normal ?_ | refine WC.ret ?_))
          refine WN.ret1 rfl rfl ⟨⟨br, p5.1, p5.2, p11.1, p11.2, p17.1, p17.2⟩, rfl, rfl⟩ ?_
          simp only [rbI]
          exact (by repeat (first | exact Part.nil | refine Part.cons (by repeat (first | exact Pick.here | apply Pick.there)) ?_ | refine Part.free ?_))
      · refine WL.lit (t := 77) (vs := []) Tryz.underlying77 elemSl rfl rfl rfl (fun u hu => by simp at hu) rfl fun b12 => ?_
        rw [show flat [] = svs [] from rfl]
        refine WL.nil (WN.nextH .nil ?_)
        refine WH.only (i := 5) (by kernel_rfl) rfl ?_
        refine WL.appendRow (t := 77) (n := 0) (m := os.length) (olds := svs []) (news := svs os) Tryz.underlying77 elemSl rfl rfl (by repeat (first | exact Pick.here | apply Pick.there)) rfl (Nat.le_refl 0) (.old h.ro) (by rw [svs_len, Nat.mul_one]) (svs_one _) (by omega) (by simp only [maxLen]; omega) rfl fun p5 hp5 => ?_
        simp only [svs_nil, List.nil_append, Nat.zero_add] at hp5 ⊢
        refine WL.nil (WN.nextH .nil ?_)
        refine WH.only (i := 11) (by kernel_rfl) rfl ?_
        refine WL.appendRow (t := 78) (n := 0) (m := Is.length) (olds := bls []) (news := bls Is) Tryz.underlying78 elemB rfl rfl (by repeat (first | exact Pick.here | apply Pick.there)) rfl (Nat.le_refl 0) (.old h.ri) (by rw [bls_len, Nat.mul_one]) (bls_one _) (by omega) (by simp only [maxLen]; omega) rfl fun p11 hp11 => ?_
        simp only [bls_nil, List.nil_append, Nat.zero_add] at hp11 ⊢
        refine WL.nil (WN.nextH .nil ?_)
        refine WH.only (i := 17) (by kernel_rfl) rfl ?_
        refine WL.appendRow (t := 77) (n := 0) (m := fs.length) (olds := svs []) (news := svs fs) Tryz.underlying77 elemSl rfl rfl (by repeat (first | exact Pick.here | apply Pick.there)) rfl (Nat.le_refl 0) (.old h.rf) (by rw [svs_len, Nat.mul_one]) (svs_one _) (by omega) (by simp only [maxLen]; omega) rfl fun p17 hp17 => ?_
        simp only [svs_nil, List.nil_append, Nat.zero_add] at hp17 ⊢
        refine WL.nil (WN.nextH .nil ?_)
        (refine WH.order [18] (by repeat (first | exact Part.nil | refine Part.cons (by repeat (first | exact Pick.here | apply Pick.there)) ?_ | refine Part.free ?_)) (by kernel_rfl) ?_; (repeat (first | (refine WT.k_build rfl ?_; refine WT.take rfl rfl (fun _ _ _ h => h) (Yl.build (ps := [(0, .tmp 11), (1, .tmp 17), (2, .tmp 23)]) rfl (buildRb3 _ _ _ _ _ _ _ _ _)) rfl (by kernel_rfl) (by kernel_rfl) ?_))); refine WT.nil ?_)
        refine WH.only (i := 19) (by kernel_rfl) rfl ?_
        refine WL.boxA rfl rfl fun br => ?_
        refine WL.nil (WN.nextH .nil ?_)
        (refine WH.order [20] (by repeat (first | exact Part.nil | refine Part.cons (by repeat (first | exact Pick.here | apply Pick.there)) ?_ | refine Part.free ?_)) (by kernel_rfl) ?_; (repeat (first | (refine WT.k_assign rfl ?_; refine WT.take rfl rfl (fun _ _ _ h => h) (Yl.assign rfl) rfl (by kernel_rfl) (by kernel_rfl) ?_))); refine WT.nil ?_)
        refine WH.done (by kernel_rfl) ?_
        (repeat (first | refine WN.then_normal ?_ | refine WC.ret ?_))
        refine WN.ret1 rfl rfl ⟨⟨br, p5.1, p5.2, p11.1, p11.2, p17.1, p17.2⟩, rfl, rfl⟩ ?_
        simp only [rbI]
        exact (by repeat (first | exact Part.nil | refine Part.cons (by repeat (first | exact Pick.here | apply Pick.there)) ?_ | refine Part.free ?_))
    · refine WL.lit (t := 77) (vs := []) Tryz.underlying77 elemSl rfl rfl rfl (fun u hu => by simp at hu) rfl fun b12 => ?_
      rw [show flat [] = svs [] from rfl]
      refine WL.nil (WN.nextH .nil ?_)
      refine WH.only (i := 0) (by kernel_rfl) rfl ?_
      refine WL.lit (t := 77) (vs := []) Tryz.underlying77 elemSl rfl rfl rfl (fun u hu => by simp at hu) rfl fun b0 => ?_
      rw [show flat [] = svs [] from rfl]
      refine WL.nil (WN.nextH .nil ?_)
      refine WH.only (i := 5) (by kernel_rfl) rfl ?_
      refine WL.appendRow (t := 77) (n := 0) (m := os.length) (olds := svs []) (news := svs os) Tryz.underlying77 elemSl rfl rfl (by repeat (first | exact Pick.here | apply Pick.there)) rfl (Nat.le_refl 0) (.old h.ro) (by rw [svs_len, Nat.mul_one]) (svs_one _) (by omega) (by simp only [maxLen]; omega) rfl fun p5 hp5 => ?_
      simp only [svs_nil, List.nil_append, Nat.zero_add] at hp5 ⊢
      refine WL.nil (WN.nextH .nil ?_)
      refine WH.only (i := 11) (by kernel_rfl) rfl ?_
      refine WL.appendRow (t := 78) (n := 0) (m := Is.length) (olds := bls []) (news := bls Is) Tryz.underlying78 elemB rfl rfl (by repeat (first | exact Pick.here | apply Pick.there)) rfl (Nat.le_refl 0) (.old h.ri) (by rw [bls_len, Nat.mul_one]) (bls_one _) (by omega) (by simp only [maxLen]; omega) rfl fun p11 hp11 => ?_
      simp only [bls_nil, List.nil_append, Nat.zero_add] at hp11 ⊢
      refine WL.nil (WN.nextH .nil ?_)
      refine WH.only (i := 17) (by kernel_rfl) rfl ?_
      refine WL.appendRow (t := 77) (n := 0) (m := fs.length) (olds := svs []) (news := svs fs) Tryz.underlying77 elemSl rfl rfl (by repeat (first | exact Pick.here | apply Pick.there)) rfl (Nat.le_refl 0) (.old h.rf) (by rw [svs_len, Nat.mul_one]) (svs_one _) (by omega) (by simp only [maxLen]; omega) rfl fun p17 hp17 => ?_
      simp only [svs_nil, List.nil_append, Nat.zero_add] at hp17 ⊢
      refine WL.nil (WN.nextH .nil ?_)
      (refine WH.order [18] (by repeat (first | exact Part.nil | refine Part.cons (by repeat (first | exact Pick.here | apply Pick.there)) ?_ | refine Part.free ?_)) (by kernel_rfl) ?_; (repeat (first | (refine WT.k_build rfl ?_; refine WT.take rfl rfl (fun _ _ _ h => h) (Yl.build (ps := [(0, .tmp 11), (1, .tmp 17), (2, .tmp 23)]) rfl (buildRb3 _ _ _ _ _ _ _ _ _)) rfl (by kernel_rfl) (by kernel_rfl) ?_))); refine WT.nil ?_)
      refine WH.only (i := 19) (by kernel_rfl) rfl ?_
      refine WL.boxA rfl rfl fun br => ?_
      refine WL.nil (WN.nextH .nil ?_)
      (refine WH.order [20] (by repeat (first | exact Part.nil | refine Part.cons (by repeat (first | exact Pick.here | apply Pick.there)) ?_ | refine Part.free ?_)) (by kernel_rfl) ?_; (repeat (first | (refine WT.k_assign rfl ?_; refine WT.take rfl rfl (fun _ _ _ h => h) (Yl.assign rfl) rfl (by kernel_rfl) (by kernel_rfl) ?_))); refine WT.nil ?_)
      refine WH.done (by kernel_rfl) ?_
      (repeat (first | refine WN.then_normal ?_ | refine WC.ret ?_))
      refine WN.ret1 rfl rfl ⟨⟨br, p5.1, p5.2, p11.1, p11.2, p17.1, p17.2⟩, rfl, rfl⟩ ?_
      simp only [rbI]
      exact (by repeat (first | exact Part.nil | refine Part.cons (by repeat (first | exact Pick.here | apply Pick.there)) ?_ | refine Part.free ?_))
  · refine WL.lit (t := 77) (vs := []) Tryz.underlying77 elemSl rfl rfl rfl (fun u hu => by simp at hu) rfl fun b12 => ?_
    rw [show flat [] = svs [] from rfl]
    refine WL.nil (WN.nextH .nil ?_)
    refine WH.two (i := 0) (j := 6) (by kernel_rfl) rfl rfl ?_ ?_
    · refine WL.lit (t := 77) (vs := []) Tryz.underlying77 elemSl rfl rfl rfl (fun u hu => by simp at hu) rfl fun b0 => ?_
      rw [show flat [] = svs [] from rfl]
      refine WL.nil (WN.nextH .nil ?_)
      refine WH.two (i := 5) (j := 6) (by kernel_rfl) rfl rfl ?_ ?_
      · refine WL.appendRow (t := 77) (n := 0) (m := os.length) (olds := svs []) (news := svs os) Tryz.underlying77 elemSl rfl rfl (by repeat (first | exact Pick.here | apply Pick.there)) rfl (Nat.le_refl 0) (.old h.ro) (by rw [svs_len, Nat.mul_one]) (svs_one _) (by omega) (by simp only [maxLen]; omega) rfl fun p5 hp5 => ?_
        simp only [svs_nil, List.nil_append, Nat.zero_add] at hp5 ⊢
        refine WL.nil (WN.nextH .nil ?_)
        refine WH.only (i := 6) (by kernel_rfl) rfl ?_
        refine WL.lit (t := 78) (vs := []) Tryz.underlying78 elemB rfl rfl rfl (fun u hu => by simp at hu) rfl fun b6 => ?_
        rw [show flat [] = bls [] from rfl]
        refine WL.nil (WN.nextH .nil ?_)
        refine WH.only (i := 11) (by kernel_rfl) rfl ?_
        refine WL.appendRow (t := 78) (n := 0) (m := Is.length) (olds := bls []) (news := bls Is) Tryz.underlying78 elemB rfl rfl (by repeat (first | exact Pick.here | apply Pick.there)) rfl (Nat.le_refl 0) (.old h.ri) (by rw [bls_len, Nat.mul_one]) (bls_one _) (by omega) (by simp only [maxLen]; omega) rfl fun p11 hp11 => ?_
        simp only [bls_nil, List.nil_append, Nat.zero_add] at hp11 ⊢
        refine WL.nil (WN.nextH .nil ?_)
        refine WH.only (i := 17) (by kernel_rfl) rfl ?_
        refine WL.appendRow (t := 77) (n := 0) (m := fs.length) (olds := svs []) (news := svs fs) Tryz.underlying77 elemSl rfl rfl (by repeat (first | exact Pick.here | apply Pick.there)) rfl (Nat.le_refl 0) (.old h.rf) (by rw [svs_len, Nat.mul_one]) (svs_one _) (by omega) (by simp only [maxLen]; omega) rfl fun p17 hp17 => ?_
        simp only [svs_nil, List.nil_append, Nat.zero_add] at hp17 ⊢
        refine WL.nil (WN.nextH .nil ?_)
        (refine WH.order [18] (by repeat (first | exact Part.nil | refine Part.cons (by repeat (first | exact Pick.here | apply Pick.there)) ?_ | refine Part.free ?_)) (by kernel_rfl) ?_; (repeat (first | (refine WT.k_build rfl ?_; refine WT.take rfl rfl (fun _ _ _ h => h) (Yl.build (ps := [(0, .tmp 11), (1, .tmp 17), (2, .tmp 23)]) rfl (buildRb3 _ _ _ _ _ _ _ _ _)) rfl (by kernel_rfl) (by kernel_rfl) ?_))); refine WT.nil ?_)
        refine WH.only (i := 19) (by kernel_rfl) rfl ?_
        refine WL.boxA rfl rfl fun br => ?_
        refine WL.nil (WN.nextH .nil ?_)
        (refine WH.order [20] (by repeat (first | exact Part.nil | refine Part.cons (by repeat (first | exact Pick.here | apply Pick.there)) ?_ | refine Part.free ?_)) (by kernel_rfl) ?_; (repeat (first | (refine WT.k_assign rfl ?_; refine WT.take rfl rfl (fun _ _ _ h => h) (Yl.assign rfl) rfl (by kernel_rfl) (by kernel_rfl) ?_))); refine WT.nil ?_)
        refine WH.done (by kernel_rfl) ?_
        (repeat (first | refine WN.then_normal ?_ | refine WC.ret ?_))
        refine WN.ret1 rfl rfl ⟨⟨br, p5.1, p5.2, p11.1, p11.2, p17.1, p17.2⟩, rfl, rfl⟩ ?_
        simp only [rbI]
        exact (by repeat (first | exact Part.nil | refine Part.cons (by repeat (first | exact Pick.here | apply Pick.there)) ?_ | refine Part.free ?_))
      · refine WL.lit (t := 78) (vs := []) Tryz.underlying78 elemB rfl rfl rfl (fun u hu => by simp at hu) rfl fun b6 => ?_
        rw [show flat [] = bls [] from rfl]
        refine WL.nil (WN.nextH .nil ?_)
        refine WH.only (i := 5) (by kernel_rfl) rfl ?_
        refine WL.appendRow (t := 77) (n := 0) (m := os.length) (olds := svs []) (news := svs os) Tryz.underlying77 elemSl rfl rfl (by repeat (first | exact Pick.here | apply Pick.there)) rfl (Nat.le_refl 0) (.old h.ro) (by rw [svs_len, Nat.mul_one]) (svs_one _) (by omega) (by simp only [maxLen]; omega) rfl fun p5 hp5 => ?_
        simp only [svs_nil, List.nil_append, Nat.zero_add] at hp5 ⊢
        refine WL.nil (WN.nextH .nil ?_)
        refine WH.only (i := 11) (by kernel_rfl) rfl ?_
        refine WL.appendRow (t := 78) (n := 0) (m := Is.length) (olds := bls []) (news := bls Is) Tryz.underlying78 elemB rfl rfl (by repeat (first | exact Pick.here | apply Pick.there)) rfl (Nat.le_refl 0) (.old h.ri) (by rw [bls_len, Nat.mul_one]) (bls_one _) (by omega) (by simp only [maxLen]; omega) rfl fun p11 hp11 => ?_
        simp only [bls_nil, List.nil_append, Nat.zero_add] at hp11 ⊢
        refine WL.nil (WN.nextH .nil ?_)
        refine WH.only (i := 17) (by kernel_rfl) rfl ?_
        refine WL.appendRow (t := 77) (n := 0) (m := fs.length) (olds := svs []) (news := svs fs) Tryz.underlying77 elemSl rfl rfl (by repeat (first | exact Pick.here | apply Pick.there)) rfl (Nat.le_refl 0) (.old h.rf) (by rw [svs_len, Nat.mul_one]) (svs_one _) (by omega) (by simp only [maxLen]; omega) rfl fun p17 hp17 => ?_
        simp only [svs_nil, List.nil_append, Nat.zero_add] at hp17 ⊢
        refine WL.nil (WN.nextH .nil ?_)
        (refine WH.order [18] (by repeat (first | exact Part.nil | refine Part.cons (by repeat (first | exact Pick.here | apply Pick.there)) ?_ | refine Part.free ?_)) (by kernel_rfl) ?_; (repeat (first | (refine WT.k_build rfl ?_; refine WT.take rfl rfl (fun _ _ _ h => h) (Yl.build (ps := [(0, .tmp 11), (1, .tmp 17), (2, .tmp 23)]) rfl (buildRb3 _ _ _ _ _ _ _ _ _)) rfl (by kernel_rfl) (by kernel_rfl) ?_))); refine WT.nil ?_)
        refine WH.only (i := 19) (by kernel_rfl) rfl ?_
        refine WL.boxA rfl rfl fun br => ?_
        refine WL.nil (WN.nextH .nil ?_)
        (refine WH.order [20] (by repeat (first | exact Part.nil | refine Part.cons (by repeat (first | exact Pick.here | apply Pick.there)) ?_ | refine Part.free ?_)) (by kernel_rfl) ?_; (repeat (first | (refine WT.k_assign rfl ?_; refine WT.take rfl rfl (fun _ _ _ h => h) (Yl.assign rfl) rfl (by kernel_rfl) (by kernel_rfl) ?_))); refine WT.nil ?_)
        refine WH.done (by kernel_rfl) ?_
        (repeat (first | refine WN.then_normal ?_ | refine WC.ret ?_))
        refine WN.ret1 rfl rfl ⟨⟨br, p5.1, p5.2, p11.1, p11.2, p17.1, p17.2⟩, rfl, rfl⟩ ?_
        simp only [rbI]
        exact (by repeat (first | exact Part.nil | refine Part.cons (by repeat (first | exact Pick.here | apply Pick.there)) ?_ | refine Part.free ?_))
    · refine WL.lit (t := 78) (vs := []) Tryz.underlying78 elemB rfl rfl rfl (fun u hu => by simp at hu) rfl fun b6 => ?_
      rw [show flat [] = bls [] from rfl]
      refine WL.nil (WN.nextH .nil ?_)
      refine WH.only (i := 0) (by kernel_rfl) rfl ?_
      refine WL.lit (t := 77) (vs := []) Tryz.underlying77 elemSl rfl rfl rfl (fun u hu => by simp at hu) rfl fun b0 => ?_
      rw [show flat [] = svs [] from rfl]
      refine WL.nil (WN.nextH .nil ?_)
      refine WH.only (i := 5) (by kernel_rfl) rfl ?_
      refine WL.appendRow (t := 77) (n := 0) (m := os.length) (olds := svs []) (news := svs os) Tryz.underlying77 elemSl rfl rfl (by repeat (first | exact Pick.here | apply Pick.there)) rfl (Nat.le_refl 0) (.old h.ro) (by rw [svs_len, Nat.mul_one]) (svs_one _) (by omega) (by simp only [maxLen]; omega) rfl fun p5 hp5 => ?_
      simp only [svs_nil, List.nil_append, Nat.zero_add] at hp5 ⊢
      refine WL.nil (WN.nextH .nil ?_)
      refine WH.only (i := 11) (by kernel_rfl) rfl ?_
      refine WL.appendRow (t := 78) (n := 0) (m := Is.length) (olds := bls []) (news := bls Is) Tryz.underlying78 elemB rfl rfl (by repeat (first | exact Pick.here | apply Pick.there)) rfl (Nat.le_refl 0) (.old h.ri) (by rw [bls_len, Nat.mul_one]) (bls_one _) (by omega) (by simp only [maxLen]; omega) rfl fun p11 hp11 => ?_
      simp only [bls_nil, List.nil_append, Nat.zero_add] at hp11 ⊢
      refine WL.nil (WN.nextH .nil ?_)
      refine WH.only (i := 17) (by kernel_rfl) rfl ?_
      refine WL.appendRow (t := 77) (n := 0) (m := fs.length) (olds := svs []) (news := svs fs) Tryz.underlying77 elemSl rfl rfl (by repeat (first | exact Pick.here | apply Pick.there)) rfl (Nat.le_refl 0) (.old h.rf) (by rw [svs_len, Nat.mul_one]) (svs_one _) (by omega) (by simp only [maxLen]; omega) rfl fun p17 hp17 => ?_
      simp only [svs_nil, List.nil_append, Nat.zero_add] at hp17 ⊢
      refine WL.nil (WN.nextH .nil ?_)
      (refine WH.order [18] (by repeat (first | exact Part.nil | refine Part.cons (by repeat (first | exact Pick.here | apply Pick.there)) ?_ | refine Part.free ?_)) (by kernel_rfl) ?_; (repeat (first | (refine WT.k_build rfl ?_; refine WT.take rfl rfl (fun _ _ _ h => h) (Yl.build (ps := [(0, .tmp 11), (1, .tmp 17), (2, .tmp 23)]) rfl (buildRb3 _ _ _ _ _ _ _ _ _)) rfl (by kernel_rfl) (by kernel_rfl) ?_))); refine WT.nil ?_)
      refine WH.only (i := 19) (by kernel_rfl) rfl ?_
      refine WL.boxA rfl rfl fun br => ?_
      refine WL.nil (WN.nextH .nil ?_)
      (refine WH.order [20] (by repeat (first | exact Part.nil | refine Part.cons (by repeat (first | exact Pick.here | apply Pick.there)) ?_ | refine Part.free ?_)) (by kernel_rfl) ?_; (repeat (first | (refine WT.k_assign rfl ?_; refine WT.take rfl rfl (fun _ _ _ h => h) (Yl.assign rfl) rfl (by kernel_rfl) (by kernel_rfl) ?_))); refine WT.nil ?_)
      refine WH.done (by kernel_rfl) ?_
      (repeat (first | refine WN.then_normal ?_ | refine WC.ret ?_))
      refine WN.ret1 rfl rfl ⟨⟨br, p5.1, p5.2, p11.1, p11.2, p17.1, p17.2⟩, rfl, rfl⟩ ?_
      simp only [rbI]
      exact (by repeat (first | exact Part.nil | refine Part.cons (by repeat (first | exact Pick.here | apply Pick.there)) ?_ | refine Part.free ?_))
end
end Go.Proofs.YtmmpngigaodcgaaGreat
/- Memory in another order. -/
namespace Go.Proofs.YtmmpngigaodcgaaGreat
set_option linter.unusedVariables false
set_option linter.unusedSimpArgs false
open Go Go.RowKit
theorem Pick.of_mem {x : HA} : ∀ {A : List HA}, x ∈ A → ∃ B, Pick x A B
  | y :: A, h => by
    rcases List.mem_cons.1 h with rfl | h
    · exact ⟨A, .here⟩
    · obtain ⟨B, p⟩ := Pick.of_mem h
      exact ⟨y :: B, .there p⟩
theorem Part.perm : ∀ {B A : List HA}, A.Perm B → Part A B
  | [], _, _ => .nil
  | x :: B, A, h => by
    obtain ⟨A', p⟩ := Pick.of_mem (h.mem_iff.2 (.head _))
    exact .cons p (Part.perm ((List.perm_cons x).1 (p.perm.symm.trans h)))
theorem perm3 (a b r : List HA) : (a ++ (b ++ r)).Perm (b ++ (a ++ r)) := by
  classical
  rw [List.perm_iff_count]; intro x; simp only [List.count_append]; omega
theorem WL.part {X : Cx} {ops : Array Oper} {Q : Exit → Act → World → Prop} {l : List Oper} {ρ : Env} {A B : List HA} (hp : Part A B) (h : WL X ops Q l ρ B) : WL X ops Q l ρ A := fun a w f s => h a w f (s.part hp)
theorem WC.part {X : Cx} {c : Code} {Q : Exit → Act → World → Prop} {ρ : Env} {A B : List HA} (hp : Part A B) (h : WC X c Q ρ B) : WC X c Q ρ A := fun a w f s => h a w f (s.part hp)
/-- The rows behind are given a name. -/
theorem WL.hide {X : Cx} {ops : Array Oper} {Q : Exit → Act → World → Prop} {l : List Oper} {ρ : Env} {D Z : List HA} (h : ∀ Z2, Z2 = Z → WL X ops Q l ρ (D ++ Z2)) : WL X ops Q l ρ (D ++ Z) := h Z rfl
end Go.Proofs.YtmmpngigaodcgaaGreat
