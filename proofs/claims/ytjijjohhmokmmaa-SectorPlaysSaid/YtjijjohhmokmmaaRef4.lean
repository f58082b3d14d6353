/- The document's bank: written. -/
import Derived.Test.YtjijjohhmokmmaaRef3
import Derived.Test.YtjijjohhmokmmaaKno3
namespace Go.Proofs.Ytjijjohhmokmmaa
set_option linter.unusedVariables false
set_option linter.unusedSimpArgs false
open Go Go.RowKit
set_option maxRecDepth 100000
set_option maxHeartbeats 8000000
theorem RbAt.out {w0 w : World} {S : List Nat} {A : List HA} {p : RP} {os fs : List Sl} {Is : List Bool} {d : List (List UInt8)} {F : Nat → Option (List UInt8)} (ok : RbOk os fs Is d F) (wf : BkWf d F) (hi : ∀ x ∈ rbI p os fs Is, x ∈ A) (hO : ∀ s ∈ os ++ fs, OutF w0 S s) (st : St w0 S A w) : RbAt w p os fs Is d F := by
  have m1 : HA.blk p.br (.cells #[.slice p.ao os.length p.co, .slice p.ai Is.length p.ci, .slice p.af fs.length p.cf] 87 (0, 0)) ∈ A := hi _ (by simp only [rbI]; exact .head _)
  have m2 : HA.row p.ao p.co 22 1 (svs os) ∈ A := hi _ (by simp only [rbI]; exact .tail _ (.head _))
  have m3 : HA.row p.ai p.ci 4 1 (bls Is) ∈ A := hi _ (by simp only [rbI]; exact .tail _ (.tail _ (.head _)))
  have m4 : HA.row p.af p.cf 22 1 (svs fs) ∈ A := hi _ (by simp only [rbI]; exact .tail _ (.tail _ (.tail _ (.head _))))
  exact ⟨ok, wf, st.holds _ m1, Rd.row (X := ⟨Try.prog, 0, w0, S⟩) m2 w st, Rd.row (X := ⟨Try.prog, 0, w0, S⟩) m3 w st, Rd.row (X := ⟨Try.prog, 0, w0, S⟩) m4 w st, fun s hs => Rd.out (P := Try.prog) (n := 0) (hO s hs).2 w st⟩
def RbV (p : RP) (os fs : List Sl) (d : List (List UInt8)) (F : Nat → Option (List UInt8)) (e : Nat) : Value → List HA → Prop := fun u B =>
  u = .int .i64 (e : Int) ∧ ∃ os' fs' Is' Z, B = rbI p os' fs' Is' ++ Z ∧ RbOk os' fs' Is' d F ∧ ∀ x ∈ os' ++ fs', x ∈ os ++ fs ∨ InF Z x
theorem bls_set (l : List Bool) (i : Nat) (b : Bool) : (bls l).set i (.bool b) = bls (l.set i b) := by simp [bls, List.map_set]
theorem bl_set_same {l : List Bool} {i : Nat} (h : i < l.length) (b : Bool) : (l.set i b).getD i false = b := by simp [List.getD, h]
theorem bl_set_ne {l : List Bool} {i j : Nat} (h : i ≠ j) (b : Bool) : (l.set i b).getD j false = l.getD j false := by simp [List.getD, List.getElem?_set_ne h]
theorem RbOk.write {os fs : List Sl} {Is : List Bool} {d : List (List UInt8)} {F : Nat → Option (List UInt8)} (h : RbOk os fs Is d F) {i : Nat} (t : Sl) : RbOk os (fs.set i t) (Is.set i true) d (setF F i (some t.l)) := by
  refine ⟨h.k.write t, by rw [List.length_set, h.il], fun j hj => ?_⟩
  by_cases e : i = j
  · subst e
    rw [bl_set_same (by rw [h.il]; exact hj)]; simp [setF]
  · rw [bl_set_ne e, h.id j hj, show setF F i (some t.l) j = F j by simp [setF, Ne.symm e]]
attribute [local irreducible] WL WC WN Yl WH WQ WT WE WU WG WV
section
variable {p : RP} {os fs : List Sl} {Is : List Bool} {d : List (List UInt8)} {F : Nat → Option (List UInt8)} {S : List Nat}
theorem rwrite_r (a : Option Addr) (n c2 : Nat) (x : List UInt8) (s : Int) (w : World) (wf : BkWf d F) (ok : RbOk os fs Is d F) (hO : ∀ y ∈ os ++ fs, OutF w S y) (hx : x.length = n) (hr : CellsOut w S a (bs x)) (st : St w S (rbI p os fs Is) w) :
    Calls Try.prog 31 #[bptr p.br, .int .i64 s, .slice a n c2] w (GivesS S (RbV p os fs d (writeF d.length F s x) (writeE d.length s x)) w) := by
  have hol := ok.k.ol
  have hfl := ok.k.fl
  have hil := ok.il
  have hle := wf.le
  refine enterS (args := [.pointer (some ⟨p.br, 0, none⟩), _, _]) Try.func31 Try.ntmps31 rfl rfl st ?_
  have hat : ∀ {w' : World}, St w S (rbI p os fs Is) w' → RbAt w' p os fs Is d F := fun st => RbAt.out ok wf (fun x hx => hx) hO st
  rcases bchk_cases d.length s with ⟨hc, _⟩ | ⟨hc, k, rfl, hk⟩
  · rw [writeF, if_neg (fun h => by rw [hc] at h; cases h.1), writeE, if_neg (by rw [hc]; decide)]
    (repeat (first | (refine WL.k_move ?_; first | refine WL.step (Yl.move rfl) rfl ?_) | (refine WL.k_assign ?_; first | refine WL.step (Yl.assign rfl) rfl ?_) | (refine WL.k_call 46 ?_; first | refine WL.callV (g := 46) (v := .int .i64 3) Try.call46 rfl (fun w0 st => by have := rcheck_c s w0 (hat st); rw [hc] at this; exact this) rfl ?_) | (refine WL.k_bin .neq ?_; first | refine WL.step (Yl.neqT rfl rfl (by decide)) rfl ?_ | refine WL.step (Yl.strNeq rfl rfl) rfl ?_ | refine WL.step (Yl.neq rfl rfl) rfl ?_) | (refine WL.k_bi .len ?_; first | refine WL.step (Yl.len (t := 22) Try.underlying22 rfl) rfl ?_) | refine WC.seq ?_ | refine WC.region ?_ | refine WL.nil ?_ | refine WN.then_normal ?_ | refine WC.skip ?_ | refine WC.ret ?_ | refine WN.then_ret ?_))
    refine WC.cond_true rfl rfl ?_
    (repeat (first | (refine WL.k_move ?_; first | refine WL.step (Yl.move rfl) rfl ?_) | (refine WL.k_assign ?_; first | refine WL.step (Yl.assign rfl) rfl ?_) | (refine WL.k_bi .len ?_; first | refine WL.step (Yl.len (t := 22) Try.underlying22 rfl) rfl ?_) | (refine WL.k_bin .neq ?_; first | refine WL.step (Yl.strNeq rfl rfl) rfl ?_ | refine WL.step (Yl.neq rfl rfl) rfl ?_) | refine WC.seq ?_ | refine WC.region ?_ | refine WL.nil ?_ | refine WN.then_normal ?_ | refine WC.skip ?_ | refine WC.ret ?_ | refine WN.then_ret ?_))
    exact WN.ret1S rfl rfl ⟨rfl, os, fs, Is, [], (List.append_nil _).symm, ok, fun y hy => .inl hy⟩ (Part.refl _)
  by_cases h128 : x.length = 128
  · rw [writeF, if_pos ⟨hc, h128⟩, writeE, if_pos hc, if_pos h128, Int.toNat_natCast]
    have hok := fun (t : Sl) => ok.write (i := k) t
    (repeat (first | (refine WL.k_move ?_; first | refine WL.step (Yl.move rfl) rfl ?_) | (refine WL.k_assign ?_; first | refine WL.step (Yl.assign rfl) rfl ?_) | (refine WL.k_call 46 ?_; first | refine WL.callV (g := 46) (v := .int .i64 0) Try.call46 rfl (fun w0 st => by have := rcheck_c (k : Int) w0 (hat st); rw [hc] at this; exact this) rfl ?_) | (refine WL.k_bin .neq ?_; first | refine WL.step (Yl.neqF rfl rfl rfl) rfl ?_ | refine WL.step (Yl.strNeq rfl rfl) rfl ?_ | refine WL.step (Yl.neq rfl rfl) rfl ?_) | (refine WL.k_bi .len ?_; first | refine WL.step (Yl.len (t := 22) Try.underlying22 rfl) rfl ?_) | refine WC.seq ?_ | refine WC.region ?_ | refine WL.nil ?_ | refine WN.then_normal ?_ | refine WC.skip ?_ | refine WC.ret ?_ | refine WN.then_ret ?_))
    refine WC.cond_false rfl rfl ?_
    (repeat (first | (refine WL.k_move ?_; first | refine WL.step (Yl.move rfl) rfl ?_) | (refine WL.k_assign ?_; first | refine WL.step (Yl.assign rfl) rfl ?_) | (refine WL.k_bi .len ?_; first | refine WL.step (Yl.len (t := 22) Try.underlying22 rfl) rfl ?_) | (refine WL.k_bin .neq ?_; first | refine WL.step (Yl.neqF rfl rfl (by omega)) rfl ?_ | refine WL.step (Yl.strNeq rfl rfl) rfl ?_ | refine WL.step (Yl.neq rfl rfl) rfl ?_) | refine WC.seq ?_ | refine WC.region ?_ | refine WL.nil ?_ | refine WN.then_normal ?_ | refine WC.skip ?_ | refine WC.ret ?_ | refine WN.then_ret ?_))
    refine WC.cond_false rfl rfl ?_
    rw [rbI]
    (repeat (first | (refine WL.k_move ?_; first | refine WL.step (Yl.move rfl) rfl ?_) | (refine WL.k_assign ?_; first | refine WL.step (Yl.assign rfl) rfl ?_) | (refine WL.k_bi .len ?_; first | refine WL.step (Yl.len (t := 22) Try.underlying22 rfl) rfl ?_) | (refine WL.k_bin .neq ?_; first | refine WL.step (Yl.strNeq rfl rfl) rfl ?_ | refine WL.step (Yl.neq rfl rfl) rfl ?_) | refine WC.seq ?_ | refine WC.region ?_ | refine WL.nil ?_ | refine WN.then_normal ?_ | refine WC.skip ?_ | refine WC.ret ?_ | refine WN.then_ret ?_))
    refine WL.know (p := ∃ ad, p.ai = some ad) (fun w0 s0 => (Rd.row (X := ⟨Try.prog, 32, w, S⟩) (a := p.ai) (vs := bls Is) (T := 4) (k := 1) (cap := p.ci) (.tail _ (.tail _ (.head _)))).some_ (ne_nil_of (bls_at (l := Is) (i := k) (by omega))) s0) fun ⟨iad, hiad⟩ => ?_
    refine WL.know (p := ∃ ad, p.af = some ad) (fun w0 s0 => (Rd.row (X := ⟨Try.prog, 32, w, S⟩) (a := p.af) (vs := svs fs) (T := 22) (k := 1) (cap := p.cf) (.tail _ (.tail _ (.tail _ (.head _))))).some_ (svs_ne (i := k) (by omega)) s0) fun ⟨fad, hfad⟩ => ?_
    rw [hiad, hfad]
    (repeat (first | (refine WL.k_move ?_; first | refine WL.step (Yl.move rfl) rfl ?_) | (refine WL.k_assign ?_; first | refine WL.step (Yl.assign rfl) rfl ?_) | (refine WL.k_load ?_; first | refine WL.step (Yl.loadBlk (T := 50) Try.isAgg50 rfl (by repeat (first | exact .head _ | refine .tail _ ?_)) (by rfl)) rfl ?_ | refine WL.step (Yl.loadBlk (T := 85) Try.isAgg85 rfl (by repeat (first | exact .head _ | refine .tail _ ?_)) (by rfl)) rfl ?_) | (refine WL.k_fld ?_; first | refine WL.step (Yl.fld0 (t := 87) Try.underlying87 fl87 rfl rfl) rfl ?_) | (refine WL.k_nilc ?_; first | refine WL.step (Yl.nilCheck rfl) rfl ?_) | (refine WL.k_idxa ?_; first | refine WL.step (Yl.indexAddrS (j := k) (n := Is.length) (ad := iad) (cap := p.ci) Try.underlying85 Try.sizeOf4 rfl rfl (by omega)) rfl ?_) | (refine WL.k_bi .len ?_; first | refine WL.step (Yl.len (t := 22) Try.underlying22 rfl) rfl ?_) | (refine WL.k_bin .neq ?_; first | refine WL.step (Yl.strNeq rfl rfl) rfl ?_ | refine WL.step (Yl.neq rfl rfl) rfl ?_) | refine WC.seq ?_ | refine WC.region ?_ | refine WL.nil ?_ | refine WN.then_normal ?_ | refine WC.skip ?_ | refine WC.ret ?_ | refine WN.then_ret ?_))
    refine WL.storeRow (T := 4) (i := k) (vs := bls Is) Try.sizeOf4 rfl rfl rfl (by repeat (first | exact Pick.here | apply Pick.there)) (by rw [bls_len]; omega) ?_
    rw [bls_set]
    (repeat (first | (refine WL.k_move ?_; first | refine WL.step (Yl.move rfl) rfl ?_) | (refine WL.k_assign ?_; first | refine WL.step (Yl.assign rfl) rfl ?_) | (refine WL.k_bi .len ?_; first | refine WL.step (Yl.len (t := 22) Try.underlying22 rfl) rfl ?_) | (refine WL.k_bin .neq ?_; first | refine WL.step (Yl.strNeq rfl rfl) rfl ?_ | refine WL.step (Yl.neq rfl rfl) rfl ?_) | refine WC.seq ?_ | refine WC.region ?_ | refine WL.nil ?_ | refine WN.then_normal ?_ | refine WC.skip ?_ | refine WC.ret ?_ | refine WN.then_ret ?_))
    refine WC.regionH [.blk p.br (.cells #[.slice p.ao os.length p.co, .slice (some iad) Is.length p.ci, .slice (some fad) fs.length p.cf] 87 (0, 0))] (by kernel_rfl) ?_
    (refine WH.order [0, 1, 2, 3, 4, 6] (by repeat (first | exact Part.nil | refine Part.cons (by repeat (first | exact Pick.here | apply Pick.there)) ?_ | refine Part.free ?_)) (by kernel_rfl) ?_; (repeat (first | (refine WT.k_move rfl ?_; first | refine WT.take rfl rfl (fun _ _ _ h => h) (Yl.move rfl) rfl (by kernel_rfl) (by kernel_rfl) ?_) | (refine WT.k_assign rfl ?_; first | refine WT.take rfl rfl (fun _ _ _ h => h) (Yl.assign rfl) rfl (by kernel_rfl) (by kernel_rfl) ?_) | (refine WT.k_load rfl ?_; first | refine WT.take rfl rfl (fun _ _ _ h => h) (Yl.loadBlk (T := 50) Try.isAgg50 rfl (by repeat (first | exact .head _ | refine .tail _ ?_)) (by rfl)) rfl (by kernel_rfl) (by kernel_rfl) ?_ | refine WT.take rfl rfl (fun _ _ _ h => h) (Yl.loadBlk (T := 85) Try.isAgg85 rfl (by repeat (first | exact .head _ | refine .tail _ ?_)) (by rfl)) rfl (by kernel_rfl) (by kernel_rfl) ?_) | (refine WT.k_fld rfl ?_; first | refine WT.take rfl rfl (fun _ _ _ h => h) (Yl.fld0 (t := 87) Try.underlying87 fl87 rfl rfl) rfl (by kernel_rfl) (by kernel_rfl) ?_) | (refine WT.k_nilc rfl ?_; first | refine WT.take rfl rfl (fun _ _ _ h => h) (Yl.nilCheck rfl) rfl (by kernel_rfl) (by kernel_rfl) ?_) | (refine WT.k_bi .len rfl ?_; first | refine WT.take rfl rfl (fun _ _ _ h => h) (Yl.len (t := 22) Try.underlying22 rfl) rfl (by kernel_rfl) (by kernel_rfl) ?_) | (refine WT.k_bin .neq rfl ?_; first | refine WT.take rfl rfl (fun _ _ _ h => h) (Yl.strNeq rfl rfl) rfl (by kernel_rfl) (by kernel_rfl) ?_ | refine WT.take rfl rfl (fun _ _ _ h => h) (Yl.neq rfl rfl) rfl (by kernel_rfl) (by kernel_rfl) ?_))); refine WT.nil ?_)
    refine WH.only (i := 5) (by kernel_rfl) rfl ?_
    refine WL.lit (t := 22) (vs := []) Try.underlying22 elemU8 rfl rfl rfl (fun u hu => by cases hu) rfl fun bl => ?_
    refine WL.nil (WN.nextH (by repeat (first | exact Part.nil | refine Part.cons (by repeat (first | exact Pick.here | apply Pick.there)) ?_ | refine Part.free ?_)) ?_)
    refine WH.only (i := 7) (by kernel_rfl) rfl ?_
    refine WL.appendRow (t := 22) (n := 0) (m := n) (olds := []) (news := bs x) Try.underlying22 elemU8 rfl rfl (by repeat (first | exact Pick.here | apply Pick.there)) rfl (Nat.le_refl _) (Rd.out hr) (by rw [bs_length, hx, Nat.mul_one]) (bs_one _) (by omega) (by simp only [maxLen]; omega) rfl fun q2 hq2 => ?_
    simp only [Nat.zero_add, List.nil_append] at hq2 ⊢
    refine WL.nil (WN.nextH (by repeat (first | exact Part.nil | refine Part.cons (by repeat (first | exact Pick.here | apply Pick.there)) ?_ | refine Part.free ?_)) ?_)
    (refine WH.order [8] (by repeat (first | exact Part.nil | refine Part.cons (by repeat (first | exact Pick.here | apply Pick.there)) ?_ | refine Part.free ?_)) (by kernel_rfl) ?_; (repeat (first | (refine WT.k_move rfl ?_; first | refine WT.take rfl rfl (fun _ _ _ h => h) (Yl.move rfl) rfl (by kernel_rfl) (by kernel_rfl) ?_) | (refine WT.k_assign rfl ?_; first | refine WT.take rfl rfl (fun _ _ _ h => h) (Yl.assign rfl) rfl (by kernel_rfl) (by kernel_rfl) ?_) | (refine WT.k_idxa rfl ?_; first | refine WT.take rfl rfl (fun _ _ _ h => h) (Yl.indexAddrS (j := k) (n := fs.length) (ad := fad) (cap := p.cf) Try.underlying50 Try.sizeOf22 rfl rfl (by omega)) rfl (by kernel_rfl) (by kernel_rfl) ?_) | (refine WT.k_bi .len rfl ?_; first | refine WT.take rfl rfl (fun _ _ _ h => h) (Yl.len (t := 22) Try.underlying22 rfl) rfl (by kernel_rfl) (by kernel_rfl) ?_) | (refine WT.k_bin .neq rfl ?_; first | refine WT.take rfl rfl (fun _ _ _ h => h) (Yl.strNeq rfl rfl) rfl (by kernel_rfl) (by kernel_rfl) ?_ | refine WT.take rfl rfl (fun _ _ _ h => h) (Yl.neq rfl rfl) rfl (by kernel_rfl) (by kernel_rfl) ?_))); refine WT.nil ?_)
    refine WH.only (i := 9) (by kernel_rfl) rfl ?_
    refine WL.storeRow (T := 22) (i := k) (vs := svs fs) Try.sizeOf22 rfl rfl rfl (by repeat (first | exact Pick.here | apply Pick.there)) (by rw [svs_len]; omega) ?_
    have hso : (svs fs).set k (.slice q2.1 n q2.2) = svs (fs.set k ⟨q2.1, q2.2, x⟩) := by rw [← svs_set, Sl.v, hx]
    rw [hso]
    refine WL.nil (WN.nextH (by repeat (first | exact Part.nil | refine Part.cons (by repeat (first | exact Pick.here | apply Pick.there)) ?_ | refine Part.free ?_)) (WH.done (by kernel_rfl) ?_))
    (repeat (first | (refine WL.k_move ?_; first | refine WL.step (Yl.move rfl) rfl ?_) | (refine WL.k_assign ?_; first | refine WL.step (Yl.assign rfl) rfl ?_) | (refine WL.k_bi .len ?_; first | refine WL.step (Yl.len (t := 22) Try.underlying22 rfl) rfl ?_) | (refine WL.k_bin .neq ?_; first | refine WL.step (Yl.strNeq rfl rfl) rfl ?_ | refine WL.step (Yl.neq rfl rfl) rfl ?_) | refine WC.seq ?_ | refine WC.region ?_ | refine WL.nil ?_ | refine WN.then_normal ?_ | refine WC.skip ?_ | refine WC.ret ?_ | refine WN.then_ret ?_))
    refine WN.ret1S rfl rfl ⟨rfl, os, fs.set k ⟨q2.1, q2.2, x⟩, Is.set k true, [.row q2.1 q2.2 5 1 (bs x)], rfl, hok ⟨q2.1, q2.2, x⟩, fun y hy => ?_⟩ ?_
    · rcases List.mem_append.1 hy with h | h
      · exact .inl (List.mem_append_left _ h)
      · rcases List.mem_or_eq_of_mem_set h with h | rfl
        · exact .inl (List.mem_append_right _ h)
        · exact .inr (.inr ⟨by simp only; omega, _, .head _⟩)
    · simp only [rbI, hiad, hfad, List.length_set, List.cons_append, List.nil_append]
      exact (by repeat (first | exact Part.nil | refine Part.cons (by repeat (first | exact Pick.here | apply Pick.there)) ?_ | refine Part.free ?_))
  · rw [writeF, if_neg (fun h => h128 h.2), writeE, if_pos hc, if_neg h128]
    (repeat (first | (refine WL.k_move ?_; first | refine WL.step (Yl.move rfl) rfl ?_) | (refine WL.k_assign ?_; first | refine WL.step (Yl.assign rfl) rfl ?_) | (refine WL.k_call 46 ?_; first | refine WL.callV (g := 46) (v := .int .i64 0) Try.call46 rfl (fun w0 st => by have := rcheck_c (k : Int) w0 (hat st); rw [hc] at this; exact this) rfl ?_) | (refine WL.k_bin .neq ?_; first | refine WL.step (Yl.neqF rfl rfl rfl) rfl ?_ | refine WL.step (Yl.strNeq rfl rfl) rfl ?_ | refine WL.step (Yl.neq rfl rfl) rfl ?_) | (refine WL.k_bi .len ?_; first | refine WL.step (Yl.len (t := 22) Try.underlying22 rfl) rfl ?_) | refine WC.seq ?_ | refine WC.region ?_ | refine WL.nil ?_ | refine WN.then_normal ?_ | refine WC.skip ?_ | refine WC.ret ?_ | refine WN.then_ret ?_))
    refine WC.cond_false rfl rfl ?_
    (repeat (first | (refine WL.k_move ?_; first | refine WL.step (Yl.move rfl) rfl ?_) | (refine WL.k_assign ?_; first | refine WL.step (Yl.assign rfl) rfl ?_) | (refine WL.k_bi .len ?_; first | refine WL.step (Yl.len (t := 22) Try.underlying22 rfl) rfl ?_) | (refine WL.k_bin .neq ?_; first | refine WL.step (Yl.neqT rfl rfl (by omega)) rfl ?_ | refine WL.step (Yl.strNeq rfl rfl) rfl ?_ | refine WL.step (Yl.neq rfl rfl) rfl ?_) | refine WC.seq ?_ | refine WC.region ?_ | refine WL.nil ?_ | refine WN.then_normal ?_ | refine WC.skip ?_ | refine WC.ret ?_ | refine WN.then_ret ?_))
    refine WC.cond_true rfl rfl ?_
    (repeat (first | (refine WL.k_move ?_; first | refine WL.step (Yl.move rfl) rfl ?_) | (refine WL.k_assign ?_; first | refine WL.step (Yl.assign rfl) rfl ?_) | (refine WL.k_bi .len ?_; first | refine WL.step (Yl.len (t := 22) Try.underlying22 rfl) rfl ?_) | (refine WL.k_bin .neq ?_; first | refine WL.step (Yl.strNeq rfl rfl) rfl ?_ | refine WL.step (Yl.neq rfl rfl) rfl ?_) | refine WC.seq ?_ | refine WC.region ?_ | refine WL.nil ?_ | refine WN.then_normal ?_ | refine WC.skip ?_ | refine WC.ret ?_ | refine WN.then_ret ?_))
    exact WN.ret1S rfl rfl ⟨rfl, os, fs, Is, [], (List.append_nil _).symm, ok, fun y hy => .inl hy⟩ (Part.refl _)
end
end Go.Proofs.Ytjijjohhmokmmaa
