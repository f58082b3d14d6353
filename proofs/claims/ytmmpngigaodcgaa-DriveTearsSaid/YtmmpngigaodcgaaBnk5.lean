/- What a crash keeps: the plain function; the least and the greatest of some numbers; copying into a row. -/
import Derived.Test.YtmmpngigaodcgaaBnk4
import Derived.Test.YtmmpngigaodcgaaRowEl
namespace Go.Proofs.Ytmmpngigaodcgaa
set_option linter.unusedVariables false
set_option linter.unusedSimpArgs false
open Go Go.RowKit
set_option maxRecDepth 100000
set_option maxHeartbeats 4000000
section
variable {X : Cx} {ops : Array Oper} {Q : Exit → Act → World → Prop} {rest : List Oper} {ρ : Env} {A B : List HA} {d : Tmp} {ty : TypeId} {ps : String} {af : Array Edge}
/-- 'copy' into an owned row. -/
theorem WL.copyRow {x y : Operand} {t e T' : TypeId} {dl dc sl sc cap k i : Nat} {a a2 : Option Addr} {vs us : List Value} (hu : X.P.underlying t = some (.slice e)) (hs : (X.P.info? e).map (fun i => i.size) = some 1)
    (hx : ev ρ x = some (.slice (el a i) dl dc)) (hy : ev ρ y = some (.slice a2 sl sc)) (hp : Pick (.row a cap T' k vs) A B) (hr : Rd X A a2 us) (hv : us.length = min sl dl) (hf : i + us.length ≤ vs.length) (hne : vs ≠ [])
    (h1 : ∀ u ∈ us, u.oneCell' = true) (hd : Nat.blt d X.n = true)
    (h : WL X ops Q rest ((d, .int .i64 ((us.length : Nat) : Int)) :: ρ) (.row a cap T' k (vs.take i ++ us ++ vs.drop (i + us.length)) :: B)) :
    WL X ops Q (⟨some d, .call { callee := .builtin .copy, args := #[x, y], argTypes := #[t, t] }, ty, ps, af, none⟩ :: rest) ρ A :=
  WL.step1 (fun o ho _ ac w f s => by
    have s1 := s.pick hp
    rcases s1.holds _ (.head _) with ⟨_, hz⟩ | ⟨b, cs, rfl, hb, hsz, hcm, hvl, htk⟩
    · exact absurd hz hne
    · have ea : (⟨b, 0, none⟩ : Addr).add i = ⟨b, i, none⟩ := by unfold Addr.add; split <;> simp_all
      have hx' := f.ev hx
      simp only [el, Option.map_some, ea] at hx'
      have hc0 : cap ≠ 0 := by
        intro h0; rw [h0, Nat.zero_mul] at hsz
        exact hne (List.eq_nil_of_length_eq_zero (by omega))
      have fin : ∀ {v : Value} {w' : World}, (Builtin.copy_ #[t, t] o.type #[.slice (some ⟨b, i, none⟩) dl dc, .slice a2 sl sc]).run X.P w = .ok v w' → (execOp ac.eval o).run X.P w = .ok (.value v) w' := fun hr => by
        simp only [execOp, ho, resolve, invoke, builtin, Sem.run_bind, Sem.run_pure, Result.andThen_ok, List.map_toArray, List.map_cons, List.map_nil, hx', f.ev hy, hr]
      by_cases h0 : us = []
      · subst h0
        have hr := run_copy_none (P := X.P) w t t o.type e (some ⟨b, i, none⟩) a2 dl dc sl sc hu hs (by simpa using hv.symm)
        refine ⟨w, fin hr, ?_⟩
        simpa using s1
      · obtain ⟨ad, rfl⟩ := hr.some_ h0 s
        have hsrc : ∀ j v, us[j]? = some v → w.cell? (ad.add j) = some v := fun j v hj => by
          obtain ⟨ad2, h2, h3⟩ := hr.at_ hj s
          rw [el, Option.map_some] at h2
          rwa [← Option.some.inj h2] at h3
        have e3 := take_splice (l := cs.toList) hf (by simpa using hvl)
        rw [htk] at e3
        have hl2 : (vs.take i ++ us ++ vs.drop (i + us.length)).length = vs.length := by simp only [List.length_append, List.length_take, List.length_drop]; omega
        have hr := run_copy_row (P := X.P) w t t o.type e b i dl dc ad sl sc cs T' us hu hs hb hv hsrc (by omega) h1
        refine ⟨_, fin hr, s1.put (x := .row _ _ _ _ _) (y := .row (some ⟨b, 0, none⟩) cap T' k (vs.take i ++ us ++ vs.drop (i + us.length))) (by simp [HA.foot, hc0]) (by simp [HA.foot, hc0]) (Kept.setRow w b _)
          (.inr ⟨b, _, rfl, setRow_heap w b cs _ T' _ hb, ?_, hcm, ?_, ?_⟩)⟩
        · rw [List.size_toArray, ← hsz]; simp only [List.length_append, List.length_take, List.length_drop, Array.length_toList]; omega
        · rw [hl2, List.size_toArray]; simp only [List.length_append, List.length_take, List.length_drop, Array.length_toList]; omega
        · rw [hl2]; exact e3) hd h
theorem Yl.max2 {x y : Operand} {ts : Array TypeId} {k : IntKind} {m n : Int} (hx : ev ρ x = some (.int k m)) (hy : ev ρ y = some (.int k n)) :
    Yl X (.call { callee := .builtin .max, args := #[x, y], argTypes := ts }) ty ρ A (.int k (if n > m then n else m)) := Yl.intro fun o ho _ a w f _ => by
  simp [execOp, ho, resolve, invoke, builtin, f.ev hx, f.ev hy, run_max_int2]
end
/-! ### The least and the greatest -/
def smin (m n : Int) : Int := if n < m then n else m
def smax (m n : Int) : Int := if n > m then n else m
def lminTo (L : List Int) (i : Nat) : Int := (L.take i).foldl smin (L.getD 0 0)
def lmaxTo (L : List Int) (i : Nat) : Int := (L.take i).foldl smax (L.getD 0 0)
theorem lminTo_succ {L : List Int} {i : Nat} (h : i < L.length) : lminTo L (i + 1) = smin (lminTo L i) (L.getD i 0) := by
  rw [lminTo, lminTo, List.take_add_one, List.foldl_append, show L[i]? = some (L.getD i 0) by simp [List.getD, h]]; rfl
theorem lmaxTo_succ {L : List Int} {i : Nat} (h : i < L.length) : lmaxTo L (i + 1) = smax (lmaxTo L i) (L.getD i 0) := by
  rw [lmaxTo, lmaxTo, List.take_add_one, List.foldl_append, show L[i]? = some (L.getD i 0) by simp [List.getD, h]]; rfl
theorem lminTo_one {L : List Int} (h : 0 < L.length) : lminTo L 1 = L.getD 0 0 := by
  rw [lminTo_succ h]; simp [lminTo, smin]
theorem lmaxTo_one {L : List Int} (h : 0 < L.length) : lmaxTo L 1 = L.getD 0 0 := by
  rw [lmaxTo_succ h]; simp [lmaxTo, smax]
theorem foldl_smin (l : List Int) : ∀ z : Int, (l.foldl smin z < 0 ↔ z < 0 ∨ ∃ k ∈ l, k < 0) := by
  induction l with
  | nil => intro z; simp
  | cons x l ih =>
    intro z
    rw [List.foldl_cons, ih]
    simp only [smin, List.mem_cons, exists_eq_or_imp]
    generalize (∃ k, k ∈ l ∧ k < 0) = p
    by_cases hp : p <;> simp only [hp, or_true, or_false] <;> split <;> omega
theorem foldl_smax (l : List Int) : ∀ z : Int, (128 < l.foldl smax z ↔ 128 < z ∨ ∃ k ∈ l, 128 < k) := by
  induction l with
  | nil => intro z; simp
  | cons x l ih =>
    intro z
    rw [List.foldl_cons, ih]
    simp only [smax, List.mem_cons, exists_eq_or_imp]
    generalize (∃ k, k ∈ l ∧ 128 < k) = p
    by_cases hp : p <;> simp only [hp, or_true, or_false] <;> split <;> omega
theorem lmin_neg {L : List Int} (h : 0 < L.length) : lminTo L L.length < 0 ↔ ∃ k ∈ L, k < 0 := by
  rw [lminTo, List.take_length, foldl_smin]
  exact ⟨fun h2 => h2.elim (fun h3 => ⟨_, List.mem_of_getElem? (by simp [List.getD, h] : L[0]? = some (L.getD 0 0)), h3⟩) id, .inr⟩
theorem lmax_big {L : List Int} (h : 0 < L.length) : 128 < lmaxTo L L.length ↔ ∃ k ∈ L, 128 < k := by
  rw [lmaxTo, List.take_length, foldl_smax]
  exact ⟨fun h2 => h2.elim (fun h3 => ⟨_, List.mem_of_getElem? (by simp [List.getD, h] : L[0]? = some (L.getD 0 0)), h3⟩) id, .inr⟩
/-! ### A crash -/
def keepOk (K : List Int) : Prop := K ≠ [] ∧ ∀ k ∈ K, 0 ≤ k ∧ k ≤ 128
instance (K : List Int) : Decidable (keepOk K) := inferInstanceAs (Decidable (_ ∧ _))
abbrev BSt := List (List UInt8) × (Nat → Option (List UInt8))
def keepAt (K : List Int) (i : Nat) : Nat := (K.getD (i % K.length) 0).toNat
def cstep (K : List Int) (s : BSt) (i x : Nat) : BSt :=
  (s.1.set x (((s.2 x).getD zblk).take (keepAt K i) ++ (s.1.getD x []).drop (keepAt K i)), setF s.2 x none)
def cfold (K : List Int) (s : BSt) (pre : List Nat) : BSt := (pre.zipIdx).foldl (fun s p => cstep K s p.2 p.1) s
theorem cfold_snoc (K : List Int) (s : BSt) (pre : List Nat) (x : Nat) : cfold K s (pre ++ [x]) = cstep K (cfold K s pre) pre.length x := by
  simp [cfold, List.zipIdx_append]
theorem cstep_len (K : List Int) (s : BSt) (i x : Nat) : (cstep K s i x).1.length = s.1.length := List.length_set
theorem cstep_wf {K : List Int} {s : BSt} {i x : Nat} (h : BkWf s.1 s.2) (hx : x < s.1.length) (hk : keepAt K i ≤ 128) : BkWf (cstep K s i x).1 (cstep K s i x).2 := by
  refine ⟨by rw [cstep_len]; exact h.pos, by rw [cstep_len]; exact h.le, fun y hy => ?_, fun k v hv => ?_⟩
  · rcases List.mem_or_eq_of_mem_set hy with hy | rfl
    · exact h.len y hy
    · have h1 := h.len _ (blk_mem hx)
      have h2 : ((s.2 x).getD zblk).length = 128 := by
        cases e : s.2 x with
        | none => rfl
        | some u => exact h.val x u e
      rw [List.length_append, List.length_take, List.length_drop]; omega
  · simp only [cstep, setF] at hv
    split at hv
    · cases hv
    · exact h.val k v hv
def crashR (K : List Int) (d : List (List UInt8)) (F : Nat → Option (List UInt8)) : BSt × Nat := if keepOk K then (cfold K (d, F) (dirtyOf d.length F), 0) else ((d, F), 2)
theorem keepAt_le {K : List Int} (h : keepOk K) (i : Nat) : keepAt K i ≤ 128 ∧ (keepAt K i : Int) = K.getD (i % K.length) 0 := by
  have hp : 0 < K.length := by rcases K with _ | ⟨k, K⟩; exact absurd rfl h.1; simp
  have hm : i % K.length < K.length := Nat.mod_lt _ hp
  have := h.2 _ (List.mem_of_getElem? (by simp [List.getD, hm] : K[i % K.length]? = some (K.getD (i % K.length) 0)))
  unfold keepAt; omega
attribute [local irreducible] WL WC WN Yl WH WQ WT WE WU WG Post
theorem min_c (a : Option Addr) (n cap : Nat) (L : List Int) (w : World) (hl : L.length = n) (h0 : 0 < n) (hn : n ≤ 9223372036854775807) (hr : CellsAt w a (zcells L)) :
    Calls Try.prog 53 #[.slice a n cap] w (Gives (Val (.int .i64 (lminTo L n))) w) := by
  have hz : 0 < L.length := by omega
  refine enter (args := [_]) Try.func53 Try.ntmps53 rfl rfl ?_
  (repeat (first | (refine WL.k_move ?_; first | refine WL.step (Yl.move rfl) rfl ?_) | (refine WL.k_assign ?_; first | refine WL.step (Yl.assign rfl) rfl ?_) | (refine WL.k_bi .len ?_; first | refine WL.step (Yl.len (t := 22) Try.underlying22 rfl) rfl ?_ | refine WL.step (Yl.len (t := 30) Try.underlying30 rfl) rfl ?_) | (refine WL.k_bin .lss ?_; first | refine WL.step (Yl.lssF rfl rfl (by omega)) rfl ?_ | refine WL.step (Yl.lss rfl rfl) rfl ?_) | (refine WL.k_bin .add ?_; first | refine WL.step (Yl.add64C rfl (by omega)) rfl ?_ | refine WL.step (Yl.addC64 rfl (by omega)) rfl ?_ | refine WL.step (Yl.add64N rfl rfl (by omega)) rfl ?_ | refine WL.step (Yl.add64 rfl rfl (by omega)) rfl ?_) | refine WC.seq ?_ | refine WC.region ?_ | refine WL.nil ?_ | refine WN.then_normal ?_ | refine WC.block ?_ | refine WC.skip ?_ | refine WC.exit ?_ | refine WC.ret ?_ | refine WN.then_exit ?_ | refine WN.then_ret ?_ | refine WN.block_normal ?_ | refine WN.block_ret ?_ | refine WN.block_here ?_ | refine WN.block_past (by decide) ?_))
  refine WC.cond_false rfl rfl ?_
  (repeat (first | (refine WL.k_move ?_; first | refine WL.step (Yl.move rfl) rfl ?_) | (refine WL.k_assign ?_; first | refine WL.step (Yl.assign rfl) rfl ?_) | (refine WL.k_load ?_; first | refine WL.step (Yl.load (T := 3) Try.isAgg3 rfl (.old hr) (zcells_at hz)) rfl ?_) | (refine WL.k_idxa ?_; first | refine WL.step (Yl.indexAddr1 (t := 22) (j := 0) Try.underlying22 Try.sizeOf3 rfl rfl (.old hr) (zcells_ne hz) h0) rfl ?_) | (refine WL.k_bi .len ?_; first | refine WL.step (Yl.len (t := 30) Try.underlying30 rfl) rfl ?_) | (refine WL.k_bin .lss ?_; first | refine WL.step (Yl.lss rfl rfl) rfl ?_) | (refine WL.k_bin .add ?_; first | refine WL.step (Yl.add64C rfl (by omega)) rfl ?_ | refine WL.step (Yl.addC64 rfl (by omega)) rfl ?_ | refine WL.step (Yl.add64N rfl rfl (by omega)) rfl ?_ | refine WL.step (Yl.add64 rfl rfl (by omega)) rfl ?_) | refine WC.seq ?_ | refine WC.region ?_ | refine WL.nil ?_ | refine WN.then_normal ?_ | refine WC.block ?_ | refine WC.skip ?_ | refine WC.exit ?_ | refine WC.ret ?_ | refine WN.then_exit ?_ | refine WN.then_ret ?_ | refine WN.block_normal ?_ | refine WN.block_ret ?_ | refine WN.block_here ?_ | refine WN.block_past (by decide) ?_))
  rw [← lminTo_one hz]
  refine WC.loop (α := Nat) (fun i => [(0, .slice a n cap), (3, .int .i64 (lminTo L i)), (4, .int .i64 (i : Int))]) (fun _ => []) (fun i => 1 ≤ i ∧ i ≤ n) (fun i => n - i) 1 (by repeat (first | exact Sub.nil | refine Sub.cons rfl rfl ?_)) .nil ⟨by omega, by omega⟩ ?_
  intro i ⟨h1, hi⟩
  (repeat (first | (refine WL.k_move ?_; first | refine WL.step (Yl.move rfl) rfl ?_) | (refine WL.k_assign ?_; first | refine WL.step (Yl.assign rfl) rfl ?_) | (refine WL.k_bi .len ?_; first | refine WL.step (Yl.len (t := 22) Try.underlying22 rfl) rfl ?_ | refine WL.step (Yl.len (t := 30) Try.underlying30 rfl) rfl ?_) | (refine WL.k_bin .lss ?_; first | refine WL.step (Yl.lss rfl rfl) rfl ?_) | (refine WL.k_bin .add ?_; first | refine WL.step (Yl.add64C rfl (by omega)) rfl ?_ | refine WL.step (Yl.addC64 rfl (by omega)) rfl ?_ | refine WL.step (Yl.add64N rfl rfl (by omega)) rfl ?_ | refine WL.step (Yl.add64 rfl rfl (by omega)) rfl ?_) | refine WC.seq ?_ | refine WC.region ?_ | refine WL.nil ?_ | refine WN.then_normal ?_ | refine WC.block ?_ | refine WC.skip ?_ | refine WC.exit ?_ | refine WC.ret ?_ | refine WN.then_exit ?_ | refine WN.then_ret ?_ | refine WN.block_normal ?_ | refine WN.block_ret ?_ | refine WN.block_here ?_ | refine WN.block_past (by decide) ?_))
  refine WC.ite rfl (fun h2 => ?_) (fun h2 => ?_)
  · have hil : i < L.length := by omega
    (repeat (first | (refine WL.k_move ?_; first | refine WL.step (Yl.move rfl) rfl ?_) | (refine WL.k_assign ?_; first | refine WL.step (Yl.assign rfl) rfl ?_) | (refine WL.k_load ?_; first | refine WL.step (Yl.load (T := 3) Try.isAgg3 rfl (.old hr) (zcells_at hil)) rfl ?_) | (refine WL.k_idxa ?_; first | refine WL.step (Yl.indexAddr1 (t := 22) (j := i) Try.underlying22 Try.sizeOf3 rfl rfl (.old hr) (zcells_ne hil) (by omega)) rfl ?_) | (refine WL.k_bi .min ?_; first | refine WL.step (Yl.min2 rfl rfl) rfl ?_) | (refine WL.k_bi .len ?_; first | refine WL.step (Yl.len (t := 30) Try.underlying30 rfl) rfl ?_) | (refine WL.k_bin .lss ?_; first | refine WL.step (Yl.lss rfl rfl) rfl ?_) | (refine WL.k_bin .add ?_; first | refine WL.step (Yl.add64C rfl (by omega)) rfl ?_ | refine WL.step (Yl.addC64 rfl (by omega)) rfl ?_ | refine WL.step (Yl.add64N rfl rfl (by omega)) rfl ?_ | refine WL.step (Yl.add64 rfl rfl (by omega)) rfl ?_) | refine WC.seq ?_ | refine WC.region ?_ | refine WL.nil ?_ | refine WN.then_normal ?_ | refine WC.block ?_ | refine WC.skip ?_ | refine WC.exit ?_ | refine WC.ret ?_ | refine WN.then_exit ?_ | refine WN.then_ret ?_ | refine WN.block_normal ?_ | refine WN.block_ret ?_ | refine WN.block_here ?_ | refine WN.block_past (by decide) ?_))
    exact WN.next (i + 1) ⟨by omega, by omega⟩ (by omega) (by rw [lminTo_succ hil]; exact (by repeat (first | exact Sub.nil | refine Sub.cons rfl rfl ?_))) .nil
  · obtain rfl : i = n := by omega
    (repeat (first | (refine WL.k_move ?_; first | refine WL.step (Yl.move rfl) rfl ?_) | (refine WL.k_assign ?_; first | refine WL.step (Yl.assign rfl) rfl ?_) | (refine WL.k_bi .len ?_; first | refine WL.step (Yl.len (t := 30) Try.underlying30 rfl) rfl ?_) | (refine WL.k_bin .lss ?_; first | refine WL.step (Yl.lss rfl rfl) rfl ?_) | (refine WL.k_bin .add ?_; first | refine WL.step (Yl.add64C rfl (by omega)) rfl ?_ | refine WL.step (Yl.addC64 rfl (by omega)) rfl ?_ | refine WL.step (Yl.add64N rfl rfl (by omega)) rfl ?_ | refine WL.step (Yl.add64 rfl rfl (by omega)) rfl ?_) | refine WC.seq ?_ | refine WC.region ?_ | refine WL.nil ?_ | refine WN.then_normal ?_ | refine WC.block ?_ | refine WC.skip ?_ | refine WC.exit ?_ | refine WC.ret ?_ | refine WN.then_exit ?_ | refine WN.then_ret ?_ | refine WN.block_normal ?_ | refine WN.block_ret ?_ | refine WN.block_here ?_ | refine WN.block_past (by decide) ?_))
    exact WN.ret1 rfl rfl ⟨rfl, rfl⟩ .nil
theorem max_c (a : Option Addr) (n cap : Nat) (L : List Int) (w : World) (hl : L.length = n) (h0 : 0 < n) (hn : n ≤ 9223372036854775807) (hr : CellsAt w a (zcells L)) :
    Calls Try.prog 54 #[.slice a n cap] w (Gives (Val (.int .i64 (lmaxTo L n))) w) := by
  have hz : 0 < L.length := by omega
  refine enter (args := [_]) Try.func54 Try.ntmps54 rfl rfl ?_
  (repeat (first | (refine WL.k_move ?_; first | refine WL.step (Yl.move rfl) rfl ?_) | (refine WL.k_assign ?_; first | refine WL.step (Yl.assign rfl) rfl ?_) | (refine WL.k_bi .len ?_; first | refine WL.step (Yl.len (t := 22) Try.underlying22 rfl) rfl ?_ | refine WL.step (Yl.len (t := 30) Try.underlying30 rfl) rfl ?_) | (refine WL.k_bin .lss ?_; first | refine WL.step (Yl.lssF rfl rfl (by omega)) rfl ?_ | refine WL.step (Yl.lss rfl rfl) rfl ?_) | (refine WL.k_bin .add ?_; first | refine WL.step (Yl.add64C rfl (by omega)) rfl ?_ | refine WL.step (Yl.addC64 rfl (by omega)) rfl ?_ | refine WL.step (Yl.add64N rfl rfl (by omega)) rfl ?_ | refine WL.step (Yl.add64 rfl rfl (by omega)) rfl ?_) | refine WC.seq ?_ | refine WC.region ?_ | refine WL.nil ?_ | refine WN.then_normal ?_ | refine WC.block ?_ | refine WC.skip ?_ | refine WC.exit ?_ | refine WC.ret ?_ | refine WN.then_exit ?_ | refine WN.then_ret ?_ | refine WN.block_normal ?_ | refine WN.block_ret ?_ | refine WN.block_here ?_ | refine WN.block_past (by decide) ?_))
  refine WC.cond_false rfl rfl ?_
  (repeat (first | (refine WL.k_move ?_; first | refine WL.step (Yl.move rfl) rfl ?_) | (refine WL.k_assign ?_; first | refine WL.step (Yl.assign rfl) rfl ?_) | (refine WL.k_load ?_; first | refine WL.step (Yl.load (T := 3) Try.isAgg3 rfl (.old hr) (zcells_at hz)) rfl ?_) | (refine WL.k_idxa ?_; first | refine WL.step (Yl.indexAddr1 (t := 22) (j := 0) Try.underlying22 Try.sizeOf3 rfl rfl (.old hr) (zcells_ne hz) h0) rfl ?_) | (refine WL.k_bi .len ?_; first | refine WL.step (Yl.len (t := 30) Try.underlying30 rfl) rfl ?_) | (refine WL.k_bin .lss ?_; first | refine WL.step (Yl.lss rfl rfl) rfl ?_) | (refine WL.k_bin .add ?_; first | refine WL.step (Yl.add64C rfl (by omega)) rfl ?_ | refine WL.step (Yl.addC64 rfl (by omega)) rfl ?_ | refine WL.step (Yl.add64N rfl rfl (by omega)) rfl ?_ | refine WL.step (Yl.add64 rfl rfl (by omega)) rfl ?_) | refine WC.seq ?_ | refine WC.region ?_ | refine WL.nil ?_ | refine WN.then_normal ?_ | refine WC.block ?_ | refine WC.skip ?_ | refine WC.exit ?_ | refine WC.ret ?_ | refine WN.then_exit ?_ | refine WN.then_ret ?_ | refine WN.block_normal ?_ | refine WN.block_ret ?_ | refine WN.block_here ?_ | refine WN.block_past (by decide) ?_))
  rw [← lmaxTo_one hz]
  refine WC.loop (α := Nat) (fun i => [(0, .slice a n cap), (3, .int .i64 (lmaxTo L i)), (4, .int .i64 (i : Int))]) (fun _ => []) (fun i => 1 ≤ i ∧ i ≤ n) (fun i => n - i) 1 (by repeat (first | exact Sub.nil | refine Sub.cons rfl rfl ?_)) .nil ⟨by omega, by omega⟩ ?_
  intro i ⟨h1, hi⟩
  (repeat (first | (refine WL.k_move ?_; first | refine WL.step (Yl.move rfl) rfl ?_) | (refine WL.k_assign ?_; first | refine WL.step (Yl.assign rfl) rfl ?_) | (refine WL.k_bi .len ?_; first | refine WL.step (Yl.len (t := 22) Try.underlying22 rfl) rfl ?_ | refine WL.step (Yl.len (t := 30) Try.underlying30 rfl) rfl ?_) | (refine WL.k_bin .lss ?_; first | refine WL.step (Yl.lss rfl rfl) rfl ?_) | (refine WL.k_bin .add ?_; first | refine WL.step (Yl.add64C rfl (by omega)) rfl ?_ | refine WL.step (Yl.addC64 rfl (by omega)) rfl ?_ | refine WL.step (Yl.add64N rfl rfl (by omega)) rfl ?_ | refine WL.step (Yl.add64 rfl rfl (by omega)) rfl ?_) | refine WC.seq ?_ | refine WC.region ?_ | refine WL.nil ?_ | refine WN.then_normal ?_ | refine WC.block ?_ | refine WC.skip ?_ | refine WC.exit ?_ | refine WC.ret ?_ | refine WN.then_exit ?_ | refine WN.then_ret ?_ | refine WN.block_normal ?_ | refine WN.block_ret ?_ | refine WN.block_here ?_ | refine WN.block_past (by decide) ?_))
  refine WC.ite rfl (fun h2 => ?_) (fun h2 => ?_)
  · have hil : i < L.length := by omega
    (repeat (first | (refine WL.k_move ?_; first | refine WL.step (Yl.move rfl) rfl ?_) | (refine WL.k_assign ?_; first | refine WL.step (Yl.assign rfl) rfl ?_) | (refine WL.k_load ?_; first | refine WL.step (Yl.load (T := 3) Try.isAgg3 rfl (.old hr) (zcells_at hil)) rfl ?_) | (refine WL.k_idxa ?_; first | refine WL.step (Yl.indexAddr1 (t := 22) (j := i) Try.underlying22 Try.sizeOf3 rfl rfl (.old hr) (zcells_ne hil) (by omega)) rfl ?_) | (refine WL.k_bi .max ?_; first | refine WL.step (Yl.max2 rfl rfl) rfl ?_) | (refine WL.k_bi .len ?_; first | refine WL.step (Yl.len (t := 30) Try.underlying30 rfl) rfl ?_) | (refine WL.k_bin .lss ?_; first | refine WL.step (Yl.lss rfl rfl) rfl ?_) | (refine WL.k_bin .add ?_; first | refine WL.step (Yl.add64C rfl (by omega)) rfl ?_ | refine WL.step (Yl.addC64 rfl (by omega)) rfl ?_ | refine WL.step (Yl.add64N rfl rfl (by omega)) rfl ?_ | refine WL.step (Yl.add64 rfl rfl (by omega)) rfl ?_) | refine WC.seq ?_ | refine WC.region ?_ | refine WL.nil ?_ | refine WN.then_normal ?_ | refine WC.block ?_ | refine WC.skip ?_ | refine WC.exit ?_ | refine WC.ret ?_ | refine WN.then_exit ?_ | refine WN.then_ret ?_ | refine WN.block_normal ?_ | refine WN.block_ret ?_ | refine WN.block_here ?_ | refine WN.block_past (by decide) ?_))
    exact WN.next (i + 1) ⟨by omega, by omega⟩ (by omega) (by rw [lmaxTo_succ hil]; exact (by repeat (first | exact Sub.nil | refine Sub.cons rfl rfl ?_))) .nil
  · obtain rfl : i = n := by omega
    (repeat (first | (refine WL.k_move ?_; first | refine WL.step (Yl.move rfl) rfl ?_) | (refine WL.k_assign ?_; first | refine WL.step (Yl.assign rfl) rfl ?_) | (refine WL.k_bi .len ?_; first | refine WL.step (Yl.len (t := 30) Try.underlying30 rfl) rfl ?_) | (refine WL.k_bin .lss ?_; first | refine WL.step (Yl.lss rfl rfl) rfl ?_) | (refine WL.k_bin .add ?_; first | refine WL.step (Yl.add64C rfl (by omega)) rfl ?_ | refine WL.step (Yl.addC64 rfl (by omega)) rfl ?_ | refine WL.step (Yl.add64N rfl rfl (by omega)) rfl ?_ | refine WL.step (Yl.add64 rfl rfl (by omega)) rfl ?_) | refine WC.seq ?_ | refine WC.region ?_ | refine WL.nil ?_ | refine WN.then_normal ?_ | refine WC.block ?_ | refine WC.skip ?_ | refine WC.exit ?_ | refine WC.ret ?_ | refine WN.then_exit ?_ | refine WN.then_ret ?_ | refine WN.block_normal ?_ | refine WN.block_ret ?_ | refine WN.block_here ?_ | refine WN.block_past (by decide) ?_))
    exact WN.ret1 rfl rfl ⟨rfl, rfl⟩ .nil
end Go.Proofs.Ytmmpngigaodcgaa
