import Derived.Test.YtmmpngigaodcgaaGreatRowDrivePlaysMg4
import Derived.ChangeKeysEq
import Derived.Laws.Pointers
import Derived.Lib.AppendZerosOnto
/- Calls that alter memory of the caller's; fields and elements of several cells; arrays and structs held against each other. -/
namespace Go.Proofs.YtmmpngigaodcgaaGreat
set_option linter.unusedVariables false
set_option linter.unusedSimpArgs false
open Go Go.RowKit
section
variable {X : Cx} {ops : Array Oper} {Q : Exit → Act → World → Prop} {ρ : Env} {A B C : List HA} {rest : List Oper} {d : Tmp} {op : Op} {ty : TypeId} {ps : String} {af : Array Edge} {v : Value}

/-! ### Fields by number and offset; elements of several cells -/
def fieldB (P : Program) (t : TypeId) (i o : Nat) : Bool := match P.underlying t with
  | some (.struct fs) => (fs[i]?).any fun f => Nat.beq f.offset o && ((P.info? f.type).map (fun j => Nat.blt 0 j.size) == some true)
  | _ => false
theorem field_of {P : Program} {t : TypeId} {i o : Nat} (h : fieldB P t i o = true) : ∃ fs fd k, P.underlying t = some (.struct fs) ∧ fs[i]? = some fd ∧ fd.offset = o ∧ ∀ w, (sizeOf fd.type).run P w = .ok (k + 1) w := by
  unfold fieldB at h
  split at h
  · rename_i fs hu
    cases hq : fs[i]? with
    | none => simp [hq] at h
    | some fd =>
      simp only [hq, Option.any_some, Bool.and_eq_true] at h
      cases hi : P.info? fd.type with
      | none => simp [hi] at h
      | some j =>
        have h2 : Nat.blt 0 j.size = true := by simpa [hi] using h.2
        have h3 : 0 < j.size := blt_lt h2
        exact ⟨fs, fd, j.size - 1, hu, hq, Nat.eq_of_beq_eq_true h.1, sized (by rw [hi, Option.map_some]; congr 1; omega)⟩
  · cases h
theorem Yl.fldN {x : Operand} {t : TypeId} {i o b off : Nat} (hf : fieldB X.P t i o = true) (hx : ev ρ x = some (.pointer (some ⟨b, off, none⟩))) : Yl X (.fieldAddr t x i) ty ρ A (.pointer (some ⟨b, off + o, none⟩)) := by
  obtain ⟨fs, fd, k, hu, hq, rfl, hs⟩ := field_of hf
  exact Yl.fieldAt hu hq hs hx
theorem Yl.fldN0 {x : Operand} {t : TypeId} {i o b : Nat} (hf : fieldB X.P t i o = true) (hx : ev ρ x = some (.pointer (some ⟨b, 0, none⟩))) : Yl X (.fieldAddr t x i) ty ρ A (.pointer (some ⟨b, o, none⟩)) := by
  have := Yl.fldN (ty := ty) (A := A) hf hx
  rwa [Nat.zero_add] at this
theorem el_add (a : Option Addr) (i j : Nat) : el (el a i) j = el a (i + j) := by
  cases a with
  | none => rfl
  | some ad =>
    simp only [el, Option.map_some, Addr.add]
    by_cases h1 : i = 0
    · subst h1; simp
    · by_cases h2 : j = 0
      · subst h2; simp
      · rw [if_neg h1, if_neg h2, if_neg (by omega)]; simp [Nat.add_assoc]
theorem Yl.fldEl {x : Operand} {t : TypeId} {i o off : Nat} {a : Option Addr} {vs : List Value} (hf : fieldB X.P t i o = true) (hr : Rd X A a vs) (hv : vs ≠ []) (hx : ev ρ x = some (.pointer (el a off))) : Yl X (.fieldAddr t x i) ty ρ A (.pointer (el a (off + o))) := Yl.intro fun q ho _ ac w f s => by
  obtain ⟨ad, rfl⟩ := hr.some_ hv s
  obtain ⟨fs, fd, k, hu, hq, rfl, hs⟩ := field_of hf
  rw [← el_add]
  have hx' := f.ev hx
  simp only [el, Option.map_some] at hx' ⊢
  simp [execOp, ho, hx', Instr.fieldAt, run_underlying hu, hq, Instr.sureAddr, fieldPlace, hs]
theorem Yl.arrEl {x : Operand} {t e : TypeId} {n k off : Nat} {a : Option Addr} {vs : List Value} (hu : X.P.underlying t = some (.array n e)) (hs : ∀ w, (sizeOf e).run X.P w = .ok k w) (hr : Rd X A a vs) (hv : vs ≠ []) (hx : ev ρ x = some (.pointer (el a off))) :
    Yl X (.slice t x none none none) ty ρ A (.slice (el a off) n n) := Yl.intro fun q ho _ ac w f s => by
  obtain ⟨ad, rfl⟩ := hr.some_ hv s
  have hx' := f.ev hx
  have e2 := el_add (some ad) off 0
  rw [Nat.add_zero] at e2
  simp only [el, Option.map_some] at hx' e2 ⊢
  simp [execOp, ho, hx', Instr.sliceAt, run_underlying hu, Instr.sureAddr, Instr.sliceBounds, hs, Option.some.inj e2]
/-- Cells behind an element. -/
theorem Rd.el_ {a : Option Addr} {vs us : List Value} (h : Rd X A a vs) (off : Nat) (hv : (vs.drop off).take us.length = us) : Rd X A (el a off) us := fun w s => by
  rcases h w s with h2 | ⟨b, o, rfl, h2⟩
  · subst h2
    have : us = [] := by simpa using hv.symm
    exact .inl this
  · refine .inr ⟨b, o + off, by simp [el, add_off], fun i v hi => ?_⟩
    rw [← hv, List.getElem?_take] at hi
    split at hi
    · rw [List.getElem?_drop] at hi
      rw [Nat.add_assoc]; exact h2 _ v hi
    · cases hi
theorem el_zero (a : Option Addr) : el a 0 = a := by cases a <;> simp [el, Addr.add]
/-- Several cells of a row are loaded as one value. -/
theorem Yl.loadEl {x : Operand} {T : TypeId} {k off : Nat} {a : Option Addr} {vs : List Value} (us : List Value) (hg : ∀ w, (isAgg T).run X.P w = .ok true w) (hk : ∀ w, (sizeOf T).run X.P w = .ok k w) (hx : ev ρ x = some (.pointer (el a off))) (hr : Rd X A a vs)
    (hl : us.length = k) (hne : us ≠ []) (hv : (vs.drop off).take us.length = us) : Yl X (.load T x) ty ρ A (.agg us.toArray) := Yl.intro fun o ho _ ac w f s => by
  have hr2 := hr.el_ off hv
  obtain ⟨ad, e⟩ := hr2.some_ hne s
  have hc : ∀ i u, us[i]? = some u → w.cell? (ad.add i) = some u := fun i u hu => by
    obtain ⟨ad2, h2, h3⟩ := hr2.at_ hu s
    rw [e] at h2
    simp only [el, Option.map_some] at h2
    rwa [← Option.some.inj h2] at h3
  have hl' := run_loadCells_list (P := X.P) w ad us hc
  rw [hl] at hl'
  have hx' := f.ev hx
  rw [e] at hx'
  simp [execOp, ho, hx', Instr.loadAt, Instr.sureAddr, loadVar, hg, hk, hl']

/-! ### Calls that alter memory of the caller's -/
def GivesS (S : List Nat) (R : Value → List HA → Prop) (w : World) (e : Ending) (w' : World) : Prop := ∃ v B, e = .returned v ∧ R v B ∧ St w S B w'
/-- Cells that lie outside of what may be altered. -/
def CellsOut (w : World) (S : List Nat) (a : Option Addr) (vs : List Value) : Prop := vs = [] ∨ ∃ b off, a = some ⟨b, off, none⟩ ∧ b ∉ S ∧ ∀ i v, vs[i]? = some v → w.cell? ⟨b, off + i, none⟩ = some v
theorem CellsOut.at_ {w : World} {S : List Nat} {a : Option Addr} {vs : List Value} (h : CellsOut w S a vs) : CellsAt w a vs := h.imp id fun ⟨b, off, h1, _, h2⟩ => ⟨b, off, h1, h2⟩
theorem CellsAt.out {w : World} {a : Option Addr} {vs : List Value} (h : CellsAt w a vs) : CellsOut w [] a vs := h.imp id fun ⟨b, off, h1, h2⟩ => ⟨b, off, h1, by simp, h2⟩
theorem CellsOut.pass {w0 w : World} {S S' : List Nat} {A : List HA} {a : Option Addr} {vs : List Value} (h : CellsOut w0 S a vs) (s : St w0 S A w) (hS : ∀ b ∈ S', ∃ x ∈ A, x.foot = some b) : CellsOut w S' a vs := by
  rcases h with h | ⟨b, off, rfl, hb, h⟩
  · exact .inl h
  · by_cases hv : vs = []
    · exact .inl hv
    · obtain ⟨u, hu⟩ : ∃ u, vs[0]? = some u := by cases vs with | nil => exact absurd rfl hv | cons u r => exact ⟨u, rfl⟩
      have hlt : b < w0.heap.size := World.block_lt_of_cell? w0 ⟨b, off + 0, none⟩ (h 0 u hu)
      refine .inr ⟨b, off, rfl, fun hb2 => ?_, fun i v hi => ?_⟩
      · obtain ⟨x, hx, hf⟩ := hS b hb2
        rcases s.mine x hx b hf with h2 | h2
        · exact hb h2
        · omega
      · rw [World.cell?_of_block (w := w0) (w' := w) (a := ⟨b, off + i, none⟩) (s.kept.block b hlt hb)]
        exact h i v hi
theorem Rd.out {P : Program} {n : Nat} {w0 : World} {S : List Nat} {A : List HA} {a : Option Addr} {vs : List Value} (h : CellsOut w0 S a vs) : Rd ⟨P, n, w0, S⟩ A a vs := fun _ s => (h.pass (S' := []) s (by simp)).at_
theorem St.lend {w0 w : World} {S : List Nat} {A0 : List HA} (h : St w0 S (A0 ++ A) w) : St w (A0.filterMap HA.foot) A0 w := by
  refine ⟨⟨rfl, rfl, rfl, Nat.le_refl _, fun _ _ _ => rfl⟩, fun x hx => h.holds x (List.mem_append_left _ hx), ?_, fun x hx b hb => .inl (List.mem_filterMap.2 ⟨x, hx, hb⟩)⟩
  have := h.apart
  rw [List.filterMap_append, List.nodup_append] at this
  exact this.1
theorem WL.callS {A0 : List HA} {R : Value → List HA → Prop} {g : FuncId} {xs : List Operand} {ts : Array TypeId} {vs : List Value} (he : ∀ args w, (callFunc g args).run X.P w = .ok (.enter g args) w) (hx : evs ρ xs = some vs) (hp : A.Perm (A0 ++ B))
    (hc : ∀ w, St X.w0 X.S A w → St w (A0.filterMap HA.foot) A0 w → Calls X.P g vs.toArray w (GivesS (A0.filterMap HA.foot) R w)) (hd : Nat.blt d X.n = true) (h : ∀ v C, R v C → WL X ops Q rest ((d, v) :: ρ) (C ++ B)) :
    WL X ops Q (⟨some d, .call { callee := .value (.func g), args := xs.toArray, argTypes := ts }, ty, ps, af, none⟩ :: rest) ρ A :=
  fun a w f s => wpList_plain rfl fun K hK => by
    unfold Oper.wp
    have e := evs_map f hx
    have hr : (execOp a.eval ⟨some d, .call { callee := .value (.func g), args := xs.toArray, argTypes := ts }, ty, ps, af, none⟩).run X.P w = .ok (.enter g vs.toArray) w := by
      simp [execOp, resolve, Deferred.ofValue, Act.eval, invoke, e, he]
    rw [hr]
    have s1 := s.perm hp
    exact (hc w s s1.lend).mono fun e w' hq => by
      obtain ⟨v, B, rfl, hR, hs⟩ := hq
      exact hK _ _ (h v B hR _ _ (f.put (blt_lt hd) v) (s1.join (fun b hb => by obtain ⟨x, hx, hf⟩ := List.mem_filterMap.1 hb; exact ⟨x, hx, hf⟩) hs))
/-- A call of a function value with what it is bound to. -/
theorem WL.callB {A0 : List HA} {R : Value → List HA → Prop} {g : FuncId} {x : Operand} {xs : List Operand} {ts : Array TypeId} {vs bd : List Value} (he : ∀ args w, (callFunc g args).run X.P w = .ok (.enter g args) w) (hf : ev ρ x = some (.func (.func g) bd.toArray #[])) (hx : evs ρ xs = some vs) (hp : A.Perm (A0 ++ B))
    (hc : ∀ w, St X.w0 X.S A w → St w (A0.filterMap HA.foot) A0 w → Calls X.P g (bd ++ vs).toArray w (GivesS (A0.filterMap HA.foot) R w)) (hd : Nat.blt d X.n = true) (h : ∀ v C, R v C → WL X ops Q rest ((d, v) :: ρ) (C ++ B)) :
    WL X ops Q (⟨some d, .call { callee := .value x, args := xs.toArray, argTypes := ts }, ty, ps, af, none⟩ :: rest) ρ A :=
  fun a w f s => wpList_plain rfl fun K hK => by
    unfold Oper.wp
    have e := evs_map f hx
    have e2 := f.ev hf
    have hr : (execOp a.eval ⟨some d, .call { callee := .value x, args := xs.toArray, argTypes := ts }, ty, ps, af, none⟩).run X.P w = .ok (.enter g (bd ++ vs).toArray) w := by
      simp [execOp, resolve, Deferred.ofValue, e2, invoke, e, he]
    rw [hr]
    have s1 := s.perm hp
    exact (hc w s s1.lend).mono fun e w' hq => by
      obtain ⟨v, B, rfl, hR, hs⟩ := hq
      exact hK _ _ (h v B hR _ _ (f.put (blt_lt hd) v) (s1.join (fun b hb => by obtain ⟨x, hx, hf⟩ := List.mem_filterMap.1 hb; exact ⟨x, hx, hf⟩) hs))
theorem Yl.bindFunc {g : FuncId} {xs : List Operand} {vs : List Value} (hx : evs ρ xs = some vs) : Yl X (.makeFunc (.func g) xs.toArray #[]) ty ρ A (.func (.func g) vs.toArray #[]) := Yl.intro fun o ho _ a w f _ => by
  have e := evs_map f hx
  simp [execOp, ho, Instr.makeFunc, e]
end
section
variable {X : Cx} {ops : Array Oper} {Q : Exit → Act → World → Prop} {ρ : Env} {A A0 : List HA} {d : Tmp} {op : Op} {ty : TypeId} {ps : String} {af : Array Edge} {fuel : Nat} {listed : Array Bool}
/-- In a drawn region: a guard on an operation that was passed by. -/
theorem WT.passU {i j t : Nat} {r : List Nat} {want : Bool} (hi : ops[i]? = some ⟨some d, op, ty, ps, af, some (j, want)⟩) (hj : (ops[j]?).bind (·.dst) = some t) (hv : lk ρ t = some undef)
    (hQ : ∀ c a w, Q (.panic c) (a.put (some d) undef) w → Q (.panic c) a w) (hd : Nat.blt d X.n = true) (hf : Region.free .any ops listed i = true) (hr : (Region.ready .any ops listed).contains i = true)
    (h : WT X A0 ops Q r fuel (listed.setIfInBounds i true) ((d, undef) :: ρ) A) : WT X A0 ops Q (i :: r) (fuel + 1) listed ρ A := fun ⟨hp, hs⟩ => ⟨fun a w f s => by
  have h1 := f.get t _ hv
  have h3 : yielded ops a.tmps j = none := by
    unfold yielded
    rw [hj]
    rw [Array.getD_eq_getD_getElem?] at h1
    cases h4 : a.tmps[t]? with
    | none => simp [h4]
    | some u => rw [h4] at h1; simp at h1; subst h1; simp [h4, undef]
  exact wpAnyH_take hi hs hf hr hQ (.inr ⟨by simp [Region.wanted, h3], rfl⟩) (s.part hp) ((h ⟨hp, hs⟩).1 _ _ (f.put (blt_lt hd) undef) s), rfl⟩
end
theorem enterS {P : Program} {g : FuncId} {fn : Func} {c : Code} {args : List Value} {w : World} {R : Ending → World → Prop} {n : Nat} {S : List Nat} {A : List HA} (hf : P.funcs[g]? = some fn) (hn : fn.ntmps = n) (hb : fn.body = some c) (hl : Nat.ble args.length n = true)
    (s : St w S A w) (h : WC ⟨P, n, w, S⟩ c (bodyPost P fn R) (argEnv 0 args) A) : Calls P g args.toArray w R := by
  have hle : args.length ≤ n := Nat.le_of_ble_eq_true hl
  refine calls_of_wp hf hb (h _ _ ⟨?_, rfl, fun t v ht => ?_⟩ s)
  · simp [hn]; omega
  · obtain ⟨j, hj, hv⟩ := lk_argEnv args 0 t v ht
    have hj' : t = j := by omega
    subst hj'
    have hlt : t < args.length := (List.getElem?_eq_some_iff.1 hv).1
    have h2 : args[t] = v := (List.getElem?_eq_some_iff.1 hv).2
    simp [Array.getD_eq_getD_getElem?, Array.getElem?_append, hlt, h2]
section
variable {P : Program} {fn : Func} {R : Value → List HA → Prop} {ρ : Env} {A B : List HA} {n : Nat} {w0 : World} {S : List Nat} {v : Value}
theorem WN.ret1S {t : Tmp} (hr : fn.results = #[.tmp t]) (hv : lk ρ t = some v) (hR : R v B) (hp : Part A B) : WN ⟨P, n, w0, S⟩ (bodyPost P fn (GivesS S R w0)) .ret ρ A :=
  fun a w f s => bodyPost_ret (results_tmp hr _ _ _) f.defers (by rw [f.get t v hv]; exact ⟨v, B, rfl, hR, s.part hp⟩)
theorem WN.end0S (hr : fn.results = #[]) (hR : R (.tuple #[]) B) (hp : Part A B) : WN ⟨P, n, w0, S⟩ (bodyPost P fn (GivesS S R w0)) .normal ρ A :=
  fun _ _ f s => bodyPost_end (results_none hr _ _ _) f.defers ⟨_, B, rfl, hR, s.part hp⟩
theorem WN.ret0S (hr : fn.results = #[]) (hR : R (.tuple #[]) B) (hp : Part A B) : WN ⟨P, n, w0, S⟩ (bodyPost P fn (GivesS S R w0)) .ret ρ A :=
  fun _ _ f s => bodyPost_ret (results_none hr _ _ _) f.defers ⟨_, B, rfl, hR, s.part hp⟩
theorem WN.ret1CS {t : Tmp} {T T' : TypeId} {b k : Nat} {us : Array Value} {fr : Nat × Nat} (hr : fn.results = #[.cell t T]) (hg : ∀ w, (isAgg T).run P w = .ok true w) (hk : ∀ w, (sizeOf T).run P w = .ok k w)
    (hv : lk ρ t = some (.pointer (some ⟨b, 0, none⟩))) (hm : HA.blk b (.cells us T' fr) ∈ A) (hl : us.size = k) (hR : R (.agg us) B) (hp : Part A B) :
    WN ⟨P, n, w0, S⟩ (bodyPost P fn (GivesS S R w0)) .ret ρ A :=
  fun a w f s => by
    have hc := cell_run hg hk hm (by rw [hl]; exact Nat.beq_refl k) s
    have h1 := f.get t _ hv
    refine bodyPost_ret (v := .agg us) ?_ f.defers ⟨_, B, rfl, hR, s.part hp⟩
    rw [Array.getD_eq_getD_getElem?] at h1
    simp [results, hr, h1, asAddr, hc]
end

/-! ### Integers of several cells held against each other -/
section
variable {P : Program} (w : World)
theorem run_eqItems_bytes (dp : Nat) {e : TypeId} (hu : P.underlying e = some (.int .u8)) (l m : List UInt8) : ∀ is : List Nat, (∀ i ∈ is, i < l.length ∧ i < m.length) →
    (Op.eqItems (dp + 1) e 1 (bs l).toArray (bs m).toArray is).run P w = .ok (is.all fun i => l.getD i 0 == m.getD i 0) w
  | [], _ => by simp [Op.eqItems]
  | i :: is, h => by
    obtain ⟨h1, h2⟩ := h i (.head _)
    have ih := run_eqItems_bytes dp hu l m is fun j hj => h j (.tail _ hj)
    have p1 : (part e (bs l).toArray (i * 1)).run P w = .ok (bv (l.getD i 0)) w := by
      have := bs_get h1
      simp [part, isAgg, run_underlying hu, this]
    have p2 : (part e (bs m).toArray (i * 1)).run P w = .ok (bv (m.getD i 0)) w := by
      have := bs_get h2
      simp [part, isAgg, run_underlying hu, this]
    have p3 : (Op.equalIn (dp + 1) e (bv (l.getD i 0)) (bv (m.getD i 0))).run P w = .ok (l.getD i 0 == m.getD i 0) w := by
      have := run_equalIn_int (P := P) w dp e .u8 .u8 ((l.getD i 0).toNat : Int) ((m.getD i 0).toNat : Int) hu
      rw [bv, bv, this]
      congr 1
      rw [Bool.eq_iff_iff]; simp only [beq_iff_eq, Int.natCast_inj, UInt8.toNat_inj]
    simp only [Op.eqItems, Sem.run_bind, p1, p2, p3, Result.andThen_ok, List.all_cons]
    cases hb : (l.getD i 0 == m.getD i 0) with
    | false => simp
    | true => simpa using ih
theorem all_getD {l m : List UInt8} {n : Nat} (hl : l.length = n) (hm : m.length = n) : ((List.range n).all fun i => l.getD i 0 == m.getD i 0) = decide (l = m) := by
  rw [Bool.eq_iff_iff, List.all_eq_true, decide_eq_true_iff]
  constructor
  · intro h
    refine List.ext_getElem (by omega) fun i h1 h2 => ?_
    have := h i (List.mem_range.2 (by omega))
    simpa [List.getD, h1, h2] using this
  · rintro rfl; simp
theorem run_equalIn_bytes (dp : Nat) {t e : TypeId} {n : Nat} {i : TypeInfo} (hu : P.underlying t = some (.array n e)) (he : P.underlying e = some (.int .u8)) (hi : P.info? e = some i) (hs : i.size = 1) {l m : List UInt8} (hl : l.length = n) (hm : m.length = n) :
    (Op.equalIn (dp + 2) t (.agg (bs l).toArray) (.agg (bs m).toArray)).run P w = .ok (decide (l = m)) w := by
  have hc : P.cellsOf e = 1 := by simp [Program.cellsOf, hi, hs]
  rw [run_equalIn_array w (dp + 1) _ _ hu hi, hc, run_eqItems_bytes w dp he l m _ (fun i hi => by have := List.mem_range.1 hi; omega), all_getD hl hm]
end
/-- A struct of a whole number and an array of bytes. -/
def keyB (P : Program) (t a e : TypeId) (n : Nat) : Bool := match P.underlying t with
  | some (.struct fs) => !P.stoodInHeld t && !P.eqGuardType P.depth t && (match fs.toList with
    | [f, g] => f.name != "_" && g.name != "_" && Nat.beq f.offset 0 && Nat.beq g.offset 1 && Nat.beq g.type a && (match P.underlying f.type with | some (.int _) => true | _ => false)
    | _ => false)
  | _ => false
section
variable {X : Cx} {ρ : Env} {A : List HA} {ty : TypeId}
theorem run_equalIn_key {P : Program} (w : World) (dp : Nat) {t a e : TypeId} {n : Nat} {i j : TypeInfo} {k : IntKind} (hb : keyB P t a e n = true) (hu : P.underlying a = some (.array n e)) (he : P.underlying e = some (.int .u8)) (hi : P.info? e = some i) (hs : i.size = 1) (hj : P.info? a = some j) (hjs : j.size = n)
    {l m : List UInt8} {x y : Int} (hl : l.length = n) (hm : m.length = n) :
    (Op.equalIn (dp + 3) t (.agg (.int k x :: bs l).toArray) (.agg (.int k y :: bs m).toArray)).run P w = .ok (decide (x = y ∧ l = m)) w ∧ P.eqGuardType P.depth t = false := by
  unfold keyB at hb
  split at hb
  · rename_i fs hfs
    simp only [Bool.and_eq_true, Bool.not_eq_true'] at hb
    obtain ⟨⟨h1, h2⟩, h3⟩ := hb
    refine ⟨?_, h2⟩
    have hfo : P.fieldsOf t = fs := by simp [Program.fieldsOf, hfs]
    rw [run_equalIn_struct w (dp + 2) t _ _ (by rw [hfo]; exact hfs) h1, hfo]
    split at h3
    · rename_i f g hfg
      simp only [Bool.and_eq_true] at h3
      obtain ⟨⟨⟨⟨⟨n1, n2⟩, o1⟩, o2⟩, ta⟩, tk⟩ := h3
      have o1 := Nat.eq_of_beq_eq_true o1
      have o2 := Nat.eq_of_beq_eq_true o2
      have ta := Nat.eq_of_beq_eq_true ta
      have n1' : f.name ≠ "_" := by simpa using n1
      have n2' : g.name ≠ "_" := by simpa using n2
      split at tk
      · rename_i k' hk'
        have p1 : ∀ (z : Int) (l : List UInt8), (part f.type (Value.int k z :: bs l).toArray f.offset).run P w = .ok (.int k z) w := fun z l => by
          rw [o1]; simp [part, isAgg, run_underlying hk']
        have p2 : ∀ (z : Int) (l : List UInt8), l.length = n → (part g.type (Value.int k z :: bs l).toArray g.offset).run P w = .ok (.agg (bs l).toArray) w := fun z l hl => by
          have e : ((Value.int k z :: bs l).toArray.extract 1 (1 + n)) = (bs l).toArray := by
            apply Array.ext'
            have : (bs l).length = n := by rw [bs_length, hl]
            simp [← this]
          rw [o2, ta]; simp only [part, isAgg, run_underlying hu, Go.sizeOf, typeInfo, hj, hjs, Sem.run_bind, Result.andThen_ok, Sem.run_pure]; simp [hj, hjs]; rw [List.take_of_length_le (by rw [bs_length]; omega)]
        have q1 : (Op.equalIn (dp + 2) f.type (.int k x) (.int k y)).run P w = .ok (x == y) w := run_equalIn_int w (dp + 1) f.type k k' x y hk'
        have q2 : (Op.equalIn (dp + 2) g.type (.agg (bs l).toArray) (.agg (bs m).toArray)).run P w = .ok (decide (l = m)) w := by rw [ta]; exact run_equalIn_bytes w dp hu he hi hs hl hm
        rw [hfg]
        simp only [Op.eqFields, n1', n2', ne_eq, not_false_eq_true, if_true, Sem.run_bind, p1, p2 _ _ hl, p2 _ _ hm, q1, q2, Result.andThen_ok]
        by_cases hxy : x = y
        · subst hxy
          simp only [BEq.rfl, Bool.not_true, Bool.false_eq_true, if_false, Sem.run_bind, p2 _ _ hl, p2 _ _ hm, q2, Result.andThen_ok]
          by_cases hlm : l = m
          · subst hlm; simp
          · rw [show decide (l = m) = false from decide_eq_false hlm, show decide (True ∧ l = m) = false from decide_eq_false fun h => hlm h.2]; simp
        · rw [show (x == y) = false by simpa using hxy, show decide (x = y ∧ l = m) = false from decide_eq_false fun h => hxy h.1]; simp
      · cases tk
    · cases h3
  · cases hb
structure KeyT (P : Program) (t : TypeId) : Prop where
  eq : ∀ (w : World) (k : IntKind) (l m : List UInt8) (x y : Int), l.length = 32 → m.length = 32 → (Op.equalIn 10000 t (.agg (.int k x :: bs l).toArray) (.agg (.int k y :: bs m).toArray)).run P w = .ok (decide (x = y ∧ l = m)) w
  guard : P.eqGuardType P.depth t = false
theorem KeyT.of {P : Program} {t a e : TypeId} (hb : keyB P t a e 32 = true) (hu : P.underlying a = some (.array 32 e)) (he : P.underlying e = some (.int .u8)) (hi : (P.info? e).map (fun i => i.size) = some 1) (hj : (P.info? a).map (fun i => i.size) = some 32) : KeyT P t := by
  obtain ⟨i, hi, hs⟩ := Option.map_eq_some_iff.1 hi
  obtain ⟨j, hj, hjs⟩ := Option.map_eq_some_iff.1 hj
  exact ⟨fun w k l m x y hl hm => (run_equalIn_key w 9997 (k := k) (x := x) (y := y) hb hu he hi hs hj hjs hl hm).1, (run_equalIn_key default 0 (k := .u64) (x := 0) (y := 0) (l := List.replicate 32 0) (m := List.replicate 32 0) hb hu he hi hs hj hjs (by simp) (by simp)).2⟩
structure ArrT (P : Program) (t : TypeId) (n : Nat) : Prop where
  eq : ∀ (w : World) (l m : List UInt8), l.length = n → m.length = n → (Op.equalIn 10000 t (.agg (bs l).toArray) (.agg (bs m).toArray)).run P w = .ok (decide (l = m)) w
  guard : P.eqGuardType P.depth t = false
theorem ArrT.of {P : Program} {t e : TypeId} {n : Nat} (hu : P.underlying t = some (.array n e)) (he : P.underlying e = some (.int .u8)) (hi : (P.info? e).map (fun i => i.size) = some 1) (hg : P.eqGuardType P.depth t = false) : ArrT P t n := by
  obtain ⟨i, hi, hs⟩ := Option.map_eq_some_iff.1 hi
  exact ⟨fun w l m hl hm => run_equalIn_bytes w 9998 hu he hi hs hl hm, hg⟩
theorem Yl.eqlK {x y : Operand} {t u : TypeId} {k : IntKind} {l m : List UInt8} {p q : Int} (ht : KeyT X.P t) (hx : ev ρ x = some (.agg (.int k p :: bs l).toArray)) (hy : ev ρ y = some (.agg (.int k q :: bs m).toArray)) (hl : l.length = 32) (hm : m.length = 32) :
    Yl X (.binOp .eql t x y u) ty ρ A (.bool (decide (p = q ∧ l = m))) := Yl.intro fun o ho _ ac w f _ => by
  simp only [execOp, ho, f.ev hx, f.ev hy, Sem.run_bind, run_eqGuard_agg w .eql t x y _ _ ht.guard, Result.andThen_ok, run_eql_struct, ht.eq w k l m p q hl hm, Sem.run_pure]
theorem Yl.neqK {x y : Operand} {t u : TypeId} {k : IntKind} {l m : List UInt8} {p q : Int} (ht : KeyT X.P t) (hx : ev ρ x = some (.agg (.int k p :: bs l).toArray)) (hy : ev ρ y = some (.agg (.int k q :: bs m).toArray)) (hl : l.length = 32) (hm : m.length = 32) :
    Yl X (.binOp .neq t x y u) ty ρ A (.bool (!decide (p = q ∧ l = m))) := Yl.intro fun o ho _ ac w f _ => by
  simp only [execOp, ho, f.ev hx, f.ev hy, Sem.run_bind, run_eqGuard_agg w .neq t x y _ _ ht.guard, Result.andThen_ok, run_neq_struct, ht.eq w k l m p q hl hm, Sem.run_pure]
theorem Yl.neqA {x y : Operand} {t u : TypeId} {n : Nat} {l m : List UInt8} (ht : ArrT X.P t n) (hx : ev ρ x = some (.agg (bs l).toArray)) (hy : ev ρ y = some (.agg (bs m).toArray)) (hl : l.length = n) (hm : m.length = n) :
    Yl X (.binOp .neq t x y u) ty ρ A (.bool (!decide (l = m))) := Yl.intro fun o ho _ ac w f _ => by
  simp only [execOp, ho, f.ev hx, f.ev hy, Sem.run_bind, run_eqGuard_agg w .neq t x y _ _ ht.guard, Result.andThen_ok, run_neq_struct, ht.eq w l m hl hm, Sem.run_pure]
end
end Go.Proofs.YtmmpngigaodcgaaGreat
/- Operations on maps with natural numbers as keys, over frames of known slots and owned memory. -/
namespace Go.Proofs.YtmmpngigaodcgaaGreat
set_option linter.unusedVariables false
set_option linter.unusedSimpArgs false
open Go Go.RowKit
set_option maxRecDepth 100000
/-- What lies in a block, in every state of this kind. -/
def Has (X : Cx) (A : List HA) (b : Nat) (o : Obj) : Prop := ∀ w, St X.w0 X.S A w → w.heap[b]? = some o
theorem Has.mem {X : Cx} {A : List HA} {b : Nat} {o : Obj} (h : HA.blk b o ∈ A) : Has X A b o := fun _ s => s.holds _ h
theorem Has.old {P : Program} {n : Nat} {w0 : World} {A : List HA} {b : Nat} {o : Obj} (h : w0.heap[b]? = some o) : Has ⟨P, n, w0, []⟩ A b o := fun _ s => (s.kept.block b (lt_of_heap h) (by simp)).trans h
theorem Yl.loadH {X : Cx} {A : List HA} {ρ : Env} {ty : TypeId} {v : Value} {x : Operand} {T T' : TypeId} {b off : Nat} {cs : Array Value} {fr : Nat × Nat} (hg : ∀ w, (isAgg T).run X.P w = .ok false w) (hx : ev ρ x = some (.pointer (some ⟨b, off, none⟩)))
    (hm : Has X A b (.cells cs T' fr)) (hv : cs[off]? = some v) : Yl X (.load T x) ty ρ A v := Yl.intro fun o ho _ a w f s => by
  have hc : w.cell? ⟨b, off, none⟩ = some v := by simp [World.cell?, hm w s, hv]
  simp [execOp, ho, f.ev hx, Instr.loadAt, Instr.sureAddr, loadVar, hg, hc]
theorem Yl.neqPN {X : Cx} {A : List HA} {ρ : Env} {ty : TypeId} {x : Operand} {t u : TypeId} {p : Option Addr} (ht : X.P.underlying t = some (.pointer (X.P.pointee t))) (hx : ev ρ x = some (.pointer p)) :
    Yl X (.binOp .neq t x (.const (.pointer none)) u) ty ρ A (.bool p.isSome) := Yl.intro fun o ho _ a w f s => by
  have e : a.eval (.const (.pointer none)) = .pointer none := rfl
  simp [execOp, ho, f.ev hx, e, binOp, eqGuard, run_equal_pointer_nil w t p ht]
theorem Yl.eqlPN {X : Cx} {A : List HA} {ρ : Env} {ty : TypeId} {x : Operand} {t u : TypeId} {p : Option Addr} (ht : X.P.underlying t = some (.pointer (X.P.pointee t))) (hx : ev ρ x = some (.pointer p)) :
    Yl X (.binOp .eql t x (.const (.pointer none)) u) ty ρ A (.bool p.isNone) := Yl.intro fun o ho _ a w f s => by
  have e : a.eval (.const (.pointer none)) = .pointer none := rfl
  simp [execOp, ho, f.ev hx, e, binOp, eqGuard, run_equal_pointer_nil w t p ht]
theorem run_getObj_map {P : Program} {w : World} {r : Nat} {es : Array MapEntry} {c : Nat} (h : w.heap[r]? = some (.map es c)) : (getObj r).run P w = .ok (.map es c) w := by
  simp [getObj, Sem.run, h]
def mset (w : World) (b : Nat) (o : Obj) : World := { w with heap := w.heap.setIfInBounds b o }
theorem run_setObj_map {P : Program} {w : World} {r : Nat} {es : Array MapEntry} {c : Nat} (o : Obj) (h : w.heap[r]? = some (.map es c)) : (setObj r o).run P w = .ok () (mset w r o) := by
  simp [setObj, Sem.run, h, mset]
theorem Kept.mset (w : World) (b : Nat) (o : Obj) : Kept w [b] (mset w b o) := ⟨rfl, rfl, rfl, by simp [Go.Proofs.YtmmpngigaodcgaaGreat.mset], fun k _ hk => by
  simp at hk
  simp [Go.Proofs.YtmmpngigaodcgaaGreat.mset, Array.getElem?_setIfInBounds_ne (Ne.symm hk)]⟩
section
variable {β : Type} {X : Cx} {ops : Array Oper} {Q : Exit → Act → World → Prop} {ρ : Env} {A B : List HA} {rest : List Oper} {d : Tmp} {ty : TypeId} {ps : String} {af : Array Edge} {v : Value}
theorem WL.makeMap {t : TypeId} {enc : β → Value} (hd : Nat.blt d X.n = true) (h : ∀ b, WL X ops Q rest ((d, .map (some b)) :: ρ) (.blk b (mobj enc [] 0) :: A)) :
    WL X ops Q (⟨some d, .makeMap t none, ty, ps, af, none⟩ :: rest) ρ A :=
  WL.stepE (fun b : Nat => .map (some b)) (fun b => .blk b (mobj enc [] 0) :: A) (fun o ho _ a w f s =>
    ⟨w.heap.size, _, by simp [execOp, ho, run_makeMap_plain]; rfl, s.alloc _⟩) hd h
theorem checkKey_int {P : Program} {w : World} {K : TypeId} (hK : P.underlying K = some (.int .i64)) (e : Bool) (z : Int) : (Instr.checkKey e 10000 K (.int .i64 z)).run P w = .ok () w :=
  MapKept.run_checkKey (k := .int .i64 z) hK (by simp [MapKept.IsKey]) e 9999
theorem findKey_int {P : Program} {w : World} {K : TypeId} (hK : P.underlying K = some (.int .i64)) (enc : β → Value) (M : List (Nat × β × Nat)) (k : Nat) :
    (Instr.findKey K (.int .i64 (k : Int)) (M.map (ment enc)).toArray.toList).run P w = .ok ((fnd M k 0).map fun p => (p.1, enc p.2)) w :=
  MapKept.run_findKey hK (findNow_fnd enc k M 0)
section
variable {n c b k : Nat} {F : Nat → Option β} {M : List (Nat × β × Nat)} {enc : β → Value} {t K E : TypeId} {z : Value} {x y : Operand}
/-- 'v, ok := m[k]'. -/
theorem Yl.lookupOk (hu : X.P.underlying t = some (.map K E)) (hK : X.P.underlying K = some (.int .i64)) (hz : ∀ w, (zeroValue E).run X.P w = .ok z w)
    (hx : ev ρ x = some (.map (some b))) (hy : ev ρ y = some (.int .i64 (k : Int))) (hM : MapIs n F M c) (hm : Has X A b (mobj enc M c)) :
    Yl X (.lookup t x y true) ty ρ A (.tuple #[((F k).map enc).getD z, .bool (F k).isSome]) := Yl.intro fun o ho _ a w f s => by
  have hb : w.heap[b]? = some (mobj enc M c) := hm w s
  have e := hM.fnd_eq k
  simp only [execOp, ho, f.ev hx, f.ev hy, Instr.lookup, Sem.run_bind, run_underlying hu, Result.andThen_ok, run_getObj_map hb, Sem.run_pure, checkKey_int hK, findKey_int hK]
  cases h : fnd M k 0 with
  | none => rw [h] at e; simp [← e, hz]
  | some p => rw [h] at e; simp [← e]
theorem Yl.lookupG {u0 : β} (hu : X.P.underlying t = some (.map K E)) (hK : X.P.underlying K = some (.int .i64)) (hz : ∀ w, (zeroValue E).run X.P w = .ok (enc u0) w)
    (hx : ev ρ x = some (.map (some b))) (hy : ev ρ y = some (.int .i64 (k : Int))) (hM : MapIs n F M c) (hm : Has X A b (mobj enc M c)) :
    Yl X (.lookup t x y false) ty ρ A (enc ((F k).getD u0)) := Yl.intro fun o ho _ a w f s => by
  have hb : w.heap[b]? = some (mobj enc M c) := hm w s
  have e := hM.fnd_eq k
  simp only [execOp, ho, f.ev hx, f.ev hy, Instr.lookup, Sem.run_bind, run_underlying hu, Result.andThen_ok, run_getObj_map hb, Sem.run_pure, checkKey_int hK, findKey_int hK]
  cases h : fnd M k 0 with
  | none => rw [h] at e; simp [← e, hz]
  | some p => rw [h] at e; simp [← e]
theorem Yl.lookup_ {u : β} (hu : X.P.underlying t = some (.map K E)) (hK : X.P.underlying K = some (.int .i64))
    (hx : ev ρ x = some (.map (some b))) (hy : ev ρ y = some (.int .i64 (k : Int))) (hM : MapIs n F M c) (hF : F k = some u) (hm : Has X A b (mobj enc M c)) :
    Yl X (.lookup t x y false) ty ρ A (enc u) := Yl.intro fun o ho _ a w f s => by
  have hb : w.heap[b]? = some (mobj enc M c) := hm w s
  have e := hM.fnd_eq k
  simp only [execOp, ho, f.ev hx, f.ev hy, Instr.lookup, Sem.run_bind, run_underlying hu, Result.andThen_ok, run_getObj_map hb, Sem.run_pure, checkKey_int hK, findKey_int hK]
  cases h : fnd M k 0 with
  | none => rw [h, hF] at e; cases e
  | some p => rw [h, hF] at e; simp at e; simp [e]
theorem Yl.lookupT {u : β} (hu : X.P.underlying t = some (.map K E)) (hK : X.P.underlying K = some (.int .i64)) (hz : ∀ w, (zeroValue E).run X.P w = .ok z w)
    (hx : ev ρ x = some (.map (some b))) (hy : ev ρ y = some (.int .i64 (k : Int))) (hM : MapIs n F M c) (hF : F k = some u) (hm : Has X A b (mobj enc M c)) :
    Yl X (.lookup t x y true) ty ρ A (.tuple #[enc u, .bool true]) := by
  have := Yl.lookupOk (X := X) (ty := ty) hu hK hz hx hy hM hm
  rwa [hF] at this
theorem Yl.lookupF (hu : X.P.underlying t = some (.map K E)) (hK : X.P.underlying K = some (.int .i64)) (hz : ∀ w, (zeroValue E).run X.P w = .ok z w)
    (hx : ev ρ x = some (.map (some b))) (hy : ev ρ y = some (.int .i64 (k : Int))) (hM : MapIs n F M c) (hF : F k = none) (hm : Has X A b (mobj enc M c)) :
    Yl X (.lookup t x y true) ty ρ A (.tuple #[z, .bool false]) := by
  have := Yl.lookupOk (X := X) (ty := ty) hu hK hz hx hy hM hm
  rwa [hF] at this
theorem keyStays {P : Program} {w : World} (z : Int) : (Instr.keyThatStays (.int .i64 z) (.int .i64 z)).run P w = .ok (.int .i64 z) w := by
  simp [Instr.keyThatStays, Instr.sameBits]
theorem WL.mapUpdate {y2 : Operand} {u : β} (hu : X.P.underlying t = some (.map K E)) (hK : X.P.underlying K = some (.int .i64))
    (hx : ev ρ x = some (.map (some b))) (hy : ev ρ y = some (.int .i64 (k : Int))) (hv : ev ρ y2 = some (enc u)) (hM : MapIs n F M c) (hk : k < n) (hp : Pick (.blk b (mobj enc M c)) A B)
    (h : ∀ M' c', MapIs n (setF F k (some u)) M' c' → WL X ops Q rest ρ (.blk b (mobj enc M' c') :: B)) :
    WL X ops Q (⟨none, .mapUpdate t x y y2, ty, ps, af, none⟩ :: rest) ρ A := by
  have hb0 : ∀ w, St X.w0 X.S A w → w.heap[b]? = some (mobj enc M c) := fun w s => (s.pick hp).holds _ (.head _)
  cases hf : fnd M k 0 with
  | none =>
    have e := hM.fnd_eq k
    rw [hf] at e
    refine WL.step0 (fun o ho _ a w f s => ?_) (h _ _ (hM.push e.symm hk))
    have s1 := s.pick hp
    refine ⟨.skip, mset w b (mobj enc (M ++ [(k, u, c)]) (c + 1)), ?_, .inl rfl, s1.put (x := .blk b _) (y := .blk b (mobj enc (M ++ [(k, u, c)]) (c + 1))) rfl rfl (Kept.mset w b _) ?_⟩
    · simp only [execOp, ho, f.ev hx, f.ev hy, f.ev hv, Instr.mapUpdate, Sem.run_bind, run_underlying hu, Result.andThen_ok, run_getObj_map (hb0 w s), checkKey_int hK, findKey_int hK, hf, Option.map_none, run_setObj_map _ (hb0 w s), Sem.run_pure]
      simp [mobj, ment]
    · show (mset w b _).heap[b]? = _
      have := (Array.getElem?_eq_some_iff.1 (hb0 w s)).1
      simp [mset, this]
  | some p =>
    obtain ⟨j, v0⟩ := p
    have e := hM.fnd_eq k
    rw [hf] at e
    obtain ⟨_, b0, hj⟩ := fnd_some hf
    rw [Nat.sub_zero] at hj
    have hmod := mput_modify enc k u hf
    rw [Nat.sub_zero] at hmod
    refine WL.step0 (fun o ho _ a w f s => ?_) (h _ _ (hM.put e.symm))
    have s1 := s.pick hp
    refine ⟨.skip, mset w b (mobj enc (mput M k u) c), ?_, .inl rfl, s1.put (x := .blk b _) (y := .blk b (mobj enc (mput M k u) c)) rfl rfl (Kept.mset w b _) ?_⟩
    · have hkey : (((M.map (ment enc)).toArray[j]?).map (·.key)).getD (.int .i64 (k : Int)) = .int .i64 (k : Int) := by simp [hj, ment]
      simp only [execOp, ho, f.ev hx, f.ev hy, f.ev hv, Instr.mapUpdate, Sem.run_bind, run_underlying hu, Result.andThen_ok, run_getObj_map (hb0 w s), checkKey_int hK, findKey_int hK, hf, Option.map_some, hkey, keyStays, run_setObj_map _ (hb0 w s), Sem.run_pure, List.modify_toArray, hmod]
      rfl
    · show (mset w b _).heap[b]? = _
      have := (Array.getElem?_eq_some_iff.1 (hb0 w s)).1
      simp [mset, this]
theorem WL.mapDelete {ats : Array TypeId} (hu : X.P.underlying t = some (.map K E)) (hK : X.P.underlying K = some (.int .i64)) (ha : ats[0]? = some t)
    (hx : ev ρ x = some (.map (some b))) (hy : ev ρ y = some (.int .i64 (k : Int))) (hM : MapIs n F M c) (hp : Pick (.blk b (mobj enc M c)) A B)
    (h : MapIs n (setF F k none) (mdel M k) c → WL X ops Q rest ρ (.blk b (mobj enc (mdel M k) c) :: B)) :
    WL X ops Q (⟨none, .call { callee := .builtin .delete, args := #[x, y], argTypes := ats }, ty, ps, af, none⟩ :: rest) ρ A := by
  have hb0 : ∀ w, St X.w0 X.S A w → w.heap[b]? = some (mobj enc M c) := fun w s => (s.pick hp).holds _ (.head _)
  have e := hM.fnd_eq k
  have key : ∀ M', (mobj enc M' c) = (mobj enc (mdel M k) c) → (∀ w, St X.w0 X.S A w → ∀ tyo, (Builtin.delete_ ats tyo #[.map (some b), .int .i64 (k : Int)]).run X.P w = .ok (.tuple #[]) (mset w b (mobj enc M' c))) →
      WL X ops Q (⟨none, .call { callee := .builtin .delete, args := #[x, y], argTypes := ats }, ty, ps, af, none⟩ :: rest) ρ A := fun M' he hr => by
    refine WL.step0 (fun o ho _ a w f s => ?_) (h (hM.del k))
    have s1 := s.pick hp
    refine ⟨.value (.tuple #[]), mset w b (mobj enc M' c), ?_, .inr ⟨_, rfl⟩, s1.put (x := .blk b _) (y := .blk b (mobj enc (mdel M k) c)) rfl rfl (Kept.mset w b _) ?_⟩
    · simp only [execOp, ho, resolve, invoke, builtin, Sem.run_bind, Sem.run_pure, Result.andThen_ok, List.map_toArray, List.map_cons, List.map_nil, f.ev hx, f.ev hy, hr w s]
    · show (mset w b _).heap[b]? = _
      have := (Array.getElem?_eq_some_iff.1 (hb0 w s)).1
      simp [mset, this, he]
  cases hf : fnd M k 0 with
  | none =>
    rw [hf] at e
    have hd : mdel M k = M := by
      rw [mdel_filter k hM.keys]
      exact List.filter_eq_self.2 fun x hx => by simpa using fnd_none hf x hx
    refine key M (by rw [hd]) fun w s tyo => ?_
    simp only [Builtin.delete_, ha, Sem.run_bind, run_underlying hu, Result.andThen_ok, run_getObj_map (hb0 w s), checkKey_int hK, findKey_int hK, hf, Option.map_none, run_setObj_map _ (hb0 w s), Sem.run_pure]
    simp [Sem.run_bind, run_underlying hu, Result.andThen_ok, run_getObj_map (hb0 w s), checkKey_int hK, findKey_int hK, hf, run_setObj_map _ (hb0 w s), mobj]
  | some p =>
    obtain ⟨j, v0⟩ := p
    have her := mdel_erase enc k hf
    rw [Nat.sub_zero] at her
    refine key (mdel M k) rfl fun w s tyo => ?_
    simp [Builtin.delete_, ha, Sem.run_bind, run_underlying hu, Result.andThen_ok, run_getObj_map (hb0 w s), checkKey_int hK, findKey_int hK, hf, run_setObj_map _ (hb0 w s), mobj, her]
end
end
end Go.Proofs.YtmmpngigaodcgaaGreat
/- append(s, make([]T, n)...); rows of which less is known; elements of several cells made. -/
namespace Go.Proofs.YtmmpngigaodcgaaGreat
set_option linter.unusedVariables false
set_option linter.unusedSimpArgs false
open Go Go.RowKit
theorem St.shrink {w0 w : World} {S : List Nat} {a : Option Addr} {cap : Nat} {T : TypeId} {k : Nat} {vs : List Value} {A : List HA} (m : Nat) (h : St w0 S (.row a cap T k vs :: A) w) : St w0 S (.row a cap T k (vs.take m) :: A) w := by
  refine ⟨h.kept, fun x hx => ?_, h.apart, fun x hx b hb => ?_⟩
  · cases hx with
    | head =>
      rcases h.holds _ (.head _) with ⟨h0, rfl⟩ | ⟨b, cs, rfl, hc, hs, hm, hl, ht⟩
      · exact .inl ⟨h0, by simp⟩
      · refine .inr ⟨b, cs, rfl, hc, hs, hm, by rw [List.length_take]; omega, ?_⟩
        rw [List.length_take, ← List.take_take, ht]
    | tail _ hx => exact h.holds _ (.tail _ hx)
  · cases hx with
    | head => exact h.mine _ (.head _) b hb
    | tail _ hx => exact h.mine _ (.tail _ hx) b hb
theorem zeroCells_one (z : Value) (n : Nat) : Builtin.zeroCells #[z] n = (List.replicate n z).toArray := by
  apply Array.ext
  · simp [Builtin.zeroCells]
  · intro i h1 h2
    simp [Builtin.zeroCells, Nat.mod_one]
theorem run_append_zeros0 {P : Program} (w : World) (t tn ty e : TypeId) (i : TypeInfo) (kn : IntKind) (ht : P.underlying t = some (.slice e)) (htn : P.underlying tn = some (.int kn)) (hi : P.info? e = some i) (a : Option Addr) (n cap : Nat) (hn : n ≤ cap) :
    (Builtin.append_ #[t, tn] ty #[.slice a n cap, .int .i64 (0 : Nat)]).run P w = .ok (.slice a n cap) w := by
  have hw : IntKind.i64.wrap (0 : Int) = 0 := by decide
  cases a with
  | none => simp [Builtin.append_, run_underlying ht, run_underlying htn, sizeOf, typeInfo, hi, asInt, asIntOf, hw, hn]
  | some ad => simp [Builtin.append_, run_underlying ht, run_underlying htn, sizeOf, typeInfo, hi, asInt, asIntOf, hw, hn, storeCells]
theorem run_append_room_zeros {P : Program} (w : World) (t tn ty e : TypeId) (i : TypeInfo) (z : Value) (kn : IntKind) (ht : P.underlying t = some (.slice e)) (htn : P.underlying tn = some (.int kn)) (hi : P.info? e = some i) (hz : i.zero = some z) (hs : i.size = 1) (hc : z.cells = #[z]) (h1 : z.oneCell' = true)
    (g n cap : Nat) (cur : Array Value) (hg : w.heap[g]? = some (.cells cur e (0, 0))) (k : Nat) (h0 : 0 < k) (h63 : (k : Int) ≤ 9223372036854775807) (h48 : k * i.bytes ≤ 281474976710656) (hroom : n + k ≤ cap) (hfit : n + k ≤ cur.size) :
    (Builtin.append_ #[t, tn] ty #[.slice (some ⟨g, 0, none⟩) n cap, .int .i64 k]).run P w =
      .ok (.slice (some ⟨g, 0, none⟩) (n + k) cap) (w.setRow g (cur.toList.take n ++ List.replicate k z ++ cur.toList.drop (n + k)).toArray) := by
  have hk : k ≠ 0 := by omega
  have hw : IntKind.i64.wrap (k : Int) = k := by rw [IntKind.wrap_i64]; omega
  have h48i : ¬ (281474976710656 < (k : Int) * (i.bytes : Int)) := by
    rw [← Int.natCast_mul]
    omega
  have hneg : ¬ ((k : Int) < 0) := by omega
  have hst := run_splice P (o := n) (List.replicate k z) hg (by rw [List.length_replicate]; exact hfit) (fun u hu => by rw [List.eq_of_mem_replicate hu]; exact h1)
  rw [List.length_replicate] at hst
  have hzc := zeroCells_one z k
  simp [Builtin.append_, run_underlying ht, run_underlying htn, sizeOf, typeInfo, zeroValue, hi, hz, asInt, asIntOf, hw, hk, hneg, h48i, hroom, hs, hc, hzc, add_off, hst]
section
variable {X : Cx} {ops : Array Oper} {Q : Exit → Act → World → Prop} {ρ : Env} {A B : List HA} {rest : List Oper} {d : Tmp} {op : Op} {ty : TypeId} {ps : String} {af : Array Edge} {v : Value}
theorem WL.shrink {l : List Oper} {a : Option Addr} {cap : Nat} {T : TypeId} {k : Nat} {vs : List Value} (m : Nat) (hp : Pick (.row a cap T k vs) A B) (h : WL X ops Q l ρ (.row a cap T k (vs.take m) :: B)) : WL X ops Q l ρ A :=
  fun w f hw s => h w f hw ((s.pick hp).shrink m)
theorem WL.appendZ {x y : Operand} {t tn e : TypeId} {z : Value} {bytes : Nat} {kn : IntKind} {a : Option Addr} {n cap m : Nat} {olds : List Value} (hu : X.P.underlying t = some (.slice e)) (htn : X.P.underlying tn = some (.int kn)) (he : ElemT X.P e z 1 bytes) (h1 : z.oneCell' = true)
    (hx : ev ρ x = some (.slice a n cap)) (hy : ev ρ y = some (.int .i64 (m : Int))) (hp : Pick (.row a cap e 1 olds) A B) (hol : olds.length = n) (hnc : n ≤ cap)
    (hb : (n + m) * bytes ≤ 140737488355328) (h63 : n + m ≤ maxLen) (hd : Nat.blt d X.n = true)
    (h : ∀ p : Option Addr × Nat, n + m ≤ p.2 → WL X ops Q rest ((d, .slice p.1 (n + m) p.2) :: ρ) (.row p.1 p.2 e 1 (olds ++ List.replicate m z) :: B)) :
    WL X ops Q (⟨some d, .call { callee := .builtin .append, args := #[x, y], argTypes := #[t, tn] }, ty, ps, af, none⟩ :: rest) ρ A :=
  WL.stepE (ι := { p : Option Addr × Nat // n + m ≤ p.2 }) (fun p => .slice p.1.1 (n + m) p.1.2) (fun p => .row p.1.1 p.1.2 e 1 (olds ++ List.replicate m z) :: B) (fun o hop _ ac w f s => by
    have s1 := s.pick hp
    obtain ⟨i, hi, hz, hk, hby⟩ := he.info
    have hcz := one_cells h1
    have fin : ∀ {v : Value} {w' : World}, (Builtin.append_ #[t, tn] o.type #[.slice a n cap, .int .i64 (m : Int)]).run X.P w = .ok v w' → (execOp ac.eval o).run X.P w = .ok (.value v) w' := fun hr => by
      simp only [execOp, hop, resolve, invoke, builtin, Sem.run_bind, Sem.run_pure, Result.andThen_ok, List.map_toArray, List.map_cons, List.map_nil, f.ev hx, f.ev hy, hr]
    by_cases hm : m = 0
    · subst hm
      refine ⟨⟨(a, cap), by omega⟩, w, fin (run_append_zeros0 w t tn o.type e i kn hu htn hi a n cap hnc), ?_⟩
      simpa using s1
    · have hnb : m * i.bytes ≤ 281474976710656 := by
        have := Nat.mul_le_mul_right i.bytes (show m ≤ n + m by omega)
        rw [hby] at this ⊢; omega
      by_cases hroom : n + m ≤ cap
      · rcases s1.holds _ (.head _) with ⟨h0, _⟩ | ⟨b, cs, rfl, hbk, hsz, hcm, hvl, htk⟩
        · omega
        · have hr := run_append_room_zeros (P := X.P) w t tn o.type e i z kn hu htn hi hz hk hcz h1 b n cap cs hbk m (by omega) (by simp only [maxLen] at h63; omega) hnb hroom (by omega)
          refine ⟨⟨(some ⟨b, 0, none⟩, cap), hroom⟩, _, fin hr, s1.put (x := .row _ _ _ _ _) (y := .row (some ⟨b, 0, none⟩) cap e 1 (olds ++ List.replicate m z)) (by simp [HA.foot]; omega) (by simp [HA.foot]; omega) (Kept.setRow w b _)
            (.inr ⟨b, _, rfl, setRow_heap w b cs _ e _ hbk, ?_, hcm, ?_, ?_⟩)⟩
          · simp only [List.size_toArray, List.length_append, List.length_take, List.length_drop, List.length_replicate, Array.length_toList]; omega
          · simp only [List.size_toArray, List.length_append, List.length_take, List.length_drop, List.length_replicate, Array.length_toList]; omega
          · subst hol
            rw [htk]
            show List.take (olds ++ List.replicate m z).length (olds ++ List.replicate m z ++ cs.toList.drop (olds.length + m)) = _
            exact List.take_left
      · have ho : CellsAt w a olds := (Rd.row (X := X) (A := .row a cap e 1 olds :: B) (.head _)) w s1
        have hg : cap < n + m := by omega
        have hfo := CellsAt.first (P := X.P) (w := w.drew) (a := a) (vs := olds) ho (k := i.size) (n := n) (len := n) (cap := cap) (by rw [hk, hol, Nat.mul_one])
        have hfit : Builtin.nextslicecap (n + m) cap * i.bytes ≤ 281474976710656 := growslice_fits (need := n + m) (old := cap) (bytes := i.bytes) hg (by rw [hby]; exact hb)
        have hr := Go.Lib.run_append_grow_zeros (P := X.P) w t tn o.type e i z .i64 kn hu htn hi hz a n cap olds hfo m (by omega) (by rw [hk]; decide) hg (by simp only [maxLen] at h63; omega) hnb hfit
        obtain ⟨g1, g2⟩ := s1.tail.grown (n := n) (m := m) (cap := cap) he (olds := olds) (news := List.replicate m z) (by omega) (by simp) h63
        rw [hcz, zeroCells_one] at hr
        rw [hcz] at g1
        refine ⟨⟨(some ⟨w.heap.size, 0, none⟩, grownCap w (n + m) cap e), g2⟩, _, fin hr, g1⟩) hd (fun p => h p.1 p.2)
/-- 'make' of elements of several cells. -/
theorem madeCells_flat (z : Value) (us : List Value) (hz : z.cells = us.toArray) (n : Nat) : madeCells z.cells (n * us.length) = ((List.replicate n us).flatten).toArray := by
  apply Array.ext
  · simp [madeCells, hz]
  · intro i h1 h2
    have hsz : i < n * us.length := by simpa [madeCells, hz] using h1
    have h0 : 0 < us.length := by rcases Nat.eq_zero_or_pos us.length with h | h; rw [h] at hsz; omega; exact h
    have key : ∀ (n i : Nat), i < n * us.length → ((List.replicate n us).flatten)[i]? = us[i % us.length]? := by
      intro n
      induction n with
      | zero => intro i h; omega
      | succ n ih =>
        intro i h
        rw [List.replicate_succ, List.flatten_cons]
        by_cases hi : i < us.length
        · rw [List.getElem?_append_left hi, Nat.mod_eq_of_lt hi]
        · rw [List.getElem?_append_right (by omega), ih _ (by rw [Nat.add_mul] at h; omega), ← Nat.mod_eq_sub_mod (by omega)]
    have k1 := key n i hsz
    have h3 : i % us.length < us.length := Nat.mod_lt _ h0
    rw [List.getElem?_eq_getElem h3] at k1
    have h4 : i < ((List.replicate n us).flatten).length := by simpa using h2
    rw [List.getElem?_eq_getElem h4] at k1
    simp only [List.getElem_toArray, Option.some.inj k1]
    simp [madeCells, hz, h3]
theorem WL.makeK {x y : Operand} {t e : TypeId} {z : Value} {us : List Value} {bytes m n k : Nat} {k1 k2 : IntKind} (hu : X.P.underlying t = some (.slice e)) (he : ElemT X.P e z k bytes) (hz : z.cells = us.toArray)
    (hx : ev ρ x = some (.int k1 (m : Int))) (hy : ev ρ y = some (.int k2 (n : Int))) (hmn : m ≤ n) (hb : bytes * n ≤ 281474976710656) (h63 : n ≤ maxLen) (hd : Nat.blt d X.n = true)
    (h : ∀ b : Nat, WL X ops Q rest ((d, .slice (some ⟨b, 0, none⟩) m n) :: ρ) (.row (some ⟨b, 0, none⟩) n e k ((List.replicate n us).flatten) :: A)) :
    WL X ops Q (⟨some d, .makeSlice t x y, ty, ps, af, none⟩ :: rest) ρ A :=
  WL.stepE (fun b : Nat => .slice (some ⟨b, 0, none⟩) m n) (fun b => .row (some ⟨b, 0, none⟩) n e k ((List.replicate n us).flatten) :: A) (fun o ho _ a w f s => by
    obtain ⟨i, hi, hzz, hk, hby⟩ := he.info
    have huk : us.length = k := by have := he.cells; rw [hz] at this; simpa using this
    have h63' : (n : Int) ≤ 9223372036854775807 := by simp only [maxLen] at h63; omega
    have hb' : (i.bytes : Int) * (n : Int) ≤ 281474976710656 := by
      have h : ((i.bytes * n : Nat) : Int) ≤ 281474976710656 := by rw [hby]; omega
      rwa [Int.natCast_mul] at h
    have hr := run_make (P := X.P) w t e i z hu hi hzz k1 k2 m n (by omega) (by omega) hb' h63'
    rw [Int.toNat_natCast, Int.toNat_natCast, hk, ← huk, madeCells_flat z us hz] at hr
    refine ⟨w.heap.size, { w with heap := w.heap.push (.cells ((List.replicate n us).flatten).toArray e) }, ?_, s.new (Kept.alloc w _) (.inr ⟨w.heap.size, ((List.replicate n us).flatten).toArray, rfl, by simp, by simp [huk], h63, by simp, List.take_of_length_le (Nat.le_refl _)⟩) (fun b hb => ?_)⟩
    · simp only [execOp, ho, f.ev hx, f.ev hy, Sem.run_bind, hr, Result.andThen_ok, Sem.run_pure]
      rfl
    · simp only [HA.foot] at hb
      split at hb
      · cases hb
      · simp only [Option.map_some, Option.some.injEq] at hb; omega) hd h
end
end Go.Proofs.YtmmpngigaodcgaaGreat
/- Ways that come together again behind a branch or a loop; several results of several cells. -/
namespace Go.Proofs.YtmmpngigaodcgaaGreat
set_option linter.unusedVariables false
set_option linter.unusedSimpArgs false
open Go Go.RowKit
/-- What is handed on behind a piece of code: the state for some ghost. -/
def Join {α : Type} (X : Cx) (E : α → Env) (B : α → List HA) (H : α → Prop) (a : Act) (w : World) : Prop := ∃ j, H j ∧ Fr X.n (E j) a ∧ St X.w0 X.S (B j) w
section
variable {X : Cx} {Q : Exit → Act → World → Prop} {ρ : Env} {A : List HA}
theorem join_mono {α : Type} {E : α → Env} {B : α → List HA} {H : α → Prop} {z : Code} (hz : ∀ i, H i → WC X z Q (E i) (B i)) (e : Exit) (a : Act) (w : World) (hq : Exit.then (Join X E B H) Q e a w) : Exit.then (z.wp X.P Q) Q e a w := by
  cases e with
  | normal => obtain ⟨i, hi, f', s'⟩ := hq; exact hz i hi a w f' s'
  | exit id => exact hq
  | goto l => exact hq
  | ret => exact hq
  | panic ch => exact hq
  | outgrown => exact hq
theorem WC.join {α : Type} (E : α → Env) (B : α → List HA) (H : α → Prop) {c z : Code} (h : WC X c (Exit.then (Join X E B H) Q) ρ A) (hz : ∀ i, H i → WC X z Q (E i) (B i)) : WC X c (Exit.then (z.wp X.P Q) Q) ρ A := fun a w f s =>
  wp_mono (h a w f s) fun e a' w' hq => join_mono hz e a' w' hq
/-- The same within a block. -/
theorem WC.joinB {α : Type} (E : α → Env) (B : α → List HA) (H : α → Prop) {id : Nat} {c z : Code} (h : WC X c (Exit.inBlock id (Exit.then (Join X E B H) Q)) ρ A) (hz : ∀ i, H i → WC X z Q (E i) (B i)) : WC X c (Exit.inBlock id (Exit.then (z.wp X.P Q) Q)) ρ A := fun a w f s =>
  wp_mono (h a w f s) fun e a' w' hq => by
    cases e with
    | exit n =>
      simp only [Exit.inBlock] at hq ⊢
      split
      · rename_i hn; rw [if_pos hn] at hq; exact join_mono hz _ a' w' hq
      · rename_i hn; rw [if_neg hn] at hq; exact join_mono hz _ a' w' hq
    | normal => exact join_mono hz (.normal) a' w' hq
    | goto l => exact join_mono hz (.goto l) a' w' hq
    | ret => exact join_mono hz (.ret) a' w' hq
    | panic ch => exact join_mono hz (.panic ch) a' w' hq
    | outgrown => exact join_mono hz (.outgrown) a' w' hq
theorem WN.join {α : Type} {E : α → Env} {B : α → List HA} {H : α → Prop} (j : α) (hj : H j) (hs : Sub ρ (E j)) (hp : Part A (B j)) : WN X (Exit.then (Join X E B H) Q) .normal ρ A := fun _ _ f s => ⟨j, hj, f.of_sub hs, s.part hp⟩
/-- A function value with what it has captured. -/
theorem Yl.capFunc {ty : TypeId} {g : FuncId} {xs : List Operand} {vs : List Value} (hx : evs ρ xs = some vs) : Yl X (.makeFunc (.func g) #[] xs.toArray) ty ρ A (.func (.func g) #[] vs.toArray) := Yl.intro fun o ho _ a w f _ => by
  have e := evs_map f hx
  simp [execOp, ho, Instr.makeFunc, e]
theorem WC.shrink {c : Code} {B : List HA} {a : Option Addr} {cap : Nat} {T : TypeId} {k : Nat} {vs : List Value} (m : Nat) (hp : Pick (.row a cap T k vs) A B) (h : WC X c Q ρ (.row a cap T k (vs.take m) :: B)) : WC X c Q ρ A :=
  fun w f hw s => h w f hw ((s.pick hp).shrink m)
end
section
variable {P : Program} {fn : Func} {R : Value → List HA → Prop} {ρ : Env} {A B : List HA} {n : Nat} {w0 : World}
/-- Two results, the first in a variable of several cells. -/
theorem WN.ret2C {t t2 : Tmp} {T T' : TypeId} {b k : Nat} {us : Array Value} {fr : Nat × Nat} {v2 : Value} (hr : fn.results = #[.cell t T, .tmp t2]) (hg : ∀ w, (isAgg T).run P w = .ok true w) (hk : ∀ w, (sizeOf T).run P w = .ok k w)
    (hv : lk ρ t = some (.pointer (some ⟨b, 0, none⟩))) (hv2 : lk ρ t2 = some v2) (hm : HA.blk b (.cells us T' fr) ∈ A) (hl : Nat.beq us.size k = true) (hR : R (.tuple #[.agg us, v2]) B) (hp : Part A B) :
    WN ⟨P, n, w0, []⟩ (bodyPost P fn (Gives R w0)) .ret ρ A :=
  fun a w f s => by
    have hc := cell_run hg hk hm hl s
    have h1 := f.get t _ hv
    have h2 := f.get t2 _ hv2
    refine bodyPost_ret (v := .tuple #[.agg us, v2]) ?_ f.defers ⟨_, B, rfl, hR, s.part hp⟩
    rw [Array.getD_eq_getD_getElem?] at h1 h2
    simp [results, hr, h1, h2, asAddr, hc]
/-- Four results, three of them in variables of several cells. -/
theorem WN.ret4C {t1 t2 t3 t4 : Tmp} {T1 T2 T3 U1 U2 U3 : TypeId} {b1 b2 b3 k1 k2 k3 : Nat} {u1 u2 u3 : Array Value} {f1 f2 f3 : Nat × Nat} {v4 : Value} (hr : fn.results = #[.cell t1 T1, .cell t2 T2, .cell t3 T3, .tmp t4])
    (hg1 : ∀ w, (isAgg T1).run P w = .ok true w) (hk1 : ∀ w, (sizeOf T1).run P w = .ok k1 w) (hg2 : ∀ w, (isAgg T2).run P w = .ok true w) (hk2 : ∀ w, (sizeOf T2).run P w = .ok k2 w) (hg3 : ∀ w, (isAgg T3).run P w = .ok true w) (hk3 : ∀ w, (sizeOf T3).run P w = .ok k3 w)
    (hv1 : lk ρ t1 = some (.pointer (some ⟨b1, 0, none⟩))) (hv2 : lk ρ t2 = some (.pointer (some ⟨b2, 0, none⟩))) (hv3 : lk ρ t3 = some (.pointer (some ⟨b3, 0, none⟩))) (hv4 : lk ρ t4 = some v4)
    (hm1 : HA.blk b1 (.cells u1 U1 f1) ∈ A) (hm2 : HA.blk b2 (.cells u2 U2 f2) ∈ A) (hm3 : HA.blk b3 (.cells u3 U3 f3) ∈ A) (hl1 : Nat.beq u1.size k1 = true) (hl2 : Nat.beq u2.size k2 = true) (hl3 : Nat.beq u3.size k3 = true)
    (hR : R (.tuple #[.agg u1, .agg u2, .agg u3, v4]) B) (hp : Part A B) : WN ⟨P, n, w0, []⟩ (bodyPost P fn (Gives R w0)) .ret ρ A :=
  fun a w f s => by
    have c1 := cell_run hg1 hk1 hm1 hl1 s
    have c2 := cell_run hg2 hk2 hm2 hl2 s
    have c3 := cell_run hg3 hk3 hm3 hl3 s
    have h1 := f.get t1 _ hv1
    have h2 := f.get t2 _ hv2
    have h3 := f.get t3 _ hv3
    have h4 := f.get t4 _ hv4
    refine bodyPost_ret (v := .tuple #[.agg u1, .agg u2, .agg u3, v4]) ?_ f.defers ⟨_, B, rfl, hR, s.part hp⟩
    rw [Array.getD_eq_getD_getElem?] at h1 h2 h3 h4
    simp [results, hr, h1, h2, h3, h4, asAddr, c1, c2, c3]
end
end Go.Proofs.YtmmpngigaodcgaaGreat
