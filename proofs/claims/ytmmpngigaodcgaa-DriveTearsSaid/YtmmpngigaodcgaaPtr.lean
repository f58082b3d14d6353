/- Calls that alter memory of the caller's; fields and elements of several cells; arrays and structs held against each other. -/
import Derived.Test.YtmmpngigaodcgaaSgn
import Derived.Test.YtmmpngigaodcgaaStr
import Derived.ChangeKeysEq
namespace Go.Proofs.Ytmmpngigaodcgaa
set_option linter.unusedVariables false
set_option linter.unusedSimpArgs false
open Go Go.RowKit
section
variable {X : Cx} {ops : Array Oper} {Q : Exit → Act → World → Prop} {ρ : Env} {A B C : List HA} {rest : List Oper} {d : Tmp} {op : Op} {ty : TypeId} {ps : String} {af : Array Edge} {v : Value}

/-! ### Fields by number and offset; elements of several cells -/
def fieldB (P : Program) (t : TypeId) (i o : Nat) : Bool := match P.underlying t with
  | some (.struct fs) => (fs[i]?).any fun f => Nat.beq f.offset o && ((P.info? f.type).map (fun j => Nat.blt 0 j.size) == some true)
  | _ => false
theorem field_of {P : Program} {t : TypeId} {i o : Nat} (h : fieldB P t i o = true) : ∃ fs fd k, P.underlying t = some (.struct fs) ∧ fs[i]? = some fd ∧ fd.offset = o ∧ ∀ w, (sizeOf fd.type).run P w = .ok (k + 1) w := by
  unfold fieldB at h
  split at h
  · rename_i fs hu
    cases hq : fs[i]? with
    | none => simp [hq] at h
    | some fd =>
      simp only [hq, Option.any_some, Bool.and_eq_true] at h
      cases hi : P.info? fd.type with
      | none => simp [hi] at h
      | some j =>
        have h2 : Nat.blt 0 j.size = true := by simpa [hi] using h.2
        have h3 : 0 < j.size := blt_lt h2
        exact ⟨fs, fd, j.size - 1, hu, hq, Nat.eq_of_beq_eq_true h.1, sized (by rw [hi, Option.map_some]; congr 1; omega)⟩
  · cases h
theorem Yl.fldN {x : Operand} {t : TypeId} {i o b off : Nat} (hf : fieldB X.P t i o = true) (hx : ev ρ x = some (.pointer (some ⟨b, off, none⟩))) : Yl X (.fieldAddr t x i) ty ρ A (.pointer (some ⟨b, off + o, none⟩)) := by
  obtain ⟨fs, fd, k, hu, hq, rfl, hs⟩ := field_of hf
  exact Yl.fieldAt hu hq hs hx
theorem Yl.fldN0 {x : Operand} {t : TypeId} {i o b : Nat} (hf : fieldB X.P t i o = true) (hx : ev ρ x = some (.pointer (some ⟨b, 0, none⟩))) : Yl X (.fieldAddr t x i) ty ρ A (.pointer (some ⟨b, o, none⟩)) := by
  have := Yl.fldN (ty := ty) (A := A) hf hx
  rwa [Nat.zero_add] at this
theorem el_add (a : Option Addr) (i j : Nat) : el (el a i) j = el a (i + j) := by
  cases a with
  | none => rfl
  | some ad =>
    simp only [el, Option.map_some, Addr.add]
    by_cases h1 : i = 0
    · subst h1; simp
    · by_cases h2 : j = 0
      · subst h2; simp
      · rw [if_neg h1, if_neg h2, if_neg (by omega)]; simp [Nat.add_assoc]
theorem Yl.fldEl {x : Operand} {t : TypeId} {i o off : Nat} {a : Option Addr} {vs : List Value} (hf : fieldB X.P t i o = true) (hr : Rd X A a vs) (hv : vs ≠ []) (hx : ev ρ x = some (.pointer (el a off))) : Yl X (.fieldAddr t x i) ty ρ A (.pointer (el a (off + o))) := Yl.intro fun q ho _ ac w f s => by
  obtain ⟨ad, rfl⟩ := hr.some_ hv s
  obtain ⟨fs, fd, k, hu, hq, rfl, hs⟩ := field_of hf
  rw [← el_add]
  have hx' := f.ev hx
  simp only [el, Option.map_some] at hx' ⊢
  simp [execOp, ho, hx', Instr.fieldAt, run_underlying hu, hq, Instr.sureAddr, fieldPlace, hs]
theorem Yl.arrEl {x : Operand} {t e : TypeId} {n k off : Nat} {a : Option Addr} {vs : List Value} (hu : X.P.underlying t = some (.array n e)) (hs : ∀ w, (sizeOf e).run X.P w = .ok k w) (hr : Rd X A a vs) (hv : vs ≠ []) (hx : ev ρ x = some (.pointer (el a off))) :
    Yl X (.slice t x none none none) ty ρ A (.slice (el a off) n n) := Yl.intro fun q ho _ ac w f s => by
  obtain ⟨ad, rfl⟩ := hr.some_ hv s
  have hx' := f.ev hx
  have e2 := el_add (some ad) off 0
  rw [Nat.add_zero] at e2
  simp only [el, Option.map_some] at hx' e2 ⊢
  simp [execOp, ho, hx', Instr.sliceAt, run_underlying hu, Instr.sureAddr, Instr.sliceBounds, hs, Option.some.inj e2]
/-- Cells behind an element. -/
theorem Rd.el_ {a : Option Addr} {vs us : List Value} (h : Rd X A a vs) (off : Nat) (hv : (vs.drop off).take us.length = us) : Rd X A (el a off) us := fun w s => by
  rcases h w s with h2 | ⟨b, o, rfl, h2⟩
  · subst h2
    have : us = [] := by simpa using hv.symm
    exact .inl this
  · refine .inr ⟨b, o + off, by simp [el, add_off], fun i v hi => ?_⟩
    rw [← hv, List.getElem?_take] at hi
    split at hi
    · rw [List.getElem?_drop] at hi
      rw [Nat.add_assoc]; exact h2 _ v hi
    · cases hi
theorem el_zero (a : Option Addr) : el a 0 = a := by cases a <;> simp [el, Addr.add]
/-- Several cells of a row are loaded as one value. -/
theorem Yl.loadEl {x : Operand} {T : TypeId} {k off : Nat} {a : Option Addr} {vs : List Value} (us : List Value) (hg : ∀ w, (isAgg T).run X.P w = .ok true w) (hk : ∀ w, (sizeOf T).run X.P w = .ok k w) (hx : ev ρ x = some (.pointer (el a off))) (hr : Rd X A a vs)
    (hl : us.length = k) (hne : us ≠ []) (hv : (vs.drop off).take us.length = us) : Yl X (.load T x) ty ρ A (.agg us.toArray) := Yl.intro fun o ho _ ac w f s => by
  have hr2 := hr.el_ off hv
  obtain ⟨ad, e⟩ := hr2.some_ hne s
  have hc : ∀ i u, us[i]? = some u → w.cell? (ad.add i) = some u := fun i u hu => by
    obtain ⟨ad2, h2, h3⟩ := hr2.at_ hu s
    rw [e] at h2
    simp only [el, Option.map_some] at h2
    rwa [← Option.some.inj h2] at h3
  have hl' := run_loadCells_list (P := X.P) w ad us hc
  rw [hl] at hl'
  have hx' := f.ev hx
  rw [e] at hx'
  simp [execOp, ho, hx', Instr.loadAt, Instr.sureAddr, loadVar, hg, hk, hl']

/-! ### Calls that alter memory of the caller's -/
def GivesS (S : List Nat) (R : Value → List HA → Prop) (w : World) (e : Ending) (w' : World) : Prop := ∃ v B, e = .returned v ∧ R v B ∧ St w S B w'
/-- Cells that lie outside of what may be altered. -/
def CellsOut (w : World) (S : List Nat) (a : Option Addr) (vs : List Value) : Prop := vs = [] ∨ ∃ b off, a = some ⟨b, off, none⟩ ∧ b ∉ S ∧ ∀ i v, vs[i]? = some v → w.cell? ⟨b, off + i, none⟩ = some v
theorem CellsOut.at_ {w : World} {S : List Nat} {a : Option Addr} {vs : List Value} (h : CellsOut w S a vs) : CellsAt w a vs := h.imp id fun ⟨b, off, h1, _, h2⟩ => ⟨b, off, h1, h2⟩
theorem CellsAt.out {w : World} {a : Option Addr} {vs : List Value} (h : CellsAt w a vs) : CellsOut w [] a vs := h.imp id fun ⟨b, off, h1, h2⟩ => ⟨b, off, h1, by simp, h2⟩
theorem CellsOut.pass {w0 w : World} {S S' : List Nat} {A : List HA} {a : Option Addr} {vs : List Value} (h : CellsOut w0 S a vs) (s : St w0 S A w) (hS : ∀ b ∈ S', ∃ x ∈ A, x.foot = some b) : CellsOut w S' a vs := by
  rcases h with h | ⟨b, off, rfl, hb, h⟩
  · exact .inl h
  · by_cases hv : vs = []
    · exact .inl hv
    · obtain ⟨u, hu⟩ : ∃ u, vs[0]? = some u := by cases vs with | nil => exact absurd rfl hv | cons u r => exact ⟨u, rfl⟩
      have hlt : b < w0.heap.size := World.block_lt_of_cell? w0 ⟨b, off + 0, none⟩ (h 0 u hu)
      refine .inr ⟨b, off, rfl, fun hb2 => ?_, fun i v hi => ?_⟩
      · obtain ⟨x, hx, hf⟩ := hS b hb2
        rcases s.mine x hx b hf with h2 | h2
        · exact hb h2
        · omega
      · rw [World.cell?_of_block (w := w0) (w' := w) (a := ⟨b, off + i, none⟩) (s.kept.block b hlt hb)]
        exact h i v hi
theorem Rd.out {P : Program} {n : Nat} {w0 : World} {S : List Nat} {A : List HA} {a : Option Addr} {vs : List Value} (h : CellsOut w0 S a vs) : Rd ⟨P, n, w0, S⟩ A a vs := fun _ s => (h.pass (S' := []) s (by simp)).at_
theorem St.lend {w0 w : World} {S : List Nat} {A0 : List HA} (h : St w0 S (A0 ++ A) w) : St w (A0.filterMap HA.foot) A0 w := by
  refine ⟨⟨rfl, rfl, rfl, Nat.le_refl _, fun _ _ _ => rfl⟩, fun x hx => h.holds x (List.mem_append_left _ hx), ?_, fun x hx b hb => .inl (List.mem_filterMap.2 ⟨x, hx, hb⟩)⟩
  have := h.apart
  rw [List.filterMap_append, List.nodup_append] at this
  exact this.1
theorem WL.callS {A0 : List HA} {R : Value → List HA → Prop} {g : FuncId} {xs : List Operand} {ts : Array TypeId} {vs : List Value} (he : ∀ args w, (callFunc g args).run X.P w = .ok (.enter g args) w) (hx : evs ρ xs = some vs) (hp : A.Perm (A0 ++ B))
    (hc : ∀ w, St X.w0 X.S A w → St w (A0.filterMap HA.foot) A0 w → Calls X.P g vs.toArray w (GivesS (A0.filterMap HA.foot) R w)) (hd : Nat.blt d X.n = true) (h : ∀ v C, R v C → WL X ops Q rest ((d, v) :: ρ) (C ++ B)) :
    WL X ops Q (⟨some d, .call { callee := .value (.func g), args := xs.toArray, argTypes := ts }, ty, ps, af, none⟩ :: rest) ρ A :=
  fun a w f s => wpList_plain rfl fun K hK => by
    unfold Oper.wp
    have e := evs_map f hx
    have hr : (execOp a.eval ⟨some d, .call { callee := .value (.func g), args := xs.toArray, argTypes := ts }, ty, ps, af, none⟩).run X.P w = .ok (.enter g vs.toArray) w := by
      simp [execOp, resolve, Deferred.ofValue, Act.eval, invoke, e, he]
    rw [hr]
    have s1 := s.perm hp
    exact (hc w s s1.lend).mono fun e w' hq => by
      obtain ⟨v, B, rfl, hR, hs⟩ := hq
      exact hK _ _ (h v B hR _ _ (f.put (blt_lt hd) v) (s1.join (fun b hb => by obtain ⟨x, hx, hf⟩ := List.mem_filterMap.1 hb; exact ⟨x, hx, hf⟩) hs))
/-- A call of a function value with what it is bound to. -/
theorem WL.callB {A0 : List HA} {R : Value → List HA → Prop} {g : FuncId} {x : Operand} {xs : List Operand} {ts : Array TypeId} {vs bd : List Value} (he : ∀ args w, (callFunc g args).run X.P w = .ok (.enter g args) w) (hf : ev ρ x = some (.func (.func g) bd.toArray #[])) (hx : evs ρ xs = some vs) (hp : A.Perm (A0 ++ B))
    (hc : ∀ w, St X.w0 X.S A w → St w (A0.filterMap HA.foot) A0 w → Calls X.P g (bd ++ vs).toArray w (GivesS (A0.filterMap HA.foot) R w)) (hd : Nat.blt d X.n = true) (h : ∀ v C, R v C → WL X ops Q rest ((d, v) :: ρ) (C ++ B)) :
    WL X ops Q (⟨some d, .call { callee := .value x, args := xs.toArray, argTypes := ts }, ty, ps, af, none⟩ :: rest) ρ A :=
  fun a w f s => wpList_plain rfl fun K hK => by
    unfold Oper.wp
    have e := evs_map f hx
    have e2 := f.ev hf
    have hr : (execOp a.eval ⟨some d, .call { callee := .value x, args := xs.toArray, argTypes := ts }, ty, ps, af, none⟩).run X.P w = .ok (.enter g (bd ++ vs).toArray) w := by
      simp [execOp, resolve, Deferred.ofValue, e2, invoke, e, he]
    rw [hr]
    have s1 := s.perm hp
    exact (hc w s s1.lend).mono fun e w' hq => by
      obtain ⟨v, B, rfl, hR, hs⟩ := hq
      exact hK _ _ (h v B hR _ _ (f.put (blt_lt hd) v) (s1.join (fun b hb => by obtain ⟨x, hx, hf⟩ := List.mem_filterMap.1 hb; exact ⟨x, hx, hf⟩) hs))
theorem Yl.bindFunc {g : FuncId} {xs : List Operand} {vs : List Value} (hx : evs ρ xs = some vs) : Yl X (.makeFunc (.func g) xs.toArray #[]) ty ρ A (.func (.func g) vs.toArray #[]) := Yl.intro fun o ho _ a w f _ => by
  have e := evs_map f hx
  simp [execOp, ho, Instr.makeFunc, e]
end
section
variable {X : Cx} {ops : Array Oper} {Q : Exit → Act → World → Prop} {ρ : Env} {A A0 : List HA} {d : Tmp} {op : Op} {ty : TypeId} {ps : String} {af : Array Edge} {fuel : Nat} {listed : Array Bool}
/-- In a drawn region: a guard on an operation that was passed by. -/
theorem WT.passU {i j t : Nat} {r : List Nat} {want : Bool} (hi : ops[i]? = some ⟨some d, op, ty, ps, af, some (j, want)⟩) (hj : (ops[j]?).bind (·.dst) = some t) (hv : lk ρ t = some undef)
    (hQ : ∀ c a w, Q (.panic c) (a.put (some d) undef) w → Q (.panic c) a w) (hd : Nat.blt d X.n = true) (hf : Region.free .any ops listed i = true) (hr : (Region.ready .any ops listed).contains i = true)
    (h : WT X A0 ops Q r fuel (listed.setIfInBounds i true) ((d, undef) :: ρ) A) : WT X A0 ops Q (i :: r) (fuel + 1) listed ρ A := fun ⟨hp, hs⟩ => ⟨fun a w f s => by
  have h1 := f.get t _ hv
  have h3 : yielded ops a.tmps j = none := by
    unfold yielded
    rw [hj]
    rw [Array.getD_eq_getD_getElem?] at h1
    cases h4 : a.tmps[t]? with
    | none => simp [h4]
    | some u => rw [h4] at h1; simp at h1; subst h1; simp [h4, undef]
  exact wpAnyH_take hi hs hf hr hQ (.inr ⟨by simp [Region.wanted, h3], rfl⟩) (s.part hp) ((h ⟨hp, hs⟩).1 _ _ (f.put (blt_lt hd) undef) s), rfl⟩
end
theorem enterS {P : Program} {g : FuncId} {fn : Func} {c : Code} {args : List Value} {w : World} {R : Ending → World → Prop} {n : Nat} {S : List Nat} {A : List HA} (hf : P.funcs[g]? = some fn) (hn : fn.ntmps = n) (hb : fn.body = some c) (hl : Nat.ble args.length n = true)
    (s : St w S A w) (h : WC ⟨P, n, w, S⟩ c (bodyPost P fn R) (argEnv 0 args) A) : Calls P g args.toArray w R := by
  have hle : args.length ≤ n := Nat.le_of_ble_eq_true hl
  refine calls_of_wp hf hb (h _ _ ⟨?_, rfl, fun t v ht => ?_⟩ s)
  · simp [hn]; omega
  · obtain ⟨j, hj, hv⟩ := lk_argEnv args 0 t v ht
    have hj' : t = j := by omega
    subst hj'
    have hlt : t < args.length := (List.getElem?_eq_some_iff.1 hv).1
    have h2 : args[t] = v := (List.getElem?_eq_some_iff.1 hv).2
    simp [Array.getD_eq_getD_getElem?, Array.getElem?_append, hlt, h2]
section
variable {P : Program} {fn : Func} {R : Value → List HA → Prop} {ρ : Env} {A B : List HA} {n : Nat} {w0 : World} {S : List Nat} {v : Value}
theorem WN.ret1S {t : Tmp} (hr : fn.results = #[.tmp t]) (hv : lk ρ t = some v) (hR : R v B) (hp : Part A B) : WN ⟨P, n, w0, S⟩ (bodyPost P fn (GivesS S R w0)) .ret ρ A :=
  fun a w f s => bodyPost_ret (results_tmp hr _ _ _) f.defers (by rw [f.get t v hv]; exact ⟨v, B, rfl, hR, s.part hp⟩)
theorem WN.end0S (hr : fn.results = #[]) (hR : R (.tuple #[]) B) (hp : Part A B) : WN ⟨P, n, w0, S⟩ (bodyPost P fn (GivesS S R w0)) .normal ρ A :=
  fun _ _ f s => bodyPost_end (results_none hr _ _ _) f.defers ⟨_, B, rfl, hR, s.part hp⟩
theorem WN.ret0S (hr : fn.results = #[]) (hR : R (.tuple #[]) B) (hp : Part A B) : WN ⟨P, n, w0, S⟩ (bodyPost P fn (GivesS S R w0)) .ret ρ A :=
  fun _ _ f s => bodyPost_ret (results_none hr _ _ _) f.defers ⟨_, B, rfl, hR, s.part hp⟩
theorem WN.ret1CS {t : Tmp} {T T' : TypeId} {b k : Nat} {us : Array Value} {fr : Nat × Nat} (hr : fn.results = #[.cell t T]) (hg : ∀ w, (isAgg T).run P w = .ok true w) (hk : ∀ w, (sizeOf T).run P w = .ok k w)
    (hv : lk ρ t = some (.pointer (some ⟨b, 0, none⟩))) (hm : HA.blk b (.cells us T' fr) ∈ A) (hl : us.size = k) (hR : R (.agg us) B) (hp : Part A B) :
    WN ⟨P, n, w0, S⟩ (bodyPost P fn (GivesS S R w0)) .ret ρ A :=
  fun a w f s => by
    have hc := cell_run hg hk hm (by rw [hl]; exact Nat.beq_refl k) s
    have h1 := f.get t _ hv
    refine bodyPost_ret (v := .agg us) ?_ f.defers ⟨_, B, rfl, hR, s.part hp⟩
    rw [Array.getD_eq_getD_getElem?] at h1
    simp [results, hr, h1, asAddr, hc]
end

/-! ### Integers of several cells held against each other -/
section
variable {P : Program} (w : World)
theorem run_eqItems_bytes (dp : Nat) {e : TypeId} (hu : P.underlying e = some (.int .u8)) (l m : List UInt8) : ∀ is : List Nat, (∀ i ∈ is, i < l.length ∧ i < m.length) →
    (Op.eqItems (dp + 1) e 1 (bs l).toArray (bs m).toArray is).run P w = .ok (is.all fun i => l.getD i 0 == m.getD i 0) w
  | [], _ => by simp [Op.eqItems]
  | i :: is, h => by
    obtain ⟨h1, h2⟩ := h i (.head _)
    have ih := run_eqItems_bytes dp hu l m is fun j hj => h j (.tail _ hj)
    have p1 : (part e (bs l).toArray (i * 1)).run P w = .ok (bv (l.getD i 0)) w := by
      have := bs_get h1
      simp [part, isAgg, run_underlying hu, this]
    have p2 : (part e (bs m).toArray (i * 1)).run P w = .ok (bv (m.getD i 0)) w := by
      have := bs_get h2
      simp [part, isAgg, run_underlying hu, this]
    have p3 : (Op.equalIn (dp + 1) e (bv (l.getD i 0)) (bv (m.getD i 0))).run P w = .ok (l.getD i 0 == m.getD i 0) w := by
      have := run_equalIn_int (P := P) w dp e .u8 .u8 ((l.getD i 0).toNat : Int) ((m.getD i 0).toNat : Int) hu
      rw [bv, bv, this]
      congr 1
      rw [Bool.eq_iff_iff]; simp only [beq_iff_eq, Int.natCast_inj, UInt8.toNat_inj]
    simp only [Op.eqItems, Sem.run_bind, p1, p2, p3, Result.andThen_ok, List.all_cons]
    cases hb : (l.getD i 0 == m.getD i 0) with
    | false => simp
    | true => simpa using ih
theorem all_getD {l m : List UInt8} {n : Nat} (hl : l.length = n) (hm : m.length = n) : ((List.range n).all fun i => l.getD i 0 == m.getD i 0) = decide (l = m) := by
  rw [Bool.eq_iff_iff, List.all_eq_true, decide_eq_true_iff]
  constructor
  · intro h
    refine List.ext_getElem (by omega) fun i h1 h2 => ?_
    have := h i (List.mem_range.2 (by omega))
    simpa [List.getD, h1, h2] using this
  · rintro rfl; simp
theorem run_equalIn_bytes (dp : Nat) {t e : TypeId} {n : Nat} {i : TypeInfo} (hu : P.underlying t = some (.array n e)) (he : P.underlying e = some (.int .u8)) (hi : P.info? e = some i) (hs : i.size = 1) {l m : List UInt8} (hl : l.length = n) (hm : m.length = n) :
    (Op.equalIn (dp + 2) t (.agg (bs l).toArray) (.agg (bs m).toArray)).run P w = .ok (decide (l = m)) w := by
  have hc : P.cellsOf e = 1 := by simp [Program.cellsOf, hi, hs]
  rw [run_equalIn_array w (dp + 1) _ _ hu hi, hc, run_eqItems_bytes w dp he l m _ (fun i hi => by have := List.mem_range.1 hi; omega), all_getD hl hm]
end
/-- A struct of a whole number and an array of bytes. -/
def keyB (P : Program) (t a e : TypeId) (n : Nat) : Bool := match P.underlying t with
  | some (.struct fs) => !P.stoodInHeld t && !P.eqGuardType P.depth t && (match fs.toList with
    | [f, g] => f.name != "_" && g.name != "_" && Nat.beq f.offset 0 && Nat.beq g.offset 1 && Nat.beq g.type a && (match P.underlying f.type with | some (.int _) => true | _ => false)
    | _ => false)
  | _ => false
section
variable {X : Cx} {ρ : Env} {A : List HA} {ty : TypeId}
theorem run_equalIn_key {P : Program} (w : World) (dp : Nat) {t a e : TypeId} {n : Nat} {i j : TypeInfo} {k : IntKind} (hb : keyB P t a e n = true) (hu : P.underlying a = some (.array n e)) (he : P.underlying e = some (.int .u8)) (hi : P.info? e = some i) (hs : i.size = 1) (hj : P.info? a = some j) (hjs : j.size = n)
    {l m : List UInt8} {x y : Int} (hl : l.length = n) (hm : m.length = n) :
    (Op.equalIn (dp + 3) t (.agg (.int k x :: bs l).toArray) (.agg (.int k y :: bs m).toArray)).run P w = .ok (decide (x = y ∧ l = m)) w ∧ P.eqGuardType P.depth t = false := by
  unfold keyB at hb
  split at hb
  · rename_i fs hfs
    simp only [Bool.and_eq_true, Bool.not_eq_true'] at hb
    obtain ⟨⟨h1, h2⟩, h3⟩ := hb
    refine ⟨?_, h2⟩
    have hfo : P.fieldsOf t = fs := by simp [Program.fieldsOf, hfs]
    rw [run_equalIn_struct w (dp + 2) t _ _ (by rw [hfo]; exact hfs) h1, hfo]
    split at h3
    · rename_i f g hfg
      simp only [Bool.and_eq_true] at h3
      obtain ⟨⟨⟨⟨⟨n1, n2⟩, o1⟩, o2⟩, ta⟩, tk⟩ := h3
      have o1 := Nat.eq_of_beq_eq_true o1
      have o2 := Nat.eq_of_beq_eq_true o2
      have ta := Nat.eq_of_beq_eq_true ta
      have n1' : f.name ≠ "_" := by simpa using n1
      have n2' : g.name ≠ "_" := by simpa using n2
      split at tk
      · rename_i k' hk'
        have p1 : ∀ (z : Int) (l : List UInt8), (part f.type (Value.int k z :: bs l).toArray f.offset).run P w = .ok (.int k z) w := fun z l => by
          rw [o1]; simp [part, isAgg, run_underlying hk']
        have p2 : ∀ (z : Int) (l : List UInt8), l.length = n → (part g.type (Value.int k z :: bs l).toArray g.offset).run P w = .ok (.agg (bs l).toArray) w := fun z l hl => by
          have e : ((Value.int k z :: bs l).toArray.extract 1 (1 + n)) = (bs l).toArray := by
            apply Array.ext'
            have : (bs l).length = n := by rw [bs_length, hl]
            simp [← this]
          rw [o2, ta]; simp only [part, isAgg, run_underlying hu, Go.sizeOf, typeInfo, hj, hjs, Sem.run_bind, Result.andThen_ok, Sem.run_pure]; simp [hj, hjs]; rw [List.take_of_length_le (by rw [bs_length]; omega)]
        have q1 : (Op.equalIn (dp + 2) f.type (.int k x) (.int k y)).run P w = .ok (x == y) w := run_equalIn_int w (dp + 1) f.type k k' x y hk'
        have q2 : (Op.equalIn (dp + 2) g.type (.agg (bs l).toArray) (.agg (bs m).toArray)).run P w = .ok (decide (l = m)) w := by rw [ta]; exact run_equalIn_bytes w dp hu he hi hs hl hm
        rw [hfg]
        simp only [Op.eqFields, n1', n2', ne_eq, not_false_eq_true, if_true, Sem.run_bind, p1, p2 _ _ hl, p2 _ _ hm, q1, q2, Result.andThen_ok]
        by_cases hxy : x = y
        · subst hxy
          simp only [BEq.rfl, Bool.not_true, Bool.false_eq_true, if_false, Sem.run_bind, p2 _ _ hl, p2 _ _ hm, q2, Result.andThen_ok]
          by_cases hlm : l = m
          · subst hlm; simp
          · rw [show decide (l = m) = false from decide_eq_false hlm, show decide (True ∧ l = m) = false from decide_eq_false fun h => hlm h.2]; simp
        · rw [show (x == y) = false by simpa using hxy, show decide (x = y ∧ l = m) = false from decide_eq_false fun h => hxy h.1]; simp
      · cases tk
    · cases h3
  · cases hb
structure KeyT (P : Program) (t : TypeId) : Prop where
  eq : ∀ (w : World) (k : IntKind) (l m : List UInt8) (x y : Int), l.length = 32 → m.length = 32 → (Op.equalIn 10000 t (.agg (.int k x :: bs l).toArray) (.agg (.int k y :: bs m).toArray)).run P w = .ok (decide (x = y ∧ l = m)) w
  guard : P.eqGuardType P.depth t = false
theorem KeyT.of {P : Program} {t a e : TypeId} (hb : keyB P t a e 32 = true) (hu : P.underlying a = some (.array 32 e)) (he : P.underlying e = some (.int .u8)) (hi : (P.info? e).map (fun i => i.size) = some 1) (hj : (P.info? a).map (fun i => i.size) = some 32) : KeyT P t := by
  obtain ⟨i, hi, hs⟩ := Option.map_eq_some_iff.1 hi
  obtain ⟨j, hj, hjs⟩ := Option.map_eq_some_iff.1 hj
  exact ⟨fun w k l m x y hl hm => (run_equalIn_key w 9997 (k := k) (x := x) (y := y) hb hu he hi hs hj hjs hl hm).1, (run_equalIn_key default 0 (k := .u64) (x := 0) (y := 0) (l := List.replicate 32 0) (m := List.replicate 32 0) hb hu he hi hs hj hjs (by simp) (by simp)).2⟩
structure ArrT (P : Program) (t : TypeId) (n : Nat) : Prop where
  eq : ∀ (w : World) (l m : List UInt8), l.length = n → m.length = n → (Op.equalIn 10000 t (.agg (bs l).toArray) (.agg (bs m).toArray)).run P w = .ok (decide (l = m)) w
  guard : P.eqGuardType P.depth t = false
theorem ArrT.of {P : Program} {t e : TypeId} {n : Nat} (hu : P.underlying t = some (.array n e)) (he : P.underlying e = some (.int .u8)) (hi : (P.info? e).map (fun i => i.size) = some 1) (hg : P.eqGuardType P.depth t = false) : ArrT P t n := by
  obtain ⟨i, hi, hs⟩ := Option.map_eq_some_iff.1 hi
  exact ⟨fun w l m hl hm => run_equalIn_bytes w 9998 hu he hi hs hl hm, hg⟩
theorem Yl.eqlK {x y : Operand} {t u : TypeId} {k : IntKind} {l m : List UInt8} {p q : Int} (ht : KeyT X.P t) (hx : ev ρ x = some (.agg (.int k p :: bs l).toArray)) (hy : ev ρ y = some (.agg (.int k q :: bs m).toArray)) (hl : l.length = 32) (hm : m.length = 32) :
    Yl X (.binOp .eql t x y u) ty ρ A (.bool (decide (p = q ∧ l = m))) := Yl.intro fun o ho _ ac w f _ => by
  simp only [execOp, ho, f.ev hx, f.ev hy, Sem.run_bind, run_eqGuard_agg w .eql t x y _ _ ht.guard, Result.andThen_ok, run_eql_struct, ht.eq w k l m p q hl hm, Sem.run_pure]
theorem Yl.neqK {x y : Operand} {t u : TypeId} {k : IntKind} {l m : List UInt8} {p q : Int} (ht : KeyT X.P t) (hx : ev ρ x = some (.agg (.int k p :: bs l).toArray)) (hy : ev ρ y = some (.agg (.int k q :: bs m).toArray)) (hl : l.length = 32) (hm : m.length = 32) :
    Yl X (.binOp .neq t x y u) ty ρ A (.bool (!decide (p = q ∧ l = m))) := Yl.intro fun o ho _ ac w f _ => by
  simp only [execOp, ho, f.ev hx, f.ev hy, Sem.run_bind, run_eqGuard_agg w .neq t x y _ _ ht.guard, Result.andThen_ok, run_neq_struct, ht.eq w k l m p q hl hm, Sem.run_pure]
theorem Yl.neqA {x y : Operand} {t u : TypeId} {n : Nat} {l m : List UInt8} (ht : ArrT X.P t n) (hx : ev ρ x = some (.agg (bs l).toArray)) (hy : ev ρ y = some (.agg (bs m).toArray)) (hl : l.length = n) (hm : m.length = n) :
    Yl X (.binOp .neq t x y u) ty ρ A (.bool (!decide (l = m))) := Yl.intro fun o ho _ ac w f _ => by
  simp only [execOp, ho, f.ev hx, f.ev hy, Sem.run_bind, run_eqGuard_agg w .neq t x y _ _ ht.guard, Result.andThen_ok, run_neq_struct, ht.eq w l m hl hm, Sem.run_pure]
end
end Go.Proofs.Ytmmpngigaodcgaa
