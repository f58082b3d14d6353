import Derived.Test.YtbkdjfgkebkknaaGreatDoorRowJournalRowsMg3
import Derived.ChangeKeysEq
import Derived.Laws.Pointers
import Derived.Shelf.SlIterI.Nil
import Derived.Shelf.SortM.Plain
import Derived.Shelf.SortM.SortNone
import Derived.Shelf.SlMaps.Clone
import Derived.Test.YtbkdjfgkebkknaaGreatDoorProg
import Derived.Lib.AppendZerosOnto
namespace Go.Proofs.YtbkdjfgkebkknaaGreatDoor
set_option linter.unusedVariables false
set_option linter.unusedSimpArgs false
open Go Go.RowKit
section
variable {X : Cx} {ops : Array Oper} {Q : Exit → Act → World → Prop} {ρ : Env} {A B C : List HA} {rest : List Oper} {d : Tmp} {op : Op} {ty : TypeId} {ps : String} {af : Array Edge} {v : Value}

def fieldB (P : Program) (t : TypeId) (i o : Nat) : Bool := match P.underlying t with
  | some (.struct fs) => (fs[i]?).any fun f => Nat.beq f.offset o && ((P.info? f.type).map (fun j => Nat.blt 0 j.size) == some true)
  | _ => false
theorem field_of {P : Program} {t : TypeId} {i o : Nat} (h : fieldB P t i o = true) : ∃ fs fd k, P.underlying t = some (.struct fs) ∧ fs[i]? = some fd ∧ fd.offset = o ∧ ∀ w, (sizeOf fd.type).run P w = .ok (k + 1) w := by
  unfold fieldB at h
  split at h
  · rename_i fs hu
    cases hq : fs[i]? with
    | none => simp [hq] at h
    | some fd =>
      simp only [hq, Option.any_some, Bool.and_eq_true] at h
      cases hi : P.info? fd.type with
      | none => simp [hi] at h
      | some j =>
        have h2 : Nat.blt 0 j.size = true := by simpa [hi] using h.2
        have h3 : 0 < j.size := blt_lt h2
        exact ⟨fs, fd, j.size - 1, hu, hq, Nat.eq_of_beq_eq_true h.1, sized (by rw [hi, Option.map_some]; congr 1; omega)⟩
  · cases h
theorem Yl.fldN {x : Operand} {t : TypeId} {i o b off : Nat} (hf : fieldB X.P t i o = true) (hx : ev ρ x = some (.pointer (some ⟨b, off, none⟩))) : Yl X (.fieldAddr t x i) ty ρ A (.pointer (some ⟨b, off + o, none⟩)) := by
  obtain ⟨fs, fd, k, hu, hq, rfl, hs⟩ := field_of hf
  exact Yl.fieldAt hu hq hs hx
theorem Yl.fldN0 {x : Operand} {t : TypeId} {i o b : Nat} (hf : fieldB X.P t i o = true) (hx : ev ρ x = some (.pointer (some ⟨b, 0, none⟩))) : Yl X (.fieldAddr t x i) ty ρ A (.pointer (some ⟨b, o, none⟩)) := by
  have := Yl.fldN (ty := ty) (A := A) hf hx
  rwa [Nat.zero_add] at this
theorem el_add (a : Option Addr) (i j : Nat) : el (el a i) j = el a (i + j) := by
  cases a with
  | none => rfl
  | some ad =>
    simp only [el, Option.map_some, Addr.add]
    by_cases h1 : i = 0
    · subst h1; simp
    · by_cases h2 : j = 0
      · subst h2; simp
      · rw [if_neg h1, if_neg h2, if_neg (by omega)]; simp [Nat.add_assoc]
theorem Yl.fldEl {x : Operand} {t : TypeId} {i o off : Nat} {a : Option Addr} {vs : List Value} (hf : fieldB X.P t i o = true) (hr : Rd X A a vs) (hv : vs ≠ []) (hx : ev ρ x = some (.pointer (el a off))) : Yl X (.fieldAddr t x i) ty ρ A (.pointer (el a (off + o))) := Yl.intro fun q ho _ ac w f s => by
  obtain ⟨ad, rfl⟩ := hr.some_ hv s
  obtain ⟨fs, fd, k, hu, hq, rfl, hs⟩ := field_of hf
  rw [← el_add]
  have hx' := f.ev hx
  simp only [el, Option.map_some] at hx' ⊢
  simp [execOp, ho, hx', Instr.fieldAt, run_underlying hu, hq, Instr.sureAddr, fieldPlace, hs]
theorem Yl.arrEl {x : Operand} {t e : TypeId} {n k off : Nat} {a : Option Addr} {vs : List Value} (hu : X.P.underlying t = some (.array n e)) (hs : ∀ w, (sizeOf e).run X.P w = .ok k w) (hr : Rd X A a vs) (hv : vs ≠ []) (hx : ev ρ x = some (.pointer (el a off))) :
    Yl X (.slice t x none none none) ty ρ A (.slice (el a off) n n) := Yl.intro fun q ho _ ac w f s => by
  obtain ⟨ad, rfl⟩ := hr.some_ hv s
  have hx' := f.ev hx
  have e2 := el_add (some ad) off 0
  rw [Nat.add_zero] at e2
  simp only [el, Option.map_some] at hx' e2 ⊢
  simp [execOp, ho, hx', Instr.sliceAt, run_underlying hu, Instr.sureAddr, Instr.sliceBounds, hs, Option.some.inj e2]
theorem Rd.el_ {a : Option Addr} {vs us : List Value} (h : Rd X A a vs) (off : Nat) (hv : (vs.drop off).take us.length = us) : Rd X A (el a off) us := fun w s => by
  rcases h w s with h2 | ⟨b, o, rfl, h2⟩
  · subst h2
    have : us = [] := by simpa using hv.symm
    exact .inl this
  · refine .inr ⟨b, o + off, by simp [el, add_off], fun i v hi => ?_⟩
    rw [← hv, List.getElem?_take] at hi
    split at hi
    · rw [List.getElem?_drop] at hi
      rw [Nat.add_assoc]; exact h2 _ v hi
    · cases hi
theorem el_zero (a : Option Addr) : el a 0 = a := by cases a <;> simp [el, Addr.add]
theorem Yl.loadEl {x : Operand} {T : TypeId} {k off : Nat} {a : Option Addr} {vs : List Value} (us : List Value) (hg : ∀ w, (isAgg T).run X.P w = .ok true w) (hk : ∀ w, (sizeOf T).run X.P w = .ok k w) (hx : ev ρ x = some (.pointer (el a off))) (hr : Rd X A a vs)
    (hl : us.length = k) (hne : us ≠ []) (hv : (vs.drop off).take us.length = us) : Yl X (.load T x) ty ρ A (.agg us.toArray) := Yl.intro fun o ho _ ac w f s => by
  have hr2 := hr.el_ off hv
  obtain ⟨ad, e⟩ := hr2.some_ hne s
  have hc : ∀ i u, us[i]? = some u → w.cell? (ad.add i) = some u := fun i u hu => by
    obtain ⟨ad2, h2, h3⟩ := hr2.at_ hu s
    rw [e] at h2
    simp only [el, Option.map_some] at h2
    rwa [← Option.some.inj h2] at h3
  have hl' := run_loadCells_list (P := X.P) w ad us hc
  rw [hl] at hl'
  have hx' := f.ev hx
  rw [e] at hx'
  simp [execOp, ho, hx', Instr.loadAt, Instr.sureAddr, loadVar, hg, hk, hl']

def GivesS (S : List Nat) (R : Value → List HA → Prop) (w : World) (e : Ending) (w' : World) : Prop := ∃ v B, e = .returned v ∧ R v B ∧ St w S B w'
def CellsOut (w : World) (S : List Nat) (a : Option Addr) (vs : List Value) : Prop := vs = [] ∨ ∃ b off, a = some ⟨b, off, none⟩ ∧ b ∉ S ∧ ∀ i v, vs[i]? = some v → w.cell? ⟨b, off + i, none⟩ = some v
theorem CellsOut.at_ {w : World} {S : List Nat} {a : Option Addr} {vs : List Value} (h : CellsOut w S a vs) : CellsAt w a vs := h.imp id fun ⟨b, off, h1, _, h2⟩ => ⟨b, off, h1, h2⟩
theorem CellsAt.out {w : World} {a : Option Addr} {vs : List Value} (h : CellsAt w a vs) : CellsOut w [] a vs := h.imp id fun ⟨b, off, h1, h2⟩ => ⟨b, off, h1, by simp, h2⟩
theorem CellsOut.pass {w0 w : World} {S S' : List Nat} {A : List HA} {a : Option Addr} {vs : List Value} (h : CellsOut w0 S a vs) (s : St w0 S A w) (hS : ∀ b ∈ S', ∃ x ∈ A, x.foot = some b) : CellsOut w S' a vs := by
  rcases h with h | ⟨b, off, rfl, hb, h⟩
  · exact .inl h
  · by_cases hv : vs = []
    · exact .inl hv
    · obtain ⟨u, hu⟩ : ∃ u, vs[0]? = some u := by cases vs with | nil => exact absurd rfl hv | cons u r => exact ⟨u, rfl⟩
      have hlt : b < w0.heap.size := World.block_lt_of_cell? w0 ⟨b, off + 0, none⟩ (h 0 u hu)
      refine .inr ⟨b, off, rfl, fun hb2 => ?_, fun i v hi => ?_⟩
      · obtain ⟨x, hx, hf⟩ := hS b hb2
        rcases s.mine x hx b hf with h2 | h2
        · exact hb h2
        · omega
      · rw [World.cell?_of_block (w := w0) (w' := w) (a := ⟨b, off + i, none⟩) (s.kept.block b hlt hb)]
        exact h i v hi
theorem Rd.out {P : Program} {n : Nat} {w0 : World} {S : List Nat} {A : List HA} {a : Option Addr} {vs : List Value} (h : CellsOut w0 S a vs) : Rd ⟨P, n, w0, S⟩ A a vs := fun _ s => (h.pass (S' := []) s (by simp)).at_
theorem St.lend {w0 w : World} {S : List Nat} {A0 : List HA} (h : St w0 S (A0 ++ A) w) : St w (A0.filterMap HA.foot) A0 w := by
  refine ⟨⟨rfl, rfl, rfl, Nat.le_refl _, fun _ _ _ => rfl⟩, fun x hx => h.holds x (List.mem_append_left _ hx), ?_, fun x hx b hb => .inl (List.mem_filterMap.2 ⟨x, hx, hb⟩)⟩
  have := h.apart
  rw [List.filterMap_append, List.nodup_append] at this
  exact this.1
theorem WL.callS {A0 : List HA} {R : Value → List HA → Prop} {g : FuncId} {xs : List Operand} {ts : Array TypeId} {vs : List Value} (he : ∀ args w, (callFunc g args).run X.P w = .ok (.enter g args) w) (hx : evs ρ xs = some vs) (hp : A.Perm (A0 ++ B))
    (hc : ∀ w, St X.w0 X.S A w → St w (A0.filterMap HA.foot) A0 w → Calls X.P g vs.toArray w (GivesS (A0.filterMap HA.foot) R w)) (hd : Nat.blt d X.n = true) (h : ∀ v C, R v C → WL X ops Q rest ((d, v) :: ρ) (C ++ B)) :
    WL X ops Q (⟨some d, .call { callee := .value (.func g), args := xs.toArray, argTypes := ts }, ty, ps, af, none⟩ :: rest) ρ A :=
  fun a w f s => wpList_plain rfl fun K hK => by
    unfold Oper.wp
    have e := evs_map f hx
    have hr : (execOp a.eval ⟨some d, .call { callee := .value (.func g), args := xs.toArray, argTypes := ts }, ty, ps, af, none⟩).run X.P w = .ok (.enter g vs.toArray) w := by
      simp [execOp, resolve, Deferred.ofValue, Act.eval, invoke, e, he]
    rw [hr]
    have s1 := s.perm hp
    exact (hc w s s1.lend).mono fun e w' hq => by
      obtain ⟨v, B, rfl, hR, hs⟩ := hq
      exact hK _ _ (h v B hR _ _ (f.put (blt_lt hd) v) (s1.join (fun b hb => by obtain ⟨x, hx, hf⟩ := List.mem_filterMap.1 hb; exact ⟨x, hx, hf⟩) hs))
theorem WL.callB {A0 : List HA} {R : Value → List HA → Prop} {g : FuncId} {x : Operand} {xs : List Operand} {ts : Array TypeId} {vs bd : List Value} (he : ∀ args w, (callFunc g args).run X.P w = .ok (.enter g args) w) (hf : ev ρ x = some (.func (.func g) bd.toArray #[])) (hx : evs ρ xs = some vs) (hp : A.Perm (A0 ++ B))
    (hc : ∀ w, St X.w0 X.S A w → St w (A0.filterMap HA.foot) A0 w → Calls X.P g (bd ++ vs).toArray w (GivesS (A0.filterMap HA.foot) R w)) (hd : Nat.blt d X.n = true) (h : ∀ v C, R v C → WL X ops Q rest ((d, v) :: ρ) (C ++ B)) :
    WL X ops Q (⟨some d, .call { callee := .value x, args := xs.toArray, argTypes := ts }, ty, ps, af, none⟩ :: rest) ρ A :=
  fun a w f s => wpList_plain rfl fun K hK => by
    unfold Oper.wp
    have e := evs_map f hx
    have e2 := f.ev hf
    have hr : (execOp a.eval ⟨some d, .call { callee := .value x, args := xs.toArray, argTypes := ts }, ty, ps, af, none⟩).run X.P w = .ok (.enter g (bd ++ vs).toArray) w := by
      simp [execOp, resolve, Deferred.ofValue, e2, invoke, e, he]
    rw [hr]
    have s1 := s.perm hp
    exact (hc w s s1.lend).mono fun e w' hq => by
      obtain ⟨v, B, rfl, hR, hs⟩ := hq
      exact hK _ _ (h v B hR _ _ (f.put (blt_lt hd) v) (s1.join (fun b hb => by obtain ⟨x, hx, hf⟩ := List.mem_filterMap.1 hb; exact ⟨x, hx, hf⟩) hs))
theorem Yl.bindFunc {g : FuncId} {xs : List Operand} {vs : List Value} (hx : evs ρ xs = some vs) : Yl X (.makeFunc (.func g) xs.toArray #[]) ty ρ A (.func (.func g) vs.toArray #[]) := Yl.intro fun o ho _ a w f _ => by
  have e := evs_map f hx
  simp [execOp, ho, Instr.makeFunc, e]
end
section
variable {X : Cx} {ops : Array Oper} {Q : Exit → Act → World → Prop} {ρ : Env} {A A0 : List HA} {d : Tmp} {op : Op} {ty : TypeId} {ps : String} {af : Array Edge} {fuel : Nat} {listed : Array Bool}
theorem WT.passU {i j t : Nat} {r : List Nat} {want : Bool} (hi : ops[i]? = some ⟨some d, op, ty, ps, af, some (j, want)⟩) (hj : (ops[j]?).bind (·.dst) = some t) (hv : lk ρ t = some undef)
    (hQ : ∀ c a w, Q (.panic c) (a.put (some d) undef) w → Q (.panic c) a w) (hd : Nat.blt d X.n = true) (hf : Region.free .any ops listed i = true) (hr : (Region.ready .any ops listed).contains i = true)
    (h : WT X A0 ops Q r fuel (listed.setIfInBounds i true) ((d, undef) :: ρ) A) : WT X A0 ops Q (i :: r) (fuel + 1) listed ρ A := fun ⟨hp, hs⟩ => ⟨fun a w f s => by
  have h1 := f.get t _ hv
  have h3 : yielded ops a.tmps j = none := by
    unfold yielded
    rw [hj]
    rw [Array.getD_eq_getD_getElem?] at h1
    cases h4 : a.tmps[t]? with
    | none => simp [h4]
    | some u => rw [h4] at h1; simp at h1; subst h1; simp [h4, undef]
  exact wpAnyH_take hi hs hf hr hQ (.inr ⟨by simp [Region.wanted, h3], rfl⟩) (s.part hp) ((h ⟨hp, hs⟩).1 _ _ (f.put (blt_lt hd) undef) s), rfl⟩
end
theorem enterS {P : Program} {g : FuncId} {fn : Func} {c : Code} {args : List Value} {w : World} {R : Ending → World → Prop} {n : Nat} {S : List Nat} {A : List HA} (hf : P.funcs[g]? = some fn) (hn : fn.ntmps = n) (hb : fn.body = some c) (hl : Nat.ble args.length n = true)
    (s : St w S A w) (h : WC ⟨P, n, w, S⟩ c (bodyPost P fn R) (argEnv 0 args) A) : Calls P g args.toArray w R := by
  have hle : args.length ≤ n := Nat.le_of_ble_eq_true hl
  refine calls_of_wp hf hb (h _ _ ⟨?_, rfl, fun t v ht => ?_⟩ s)
  · simp [hn]; omega
  · obtain ⟨j, hj, hv⟩ := lk_argEnv args 0 t v ht
    have hj' : t = j := by omega
    subst hj'
    have hlt : t < args.length := (List.getElem?_eq_some_iff.1 hv).1
    have h2 : args[t] = v := (List.getElem?_eq_some_iff.1 hv).2
    simp [Array.getD_eq_getD_getElem?, Array.getElem?_append, hlt, h2]
section
variable {P : Program} {fn : Func} {R : Value → List HA → Prop} {ρ : Env} {A B : List HA} {n : Nat} {w0 : World} {S : List Nat} {v : Value}
theorem WN.ret1S {t : Tmp} (hr : fn.results = #[.tmp t]) (hv : lk ρ t = some v) (hR : R v B) (hp : Part A B) : WN ⟨P, n, w0, S⟩ (bodyPost P fn (GivesS S R w0)) .ret ρ A :=
  fun a w f s => bodyPost_ret (results_tmp hr _ _ _) f.defers (by rw [f.get t v hv]; exact ⟨v, B, rfl, hR, s.part hp⟩)
theorem WN.end0S (hr : fn.results = #[]) (hR : R (.tuple #[]) B) (hp : Part A B) : WN ⟨P, n, w0, S⟩ (bodyPost P fn (GivesS S R w0)) .normal ρ A :=
  fun _ _ f s => bodyPost_end (results_none hr _ _ _) f.defers ⟨_, B, rfl, hR, s.part hp⟩
end

section
variable {P : Program} (w : World)
theorem run_eqItems_bytes (dp : Nat) {e : TypeId} (hu : P.underlying e = some (.int .u8)) (l m : List UInt8) : ∀ is : List Nat, (∀ i ∈ is, i < l.length ∧ i < m.length) →
    (Op.eqItems (dp + 1) e 1 (bs l).toArray (bs m).toArray is).run P w = .ok (is.all fun i => l.getD i 0 == m.getD i 0) w
  | [], _ => by simp [Op.eqItems]
  | i :: is, h => by
    obtain ⟨h1, h2⟩ := h i (.head _)
    have ih := run_eqItems_bytes dp hu l m is fun j hj => h j (.tail _ hj)
    have p1 : (part e (bs l).toArray (i * 1)).run P w = .ok (bv (l.getD i 0)) w := by
      have := bs_get h1
      simp [part, isAgg, run_underlying hu, this]
    have p2 : (part e (bs m).toArray (i * 1)).run P w = .ok (bv (m.getD i 0)) w := by
      have := bs_get h2
      simp [part, isAgg, run_underlying hu, this]
    have p3 : (Op.equalIn (dp + 1) e (bv (l.getD i 0)) (bv (m.getD i 0))).run P w = .ok (l.getD i 0 == m.getD i 0) w := by
      have := run_equalIn_int (P := P) w dp e .u8 .u8 ((l.getD i 0).toNat : Int) ((m.getD i 0).toNat : Int) hu
      rw [bv, bv, this]
      congr 1
      rw [Bool.eq_iff_iff]; simp only [beq_iff_eq, Int.natCast_inj, UInt8.toNat_inj]
    simp only [Op.eqItems, Sem.run_bind, p1, p2, p3, Result.andThen_ok, List.all_cons]
    cases hb : (l.getD i 0 == m.getD i 0) with
    | false => simp
    | true => simpa using ih
theorem all_getD {l m : List UInt8} {n : Nat} (hl : l.length = n) (hm : m.length = n) : ((List.range n).all fun i => l.getD i 0 == m.getD i 0) = decide (l = m) := by
  rw [Bool.eq_iff_iff, List.all_eq_true, decide_eq_true_iff]
  constructor
  · intro h
    refine List.ext_getElem (by omega) fun i h1 h2 => ?_
    have := h i (List.mem_range.2 (by omega))
    simpa [List.getD, h1, h2] using this
  · rintro rfl; simp
theorem run_equalIn_bytes (dp : Nat) {t e : TypeId} {n : Nat} {i : TypeInfo} (hu : P.underlying t = some (.array n e)) (he : P.underlying e = some (.int .u8)) (hi : P.info? e = some i) (hs : i.size = 1) {l m : List UInt8} (hl : l.length = n) (hm : m.length = n) :
    (Op.equalIn (dp + 2) t (.agg (bs l).toArray) (.agg (bs m).toArray)).run P w = .ok (decide (l = m)) w := by
  have hc : P.cellsOf e = 1 := by simp [Program.cellsOf, hi, hs]
  rw [run_equalIn_array w (dp + 1) _ _ hu hi, hc, run_eqItems_bytes w dp he l m _ (fun i hi => by have := List.mem_range.1 hi; omega), all_getD hl hm]
end
def keyB (P : Program) (t a e : TypeId) (n : Nat) : Bool := match P.underlying t with
  | some (.struct fs) => !P.stoodInHeld t && !P.eqGuardType P.depth t && (match fs.toList with
    | [f, g] => f.name != "_" && g.name != "_" && Nat.beq f.offset 0 && Nat.beq g.offset 1 && Nat.beq g.type a && (match P.underlying f.type with | some (.int _) => true | _ => false)
    | _ => false)
  | _ => false
section
variable {X : Cx} {ρ : Env} {A : List HA} {ty : TypeId}
theorem run_equalIn_key {P : Program} (w : World) (dp : Nat) {t a e : TypeId} {n : Nat} {i j : TypeInfo} {k : IntKind} (hb : keyB P t a e n = true) (hu : P.underlying a = some (.array n e)) (he : P.underlying e = some (.int .u8)) (hi : P.info? e = some i) (hs : i.size = 1) (hj : P.info? a = some j) (hjs : j.size = n)
    {l m : List UInt8} {x y : Int} (hl : l.length = n) (hm : m.length = n) :
    (Op.equalIn (dp + 3) t (.agg (.int k x :: bs l).toArray) (.agg (.int k y :: bs m).toArray)).run P w = .ok (decide (x = y ∧ l = m)) w ∧ P.eqGuardType P.depth t = false := by
  unfold keyB at hb
  split at hb
  · rename_i fs hfs
    simp only [Bool.and_eq_true, Bool.not_eq_true'] at hb
    obtain ⟨⟨h1, h2⟩, h3⟩ := hb
    refine ⟨?_, h2⟩
    have hfo : P.fieldsOf t = fs := by simp [Program.fieldsOf, hfs]
    rw [run_equalIn_struct w (dp + 2) t _ _ (by rw [hfo]; exact hfs) h1, hfo]
    split at h3
    · rename_i f g hfg
      simp only [Bool.and_eq_true] at h3
      obtain ⟨⟨⟨⟨⟨n1, n2⟩, o1⟩, o2⟩, ta⟩, tk⟩ := h3
      have o1 := Nat.eq_of_beq_eq_true o1
      have o2 := Nat.eq_of_beq_eq_true o2
      have ta := Nat.eq_of_beq_eq_true ta
      have n1' : f.name ≠ "_" := by simpa using n1
      have n2' : g.name ≠ "_" := by simpa using n2
      split at tk
      · rename_i k' hk'
        have p1 : ∀ (z : Int) (l : List UInt8), (part f.type (Value.int k z :: bs l).toArray f.offset).run P w = .ok (.int k z) w := fun z l => by
          rw [o1]; simp [part, isAgg, run_underlying hk']
        have p2 : ∀ (z : Int) (l : List UInt8), l.length = n → (part g.type (Value.int k z :: bs l).toArray g.offset).run P w = .ok (.agg (bs l).toArray) w := fun z l hl => by
          have e : ((Value.int k z :: bs l).toArray.extract 1 (1 + n)) = (bs l).toArray := by
            apply Array.ext'
            have : (bs l).length = n := by rw [bs_length, hl]
            simp [← this]
          rw [o2, ta]; simp only [part, isAgg, run_underlying hu, Go.sizeOf, typeInfo, hj, hjs, Sem.run_bind, Result.andThen_ok, Sem.run_pure]; simp [hj, hjs]; rw [List.take_of_length_le (by rw [bs_length]; omega)]
        have q1 : (Op.equalIn (dp + 2) f.type (.int k x) (.int k y)).run P w = .ok (x == y) w := run_equalIn_int w (dp + 1) f.type k k' x y hk'
        have q2 : (Op.equalIn (dp + 2) g.type (.agg (bs l).toArray) (.agg (bs m).toArray)).run P w = .ok (decide (l = m)) w := by rw [ta]; exact run_equalIn_bytes w dp hu he hi hs hl hm
        rw [hfg]
        simp only [Op.eqFields, n1', n2', ne_eq, not_false_eq_true, if_true, Sem.run_bind, p1, p2 _ _ hl, p2 _ _ hm, q1, q2, Result.andThen_ok]
        by_cases hxy : x = y
        · subst hxy
          simp only [BEq.rfl, Bool.not_true, Bool.false_eq_true, if_false, Sem.run_bind, p2 _ _ hl, p2 _ _ hm, q2, Result.andThen_ok]
          by_cases hlm : l = m
          · subst hlm; simp
          · rw [show decide (l = m) = false from decide_eq_false hlm, show decide (True ∧ l = m) = false from decide_eq_false fun h => hlm h.2]; simp
        · rw [show (x == y) = false by simpa using hxy, show decide (x = y ∧ l = m) = false from decide_eq_false fun h => hxy h.1]; simp
      · cases tk
    · cases h3
  · cases hb
structure KeyT (P : Program) (t : TypeId) : Prop where
  eq : ∀ (w : World) (k : IntKind) (l m : List UInt8) (x y : Int), l.length = 32 → m.length = 32 → (Op.equalIn 10000 t (.agg (.int k x :: bs l).toArray) (.agg (.int k y :: bs m).toArray)).run P w = .ok (decide (x = y ∧ l = m)) w
  guard : P.eqGuardType P.depth t = false
theorem KeyT.of {P : Program} {t a e : TypeId} (hb : keyB P t a e 32 = true) (hu : P.underlying a = some (.array 32 e)) (he : P.underlying e = some (.int .u8)) (hi : (P.info? e).map (fun i => i.size) = some 1) (hj : (P.info? a).map (fun i => i.size) = some 32) : KeyT P t := by
  obtain ⟨i, hi, hs⟩ := Option.map_eq_some_iff.1 hi
  obtain ⟨j, hj, hjs⟩ := Option.map_eq_some_iff.1 hj
  exact ⟨fun w k l m x y hl hm => (run_equalIn_key w 9997 (k := k) (x := x) (y := y) hb hu he hi hs hj hjs hl hm).1, (run_equalIn_key default 0 (k := .u64) (x := 0) (y := 0) (l := List.replicate 32 0) (m := List.replicate 32 0) hb hu he hi hs hj hjs (by simp) (by simp)).2⟩
structure ArrT (P : Program) (t : TypeId) (n : Nat) : Prop where
  eq : ∀ (w : World) (l m : List UInt8), l.length = n → m.length = n → (Op.equalIn 10000 t (.agg (bs l).toArray) (.agg (bs m).toArray)).run P w = .ok (decide (l = m)) w
  guard : P.eqGuardType P.depth t = false
theorem ArrT.of {P : Program} {t e : TypeId} {n : Nat} (hu : P.underlying t = some (.array n e)) (he : P.underlying e = some (.int .u8)) (hi : (P.info? e).map (fun i => i.size) = some 1) (hg : P.eqGuardType P.depth t = false) : ArrT P t n := by
  obtain ⟨i, hi, hs⟩ := Option.map_eq_some_iff.1 hi
  exact ⟨fun w l m hl hm => run_equalIn_bytes w 9998 hu he hi hs hl hm, hg⟩
end
end Go.Proofs.YtbkdjfgkebkknaaGreatDoor
namespace Go.Proofs.YtbkdjfgkebkknaaGreatDoor
set_option linter.unusedVariables false
set_option linter.unusedSimpArgs false
open Go Go.RowKit
set_option maxRecDepth 100000
def Has (X : Cx) (A : List HA) (b : Nat) (o : Obj) : Prop := ∀ w, St X.w0 X.S A w → w.heap[b]? = some o
theorem Has.mem {X : Cx} {A : List HA} {b : Nat} {o : Obj} (h : HA.blk b o ∈ A) : Has X A b o := fun _ s => s.holds _ h
theorem Has.old {P : Program} {n : Nat} {w0 : World} {A : List HA} {b : Nat} {o : Obj} (h : w0.heap[b]? = some o) : Has ⟨P, n, w0, []⟩ A b o := fun _ s => (s.kept.block b (lt_of_heap h) (by simp)).trans h
theorem Yl.loadH {X : Cx} {A : List HA} {ρ : Env} {ty : TypeId} {v : Value} {x : Operand} {T T' : TypeId} {b off : Nat} {cs : Array Value} {fr : Nat × Nat} (hg : ∀ w, (isAgg T).run X.P w = .ok false w) (hx : ev ρ x = some (.pointer (some ⟨b, off, none⟩)))
    (hm : Has X A b (.cells cs T' fr)) (hv : cs[off]? = some v) : Yl X (.load T x) ty ρ A v := Yl.intro fun o ho _ a w f s => by
  have hc : w.cell? ⟨b, off, none⟩ = some v := by simp [World.cell?, hm w s, hv]
  simp [execOp, ho, f.ev hx, Instr.loadAt, Instr.sureAddr, loadVar, hg, hc]
theorem Yl.neqPN {X : Cx} {A : List HA} {ρ : Env} {ty : TypeId} {x : Operand} {t u : TypeId} {p : Option Addr} (ht : X.P.underlying t = some (.pointer (X.P.pointee t))) (hx : ev ρ x = some (.pointer p)) :
    Yl X (.binOp .neq t x (.const (.pointer none)) u) ty ρ A (.bool p.isSome) := Yl.intro fun o ho _ a w f s => by
  have e : a.eval (.const (.pointer none)) = .pointer none := rfl
  simp [execOp, ho, f.ev hx, e, binOp, eqGuard, run_equal_pointer_nil w t p ht]
theorem Yl.eqlPN {X : Cx} {A : List HA} {ρ : Env} {ty : TypeId} {x : Operand} {t u : TypeId} {p : Option Addr} (ht : X.P.underlying t = some (.pointer (X.P.pointee t))) (hx : ev ρ x = some (.pointer p)) :
    Yl X (.binOp .eql t x (.const (.pointer none)) u) ty ρ A (.bool p.isNone) := Yl.intro fun o ho _ a w f s => by
  have e : a.eval (.const (.pointer none)) = .pointer none := rfl
  simp [execOp, ho, f.ev hx, e, binOp, eqGuard, run_equal_pointer_nil w t p ht]
theorem run_getObj_map {P : Program} {w : World} {r : Nat} {es : Array MapEntry} {c : Nat} (h : w.heap[r]? = some (.map es c)) : (getObj r).run P w = .ok (.map es c) w := by
  simp [getObj, Sem.run, h]
def mset (w : World) (b : Nat) (o : Obj) : World := { w with heap := w.heap.setIfInBounds b o }
theorem run_setObj_map {P : Program} {w : World} {r : Nat} {es : Array MapEntry} {c : Nat} (o : Obj) (h : w.heap[r]? = some (.map es c)) : (setObj r o).run P w = .ok () (mset w r o) := by
  simp [setObj, Sem.run, h, mset]
theorem Kept.mset (w : World) (b : Nat) (o : Obj) : Kept w [b] (mset w b o) := ⟨rfl, rfl, rfl, by simp [Go.Proofs.YtbkdjfgkebkknaaGreatDoor.mset], fun k _ hk => by
  simp at hk
  simp [Go.Proofs.YtbkdjfgkebkknaaGreatDoor.mset, Array.getElem?_setIfInBounds_ne (Ne.symm hk)]⟩
section
variable {β : Type} {X : Cx} {ops : Array Oper} {Q : Exit → Act → World → Prop} {ρ : Env} {A B : List HA} {rest : List Oper} {d : Tmp} {ty : TypeId} {ps : String} {af : Array Edge} {v : Value}
theorem WL.makeMap {t : TypeId} {enc : β → Value} (hd : Nat.blt d X.n = true) (h : ∀ b, WL X ops Q rest ((d, .map (some b)) :: ρ) (.blk b (mobj enc [] 0) :: A)) :
    WL X ops Q (⟨some d, .makeMap t none, ty, ps, af, none⟩ :: rest) ρ A :=
  WL.stepE (fun b : Nat => .map (some b)) (fun b => .blk b (mobj enc [] 0) :: A) (fun o ho _ a w f s =>
    ⟨w.heap.size, _, by simp [execOp, ho, run_makeMap_plain]; rfl, s.alloc _⟩) hd h
theorem checkKey_int {P : Program} {w : World} {K : TypeId} (hK : P.underlying K = some (.int .i64)) (e : Bool) (z : Int) : (Instr.checkKey e 10000 K (.int .i64 z)).run P w = .ok () w :=
  MapKept.run_checkKey (k := .int .i64 z) hK (by simp [MapKept.IsKey]) e 9999
theorem findKey_int {P : Program} {w : World} {K : TypeId} (hK : P.underlying K = some (.int .i64)) (enc : β → Value) (M : List (Nat × β × Nat)) (k : Nat) :
    (Instr.findKey K (.int .i64 (k : Int)) (M.map (ment enc)).toArray.toList).run P w = .ok ((fnd M k 0).map fun p => (p.1, enc p.2)) w :=
  MapKept.run_findKey hK (findNow_fnd enc k M 0)
section
variable {n c b k : Nat} {F : Nat → Option β} {M : List (Nat × β × Nat)} {enc : β → Value} {t K E : TypeId} {z : Value} {x y : Operand}
theorem Yl.lookupOk (hu : X.P.underlying t = some (.map K E)) (hK : X.P.underlying K = some (.int .i64)) (hz : ∀ w, (zeroValue E).run X.P w = .ok z w)
    (hx : ev ρ x = some (.map (some b))) (hy : ev ρ y = some (.int .i64 (k : Int))) (hM : MapIs n F M c) (hm : Has X A b (mobj enc M c)) :
    Yl X (.lookup t x y true) ty ρ A (.tuple #[((F k).map enc).getD z, .bool (F k).isSome]) := Yl.intro fun o ho _ a w f s => by
  have hb : w.heap[b]? = some (mobj enc M c) := hm w s
  have e := hM.fnd_eq k
  simp only [execOp, ho, f.ev hx, f.ev hy, Instr.lookup, Sem.run_bind, run_underlying hu, Result.andThen_ok, run_getObj_map hb, Sem.run_pure, checkKey_int hK, findKey_int hK]
  cases h : fnd M k 0 with
  | none => rw [h] at e; simp [← e, hz]
  | some p => rw [h] at e; simp [← e]
theorem Yl.lookupG {u0 : β} (hu : X.P.underlying t = some (.map K E)) (hK : X.P.underlying K = some (.int .i64)) (hz : ∀ w, (zeroValue E).run X.P w = .ok (enc u0) w)
    (hx : ev ρ x = some (.map (some b))) (hy : ev ρ y = some (.int .i64 (k : Int))) (hM : MapIs n F M c) (hm : Has X A b (mobj enc M c)) :
    Yl X (.lookup t x y false) ty ρ A (enc ((F k).getD u0)) := Yl.intro fun o ho _ a w f s => by
  have hb : w.heap[b]? = some (mobj enc M c) := hm w s
  have e := hM.fnd_eq k
  simp only [execOp, ho, f.ev hx, f.ev hy, Instr.lookup, Sem.run_bind, run_underlying hu, Result.andThen_ok, run_getObj_map hb, Sem.run_pure, checkKey_int hK, findKey_int hK]
  cases h : fnd M k 0 with
  | none => rw [h] at e; simp [← e, hz]
  | some p => rw [h] at e; simp [← e]
theorem Yl.lookupT {u : β} (hu : X.P.underlying t = some (.map K E)) (hK : X.P.underlying K = some (.int .i64)) (hz : ∀ w, (zeroValue E).run X.P w = .ok z w)
    (hx : ev ρ x = some (.map (some b))) (hy : ev ρ y = some (.int .i64 (k : Int))) (hM : MapIs n F M c) (hF : F k = some u) (hm : Has X A b (mobj enc M c)) :
    Yl X (.lookup t x y true) ty ρ A (.tuple #[enc u, .bool true]) := by
  have := Yl.lookupOk (X := X) (ty := ty) hu hK hz hx hy hM hm
  rwa [hF] at this
theorem Yl.lookupF (hu : X.P.underlying t = some (.map K E)) (hK : X.P.underlying K = some (.int .i64)) (hz : ∀ w, (zeroValue E).run X.P w = .ok z w)
    (hx : ev ρ x = some (.map (some b))) (hy : ev ρ y = some (.int .i64 (k : Int))) (hM : MapIs n F M c) (hF : F k = none) (hm : Has X A b (mobj enc M c)) :
    Yl X (.lookup t x y true) ty ρ A (.tuple #[z, .bool false]) := by
  have := Yl.lookupOk (X := X) (ty := ty) hu hK hz hx hy hM hm
  rwa [hF] at this
theorem keyStays {P : Program} {w : World} (z : Int) : (Instr.keyThatStays (.int .i64 z) (.int .i64 z)).run P w = .ok (.int .i64 z) w := by
  simp [Instr.keyThatStays, Instr.sameBits]
theorem WL.mapUpdate {y2 : Operand} {u : β} (hu : X.P.underlying t = some (.map K E)) (hK : X.P.underlying K = some (.int .i64))
    (hx : ev ρ x = some (.map (some b))) (hy : ev ρ y = some (.int .i64 (k : Int))) (hv : ev ρ y2 = some (enc u)) (hM : MapIs n F M c) (hk : k < n) (hp : Pick (.blk b (mobj enc M c)) A B)
    (h : ∀ M' c', MapIs n (setF F k (some u)) M' c' → WL X ops Q rest ρ (.blk b (mobj enc M' c') :: B)) :
    WL X ops Q (⟨none, .mapUpdate t x y y2, ty, ps, af, none⟩ :: rest) ρ A := by
  have hb0 : ∀ w, St X.w0 X.S A w → w.heap[b]? = some (mobj enc M c) := fun w s => (s.pick hp).holds _ (.head _)
  cases hf : fnd M k 0 with
  | none =>
    have e := hM.fnd_eq k
    rw [hf] at e
    refine WL.step0 (fun o ho _ a w f s => ?_) (h _ _ (hM.push e.symm hk))
    have s1 := s.pick hp
    refine ⟨.skip, mset w b (mobj enc (M ++ [(k, u, c)]) (c + 1)), ?_, .inl rfl, s1.put (x := .blk b _) (y := .blk b (mobj enc (M ++ [(k, u, c)]) (c + 1))) rfl rfl (Kept.mset w b _) ?_⟩
    · simp only [execOp, ho, f.ev hx, f.ev hy, f.ev hv, Instr.mapUpdate, Sem.run_bind, run_underlying hu, Result.andThen_ok, run_getObj_map (hb0 w s), checkKey_int hK, findKey_int hK, hf, Option.map_none, run_setObj_map _ (hb0 w s), Sem.run_pure]
      simp [mobj, ment]
    · show (mset w b _).heap[b]? = _
      have := (Array.getElem?_eq_some_iff.1 (hb0 w s)).1
      simp [mset, this]
  | some p =>
    obtain ⟨j, v0⟩ := p
    have e := hM.fnd_eq k
    rw [hf] at e
    obtain ⟨_, b0, hj⟩ := fnd_some hf
    rw [Nat.sub_zero] at hj
    have hmod := mput_modify enc k u hf
    rw [Nat.sub_zero] at hmod
    refine WL.step0 (fun o ho _ a w f s => ?_) (h _ _ (hM.put e.symm))
    have s1 := s.pick hp
    refine ⟨.skip, mset w b (mobj enc (mput M k u) c), ?_, .inl rfl, s1.put (x := .blk b _) (y := .blk b (mobj enc (mput M k u) c)) rfl rfl (Kept.mset w b _) ?_⟩
    · have hkey : (((M.map (ment enc)).toArray[j]?).map (·.key)).getD (.int .i64 (k : Int)) = .int .i64 (k : Int) := by simp [hj, ment]
      simp only [execOp, ho, f.ev hx, f.ev hy, f.ev hv, Instr.mapUpdate, Sem.run_bind, run_underlying hu, Result.andThen_ok, run_getObj_map (hb0 w s), checkKey_int hK, findKey_int hK, hf, Option.map_some, hkey, keyStays, run_setObj_map _ (hb0 w s), Sem.run_pure, List.modify_toArray, hmod]
      rfl
    · show (mset w b _).heap[b]? = _
      have := (Array.getElem?_eq_some_iff.1 (hb0 w s)).1
      simp [mset, this]
theorem WL.mapDelete {ats : Array TypeId} (hu : X.P.underlying t = some (.map K E)) (hK : X.P.underlying K = some (.int .i64)) (ha : ats[0]? = some t)
    (hx : ev ρ x = some (.map (some b))) (hy : ev ρ y = some (.int .i64 (k : Int))) (hM : MapIs n F M c) (hp : Pick (.blk b (mobj enc M c)) A B)
    (h : MapIs n (setF F k none) (mdel M k) c → WL X ops Q rest ρ (.blk b (mobj enc (mdel M k) c) :: B)) :
    WL X ops Q (⟨none, .call { callee := .builtin .delete, args := #[x, y], argTypes := ats }, ty, ps, af, none⟩ :: rest) ρ A := by
  have hb0 : ∀ w, St X.w0 X.S A w → w.heap[b]? = some (mobj enc M c) := fun w s => (s.pick hp).holds _ (.head _)
  have e := hM.fnd_eq k
  have key : ∀ M', (mobj enc M' c) = (mobj enc (mdel M k) c) → (∀ w, St X.w0 X.S A w → ∀ tyo, (Builtin.delete_ ats tyo #[.map (some b), .int .i64 (k : Int)]).run X.P w = .ok (.tuple #[]) (mset w b (mobj enc M' c))) →
      WL X ops Q (⟨none, .call { callee := .builtin .delete, args := #[x, y], argTypes := ats }, ty, ps, af, none⟩ :: rest) ρ A := fun M' he hr => by
    refine WL.step0 (fun o ho _ a w f s => ?_) (h (hM.del k))
    have s1 := s.pick hp
    refine ⟨.value (.tuple #[]), mset w b (mobj enc M' c), ?_, .inr ⟨_, rfl⟩, s1.put (x := .blk b _) (y := .blk b (mobj enc (mdel M k) c)) rfl rfl (Kept.mset w b _) ?_⟩
    · simp only [execOp, ho, resolve, invoke, builtin, Sem.run_bind, Sem.run_pure, Result.andThen_ok, List.map_toArray, List.map_cons, List.map_nil, f.ev hx, f.ev hy, hr w s]
    · show (mset w b _).heap[b]? = _
      have := (Array.getElem?_eq_some_iff.1 (hb0 w s)).1
      simp [mset, this, he]
  cases hf : fnd M k 0 with
  | none =>
    rw [hf] at e
    have hd : mdel M k = M := by
      rw [mdel_filter k hM.keys]
      exact List.filter_eq_self.2 fun x hx => by simpa using fnd_none hf x hx
    refine key M (by rw [hd]) fun w s tyo => ?_
    simp only [Builtin.delete_, ha, Sem.run_bind, run_underlying hu, Result.andThen_ok, run_getObj_map (hb0 w s), checkKey_int hK, findKey_int hK, hf, Option.map_none, run_setObj_map _ (hb0 w s), Sem.run_pure]
    simp [Sem.run_bind, run_underlying hu, Result.andThen_ok, run_getObj_map (hb0 w s), checkKey_int hK, findKey_int hK, hf, run_setObj_map _ (hb0 w s), mobj]
  | some p =>
    obtain ⟨j, v0⟩ := p
    have her := mdel_erase enc k hf
    rw [Nat.sub_zero] at her
    refine key (mdel M k) rfl fun w s tyo => ?_
    simp [Builtin.delete_, ha, Sem.run_bind, run_underlying hu, Result.andThen_ok, run_getObj_map (hb0 w s), checkKey_int hK, findKey_int hK, hf, run_setObj_map _ (hb0 w s), mobj, her]
end
end
end Go.Proofs.YtbkdjfgkebkknaaGreatDoor
namespace Go.Proofs.YtbkdjfgkebkknaaGreatDoor
set_option linter.unusedVariables false
set_option linter.unusedSimpArgs false
open Go Go.RowKit Go.Shelf
set_option maxRecDepth 100000
def keysL_ren : Go.Shelf.Ren := ⟨fun | 7 => 98 | 10 => 125 | n => n, fun | 23 => 149 | 26 => 3 | 3 => 151 | 28 => 94 | 0 => 0 | 27 => 93 | 33 => 68 | 4 => 4 | n => n, fun | n => n⟩
theorem keysL : Go.Proofs.SlLaysZI.n7 Tryz.prog keysL_ren := {
  mixed := by kernel_rfl,
  f7 := ⟨Tryz.f98.name, by decide, Tryz.func98.trans (congrArg some (by kernel_rfl))⟩,
  f10 := ⟨Tryz.f125.name, by decide, Tryz.func125.trans (congrArg some (by kernel_rfl))⟩,
  t0 := Tryz.underlying0,
  a0 := Tryz.isAgg0,
  z0 := Tryz.sizeOf0,
  v0 := Tryz.zeroValue0,
  t4 := Tryz.underlying4,
  a4 := Tryz.isAgg4,
  z4 := Tryz.sizeOf4,
  v4 := Tryz.zeroValue4,
  t23 := Tryz.underlying149,
  a23 := Tryz.isAgg149,
  z23 := Tryz.sizeOf149,
  v23 := Tryz.zeroValue149,
  t26 := Tryz.underlying3,
  a26 := Tryz.isAgg3,
  z26 := Tryz.sizeOf3,
  v26 := Tryz.zeroValue3,
  t27 := Tryz.underlying93,
  a27 := Tryz.isAgg93,
  z27 := Tryz.sizeOf93,
  v27 := Tryz.zeroValue93,
  t28 := Tryz.underlying94,
  a28 := Tryz.isAgg94,
  z28 := Tryz.sizeOf94,
  v28 := Tryz.zeroValue94,
  t33 := Tryz.underlying68,
  a33 := Tryz.isAgg68,
  z33 := Tryz.sizeOf68,
  v33 := Tryz.zeroValue68 }
def sortedL_ren : Go.Shelf.Ren := ⟨fun | 6 => 41 | 8 => 93 | 9 => 57 | 11 => 122 | 13 => 109 | 12 => 108 | 23 => 142 | 24 => 143 | 14 => 133 | 15 => 134 | 16 => 135 | 17 => 136 | 18 => 137 | 19 => 138 | 20 => 139 | 21 => 140 | 22 => 141 | 25 => 172 | 26 => 173 | 27 => 174 | 28 => 175 | 29 => 176 | 30 => 177 | 31 => 198 | n => n, fun | 26 => 3 | 28 => 94 | 24 => 61 | 0 => 0 | 3 => 3 | 37 => 167 | 48 => 199 | 50 => 49 | 4 => 4 | 40 => 191 | 39 => 190 | 45 => 196 | 5 => 5 | 9 => 9 | 51 => 230 | 55 => 208 | 57 => 244 | 58 => 245 | 33 => 68 | n => n, fun | n => n⟩
theorem sortedL : Go.Proofs.SlLaysZI.n6 Tryz.prog sortedL_ren := {
  mixed := by kernel_rfl,
  f6 := ⟨Tryz.f41.name, by decide, Tryz.func41.trans (congrArg some (by kernel_rfl))⟩,
  f8 := ⟨Tryz.f93.name, by decide, Tryz.func93.trans (congrArg some (by kernel_rfl))⟩,
  f11 := ⟨Tryz.f122.name, by decide, Tryz.func122.trans (congrArg some (by kernel_rfl))⟩,
  t0 := Tryz.underlying0,
  a0 := Tryz.isAgg0,
  z0 := Tryz.sizeOf0,
  v0 := Tryz.zeroValue0,
  t24 := Tryz.underlying61,
  a24 := Tryz.isAgg61,
  z24 := Tryz.sizeOf61,
  v24 := Tryz.zeroValue61,
  t26 := Tryz.underlying3,
  a26 := Tryz.isAgg3,
  z26 := Tryz.sizeOf3,
  v26 := Tryz.zeroValue3,
  t28 := Tryz.underlying94,
  a28 := Tryz.isAgg94,
  z28 := Tryz.sizeOf94,
  v28 := Tryz.zeroValue94,
  i26 := by kernel_rfl }
def sortL_ren : Go.Shelf.Ren := ⟨fun | 5 => 57 | 8 => 109 | 7 => 108 | 19 => 142 | 20 => 143 | 10 => 133 | 11 => 134 | 12 => 135 | 13 => 136 | 14 => 137 | 15 => 138 | 16 => 139 | 17 => 140 | 18 => 141 | 30 => 172 | 31 => 173 | 32 => 174 | 33 => 175 | 34 => 176 | 35 => 177 | 40 => 198 | n => n, fun | 23 => 61 | 25 => 3 | 3 => 3 | 32 => 167 | 22 => 61 | 0 => 0 | 44 => 199 | 46 => 49 | 4 => 4 | 36 => 191 | 35 => 190 | 41 => 196 | 5 => 5 | 9 => 9 | 53 => 230 | 57 => 208 | 63 => 244 | 64 => 245 | n => n, fun | n => n⟩
theorem sortL : Go.Proofs.SlLaysM.n5 Tryz.prog sortL_ren := {
  mixed := by kernel_rfl,
  f5 := ⟨Tryz.f57.name, by decide, Tryz.func57.trans (congrArg some (by kernel_rfl))⟩,
  f7 := ⟨Tryz.f108.name, by decide, Tryz.func108.trans (congrArg some (by kernel_rfl))⟩,
  f8 := Tryz.func109.trans (congrArg some (by kernel_rfl)),
  f10 := ⟨Tryz.f133.name, by decide, Tryz.func133.trans (congrArg some (by kernel_rfl))⟩,
  f11 := ⟨Tryz.f134.name, by decide, Tryz.func134.trans (congrArg some (by kernel_rfl))⟩,
  f12 := ⟨Tryz.f135.name, by decide, Tryz.func135.trans (congrArg some (by kernel_rfl))⟩,
  f13 := ⟨Tryz.f136.name, by decide, Tryz.func136.trans (congrArg some (by kernel_rfl))⟩,
  f14 := ⟨Tryz.f137.name, by decide, Tryz.func137.trans (congrArg some (by kernel_rfl))⟩,
  f15 := ⟨Tryz.f138.name, by decide, Tryz.func138.trans (congrArg some (by kernel_rfl))⟩,
  f16 := ⟨Tryz.f139.name, by decide, Tryz.func139.trans (congrArg some (by kernel_rfl))⟩,
  f17 := ⟨Tryz.f140.name, by decide, Tryz.func140.trans (congrArg some (by kernel_rfl))⟩,
  f18 := ⟨Tryz.f141.name, by decide, Tryz.func141.trans (congrArg some (by kernel_rfl))⟩,
  f19 := Tryz.func142.trans (congrArg some (by kernel_rfl)),
  f20 := Tryz.func143.trans (congrArg some (by kernel_rfl)),
  f30 := ⟨Tryz.f172.name, by decide, Tryz.func172.trans (congrArg some (by kernel_rfl))⟩,
  f31 := Tryz.func173.trans (congrArg some (by kernel_rfl)),
  f32 := Tryz.func174.trans (congrArg some (by kernel_rfl)),
  f33 := ⟨Tryz.f175.name, by decide, Tryz.func175.trans (congrArg some (by kernel_rfl))⟩,
  f34 := ⟨Tryz.f176.name, by decide, Tryz.func176.trans (congrArg some (by kernel_rfl))⟩,
  f35 := ⟨Tryz.f177.name, by decide, Tryz.func177.trans (congrArg some (by kernel_rfl))⟩,
  f40 := ⟨Tryz.f198.name, by decide, Tryz.func198.trans (congrArg some (by kernel_rfl))⟩,
  t0 := Tryz.underlying0,
  a0 := Tryz.isAgg0,
  z0 := Tryz.sizeOf0,
  v0 := Tryz.zeroValue0,
  t3 := Tryz.underlying3,
  a3 := Tryz.isAgg3,
  z3 := Tryz.sizeOf3,
  v3 := Tryz.zeroValue3,
  t4 := Tryz.underlying4,
  a4 := Tryz.isAgg4,
  z4 := Tryz.sizeOf4,
  v4 := Tryz.zeroValue4,
  t5 := Tryz.underlying5,
  a5 := Tryz.isAgg5,
  z5 := Tryz.sizeOf5,
  v5 := Tryz.zeroValue5,
  t9 := Tryz.underlying9,
  a9 := Tryz.isAgg9,
  z9 := Tryz.sizeOf9,
  v9 := Tryz.zeroValue9,
  t22 := Tryz.underlying61,
  a22 := Tryz.isAgg61,
  z22 := Tryz.sizeOf61,
  v22 := Tryz.zeroValue61,
  t23 := Tryz.underlying61,
  a23 := Tryz.isAgg61,
  z23 := Tryz.sizeOf61,
  v23 := Tryz.zeroValue61,
  t25 := Tryz.underlying3,
  a25 := Tryz.isAgg3,
  z25 := Tryz.sizeOf3,
  v25 := Tryz.zeroValue3,
  t32 := Tryz.underlying167,
  a32 := Tryz.isAgg167,
  z32 := Tryz.sizeOf167,
  v32 := Tryz.zeroValue167,
  t35 := Tryz.underlying190,
  a35 := Tryz.isAgg190,
  z35 := Tryz.sizeOf190,
  v35 := Tryz.zeroValue190,
  t36 := Tryz.underlying191,
  a36 := Tryz.isAgg191,
  z36 := Tryz.sizeOf191,
  v36 := Tryz.zeroValue191,
  t41 := Tryz.underlying196,
  a41 := Tryz.isAgg196,
  z41 := Tryz.sizeOf196,
  v41 := Tryz.zeroValue196,
  t44 := Tryz.underlying199,
  a44 := Tryz.isAgg199,
  z44 := Tryz.sizeOf199,
  v44 := Tryz.zeroValue199,
  t46 := Tryz.underlying49,
  a46 := Tryz.isAgg49,
  z46 := Tryz.sizeOf49,
  v46 := Tryz.zeroValue49,
  t53 := Tryz.underlying230,
  a53 := Tryz.isAgg230,
  z53 := Tryz.sizeOf230,
  v53 := Tryz.zeroValue230,
  t57 := Tryz.underlying208,
  a57 := Tryz.isAgg208,
  z57 := Tryz.sizeOf208,
  v57 := Tryz.zeroValue208,
  t63 := Tryz.underlying244,
  a63 := Tryz.isAgg244,
  z63 := Tryz.sizeOf244,
  v63 := Tryz.zeroValue244,
  t64 := Tryz.underlying245,
  a64 := Tryz.isAgg245,
  z64 := Tryz.sizeOf245,
  v64 := Tryz.zeroValue245 }
end Go.Proofs.YtbkdjfgkebkknaaGreatDoor
namespace Go.Proofs.YtbkdjfgkebkknaaGreatDoor
set_option linter.unusedVariables false
set_option linter.unusedSimpArgs false
open Go Go.RowKit
section
variable {X : Cx} {ops : Array Oper} {Q : Exit → Act → World → Prop} {ρ : Env} {A B : List HA} {rest : List Oper} {d : Tmp} {op : Op} {ty : TypeId} {ps : String} {af : Array Edge} {v : Value}
end
end Go.Proofs.YtbkdjfgkebkknaaGreatDoor
namespace Go.Proofs.YtbkdjfgkebkknaaGreatDoor
set_option linter.unusedVariables false
set_option linter.unusedSimpArgs false
open Go Go.RowKit
def Join {α : Type} (X : Cx) (E : α → Env) (B : α → List HA) (H : α → Prop) (a : Act) (w : World) : Prop := ∃ j, H j ∧ Fr X.n (E j) a ∧ St X.w0 X.S (B j) w
section
variable {X : Cx} {Q : Exit → Act → World → Prop} {ρ : Env} {A : List HA}
theorem join_mono {α : Type} {E : α → Env} {B : α → List HA} {H : α → Prop} {z : Code} (hz : ∀ i, H i → WC X z Q (E i) (B i)) (e : Exit) (a : Act) (w : World) (hq : Exit.then (Join X E B H) Q e a w) : Exit.then (z.wp X.P Q) Q e a w := by
  cases e with
  | normal => obtain ⟨i, hi, f', s'⟩ := hq; exact hz i hi a w f' s'
  | exit id => exact hq
  | goto l => exact hq
  | ret => exact hq
  | panic ch => exact hq
  | outgrown => exact hq
theorem WC.join {α : Type} (E : α → Env) (B : α → List HA) (H : α → Prop) {c z : Code} (h : WC X c (Exit.then (Join X E B H) Q) ρ A) (hz : ∀ i, H i → WC X z Q (E i) (B i)) : WC X c (Exit.then (z.wp X.P Q) Q) ρ A := fun a w f s =>
  wp_mono (h a w f s) fun e a' w' hq => join_mono hz e a' w' hq
theorem WC.joinB {α : Type} (E : α → Env) (B : α → List HA) (H : α → Prop) {id : Nat} {c z : Code} (h : WC X c (Exit.inBlock id (Exit.then (Join X E B H) Q)) ρ A) (hz : ∀ i, H i → WC X z Q (E i) (B i)) : WC X c (Exit.inBlock id (Exit.then (z.wp X.P Q) Q)) ρ A := fun a w f s =>
  wp_mono (h a w f s) fun e a' w' hq => by
    cases e with
    | exit n =>
      simp only [Exit.inBlock] at hq ⊢
      split
      · rename_i hn; rw [if_pos hn] at hq; exact join_mono hz _ a' w' hq
      · rename_i hn; rw [if_neg hn] at hq; exact join_mono hz _ a' w' hq
    | normal => exact join_mono hz (.normal) a' w' hq
    | goto l => exact join_mono hz (.goto l) a' w' hq
    | ret => exact join_mono hz (.ret) a' w' hq
    | panic ch => exact join_mono hz (.panic ch) a' w' hq
    | outgrown => exact join_mono hz (.outgrown) a' w' hq
theorem WN.join {α : Type} {E : α → Env} {B : α → List HA} {H : α → Prop} (j : α) (hj : H j) (hs : Sub ρ (E j)) (hp : Part A (B j)) : WN X (Exit.then (Join X E B H) Q) .normal ρ A := fun _ _ f s => ⟨j, hj, f.of_sub hs, s.part hp⟩
theorem Yl.capFunc {ty : TypeId} {g : FuncId} {xs : List Operand} {vs : List Value} (hx : evs ρ xs = some vs) : Yl X (.makeFunc (.func g) #[] xs.toArray) ty ρ A (.func (.func g) #[] vs.toArray) := Yl.intro fun o ho _ a w f _ => by
  have e := evs_map f hx
  simp [execOp, ho, Instr.makeFunc, e]
end
section
variable {P : Program} {fn : Func} {R : Value → List HA → Prop} {ρ : Env} {A B : List HA} {n : Nat} {w0 : World}
end
end Go.Proofs.YtbkdjfgkebkknaaGreatDoor
