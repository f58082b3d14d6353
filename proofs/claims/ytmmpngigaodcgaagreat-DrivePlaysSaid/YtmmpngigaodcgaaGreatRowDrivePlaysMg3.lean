import Derived.Test.YtmmpngigaodcgaaGreatRowDrivePlaysMg2
import Derived.Laws.BytesString
import Derived.Laws.Strings
import Derived.OrdersHeld
import Derived.Laws.MakeOwn
import Derived.Laws.Small
/- Calls by contract, entries, results, literals, over frames of known slots and owned memory. -/
namespace Go.Proofs.YtmmpngigaodcgaaGreat
set_option linter.unusedVariables false
set_option linter.unusedSimpArgs false
open Go Go.RowKit
section
variable {X : Cx} {ops : Array Oper} {Q : Exit → Act → World → Prop} {ρ : Env} {A B : List HA} {rest : List Oper} {d : Tmp} {op : Op} {ty : TypeId} {ps : String} {af : Array Edge} {v : Value}

/-- What a call gives: a value and items of its own; what was there stays. -/
def Gives (R : Value → List HA → Prop) (w : World) (e : Ending) (w' : World) : Prop := ∃ v B, e = .returned v ∧ R v B ∧ St w [] B w'
/-- One value, and no new item. -/
def Val (v : Value) : Value → List HA → Prop := fun u B => u = v ∧ B = []
/-- A new row with these cells, as a slice of so many elements; 'mk' says how the slice stands in the result. -/
def NewRow (mk : Value → Value) (T : TypeId) (k n : Nat) (vs : List Value) : Value → List HA → Prop :=
  fun u B => ∃ a cap, n ≤ cap ∧ u = mk (.slice a n cap) ∧ B = [.row a cap T k vs]

def evs (ρ : Env) : List Operand → Option (List Value)
  | [] => some []
  | x :: r => match ev ρ x, evs ρ r with
    | some v, some l => some (v :: l)
    | _, _ => none
theorem evs_map {n : Nat} {a : Act} (f : Fr n ρ a) : ∀ {xs : List Operand} {vs : List Value}, evs ρ xs = some vs → xs.map a.eval = vs
  | [], vs, h => by simp only [evs, Option.some.injEq] at h; subst h; rfl
  | x :: r, vs, h => by
    simp only [evs] at h
    split at h
    · rename_i v l h1 h2
      obtain rfl := Option.some.inj h
      rw [List.map_cons, f.ev h1, evs_map f h2]
    · cases h
/-- A call of a named function, by its contract. -/
theorem WL.call {R : Value → List HA → Prop} {g : FuncId} {xs : List Operand} {ts : Array TypeId} {vs : List Value} (he : ∀ args w, (callFunc g args).run X.P w = .ok (.enter g args) w) (hx : evs ρ xs = some vs)
    (hc : ∀ w, St X.w0 X.S A w → Calls X.P g vs.toArray w (Gives R w)) (hd : Nat.blt d X.n = true) (h : ∀ v B, R v B → WL X ops Q rest ((d, v) :: ρ) (B ++ A)) :
    WL X ops Q (⟨some d, .call { callee := .value (.func g), args := xs.toArray, argTypes := ts }, ty, ps, af, none⟩ :: rest) ρ A :=
  fun a w f s => wpList_plain rfl fun K hK => by
    unfold Oper.wp
    have e := evs_map f hx
    have hr : (execOp a.eval ⟨some d, .call { callee := .value (.func g), args := xs.toArray, argTypes := ts }, ty, ps, af, none⟩).run X.P w = .ok (.enter g vs.toArray) w := by
      simp [execOp, resolve, Deferred.ofValue, Act.eval, invoke, e, he]
    rw [hr]
    exact (hc w s).mono fun e w' hq => by
      obtain ⟨v, B, rfl, hR, hs⟩ := hq
      exact hK _ _ (h v B hR _ _ (f.put (blt_lt hd) v) (s.join0 hs))
theorem WL.callV {g : FuncId} {xs : List Operand} {ts : Array TypeId} {vs : List Value} (he : ∀ args w, (callFunc g args).run X.P w = .ok (.enter g args) w) (hx : evs ρ xs = some vs)
    (hc : ∀ w, St X.w0 X.S A w → Calls X.P g vs.toArray w (Gives (Val v) w)) (hd : Nat.blt d X.n = true) (h : WL X ops Q rest ((d, v) :: ρ) A) :
    WL X ops Q (⟨some d, .call { callee := .value (.func g), args := xs.toArray, argTypes := ts }, ty, ps, af, none⟩ :: rest) ρ A :=
  WL.call he hx hc hd (fun u B hu => by obtain ⟨rfl, rfl⟩ := hu; exact h)
theorem WL.callR {mk : Value → Value} {T : TypeId} {k n : Nat} {us : List Value} {g : FuncId} {xs : List Operand} {ts : Array TypeId} {vs : List Value} (he : ∀ args w, (callFunc g args).run X.P w = .ok (.enter g args) w) (hx : evs ρ xs = some vs)
    (hc : ∀ w, St X.w0 X.S A w → Calls X.P g vs.toArray w (Gives (NewRow mk T k n us) w)) (hd : Nat.blt d X.n = true)
    (h : ∀ p : Option Addr × Nat, n ≤ p.2 → WL X ops Q rest ((d, mk (.slice p.1 n p.2)) :: ρ) (.row p.1 p.2 T k us :: A)) :
    WL X ops Q (⟨some d, .call { callee := .value (.func g), args := xs.toArray, argTypes := ts }, ty, ps, af, none⟩ :: rest) ρ A :=
  WL.call he hx hc hd (fun u B hu => by obtain ⟨a, cap, hn, rfl, rfl⟩ := hu; exact h (a, cap) hn)

/-! ### Entering a function, and its results -/
def argEnv : Nat → List Value → Env
  | _, [] => []
  | i, v :: r => (i, v) :: argEnv (i + 1) r
theorem lk_argEnv (l : List Value) : ∀ (i t : Nat) (v : Value), lk (argEnv i l) t = some v → ∃ j, t = i + j ∧ l[j]? = some v := by
  induction l with
  | nil => intro i t v h; cases h
  | cons u r ih =>
    intro i t v h
    simp only [argEnv, lk] at h
    by_cases e : i = t
    · subst e
      rw [show Nat.beq i i = true from Nat.beq_refl i] at h
      exact ⟨0, rfl, h⟩
    · rw [beq_ne e] at h
      obtain ⟨j, hj, hl⟩ := ih (i + 1) t v h
      exact ⟨j + 1, by omega, hl⟩
theorem enter {P : Program} {g : FuncId} {fn : Func} {c : Code} {args : List Value} {w : World} {R : Ending → World → Prop} {n : Nat} (hf : P.funcs[g]? = some fn) (hn : fn.ntmps = n) (hb : fn.body = some c) (hl : Nat.ble args.length n = true)
    (h : WC ⟨P, n, w, []⟩ c (bodyPost P fn R) (argEnv 0 args) []) : Calls P g args.toArray w R := by
  have hle : args.length ≤ n := Nat.le_of_ble_eq_true hl
  refine calls_of_wp hf hb (h _ _ ⟨?_, rfl, fun t v ht => ?_⟩ (St.start w))
  · simp [hn]; omega
  · obtain ⟨j, hj, hv⟩ := lk_argEnv args 0 t v ht
    have hj' : t = j := by omega
    subst hj'
    have hlt : t < args.length := (List.getElem?_eq_some_iff.1 hv).1
    have h2 : args[t] = v := (List.getElem?_eq_some_iff.1 hv).2
    simp [Array.getD_eq_getD_getElem?, Array.getElem?_append, hlt, h2]
section
variable {fn : Func} {R : Value → List HA → Prop}
theorem WN.ret1 {P : Program} {n : Nat} {w0 : World} {t : Tmp} (hr : fn.results = #[.tmp t]) (hv : lk ρ t = some v) (hR : R v B) (hp : Part A B) : WN ⟨P, n, w0, []⟩ (bodyPost P fn (Gives R w0)) .ret ρ A :=
  fun a w f s => bodyPost_ret (results_tmp hr _ _ _) f.defers (by rw [f.get t v hv]; exact ⟨v, B, rfl, hR, s.part hp⟩)
theorem WN.ret2 {P : Program} {n : Nat} {w0 : World} {t t2 : Tmp} {v2 : Value} (hr : fn.results = #[.tmp t, .tmp t2]) (hv : lk ρ t = some v) (hv2 : lk ρ t2 = some v2) (hR : R (.tuple #[v, v2]) B) (hp : Part A B) :
    WN ⟨P, n, w0, []⟩ (bodyPost P fn (Gives R w0)) .ret ρ A :=
  fun a w f s => bodyPost_ret (results_tmp2 hr _ _ _) f.defers (by rw [f.get t v hv, f.get t2 v2 hv2]; exact ⟨_, B, rfl, hR, s.part hp⟩)
theorem results_tmp3' {t u x : Tmp} (h : fn.results = #[.tmp t, .tmp u, .tmp x]) (tmps : Array Value) (P : Program) (w : World) :
    (results fn tmps).run P w = .ok (.tuple #[tmps.getD t undef, tmps.getD u undef, tmps.getD x undef]) w := by
  simp [results, h]
theorem WN.ret3 {P : Program} {n : Nat} {w0 : World} {t t2 t3 : Tmp} {v2 v3 : Value} (hr : fn.results = #[.tmp t, .tmp t2, .tmp t3]) (hv : lk ρ t = some v) (hv2 : lk ρ t2 = some v2) (hv3 : lk ρ t3 = some v3) (hR : R (.tuple #[v, v2, v3]) B) (hp : Part A B) :
    WN ⟨P, n, w0, []⟩ (bodyPost P fn (Gives R w0)) .ret ρ A :=
  fun a w f s => bodyPost_ret (results_tmp3' hr _ _ _) f.defers (by rw [f.get t v hv, f.get t2 v2 hv2, f.get t3 v3 hv3]; exact ⟨_, B, rfl, hR, s.part hp⟩)
theorem WN.ret0 {P : Program} {n : Nat} {w0 : World} (hr : fn.results = #[]) (hR : R (.tuple #[]) B) (hp : Part A B) : WN ⟨P, n, w0, []⟩ (bodyPost P fn (Gives R w0)) .ret ρ A :=
  fun _ _ f s => bodyPost_ret (results_none hr _ _ _) f.defers ⟨_, B, rfl, hR, s.part hp⟩
theorem WN.end0 {P : Program} {n : Nat} {w0 : World} (hr : fn.results = #[]) (hR : R (.tuple #[]) B) (hp : Part A B) : WN ⟨P, n, w0, []⟩ (bodyPost P fn (Gives R w0)) .normal ρ A :=
  fun _ _ f s => bodyPost_end (results_none hr _ _ _) f.defers ⟨_, B, rfl, hR, s.part hp⟩
/-- One result, which lies in a variable of several cells. -/
theorem WN.retCell {P : Program} {n : Nat} {w0 : World} {t : Tmp} {T T' : TypeId} {b k : Nat} {us : List Value} {fr : Nat × Nat} (hr : fn.results = #[.cell t T]) (hg : ∀ w, (isAgg T).run P w = .ok true w) (hk : ∀ w, (sizeOf T).run P w = .ok k w)
    (hv : lk ρ t = some (.pointer (some ⟨b, 0, none⟩))) (hm : HA.blk b (.cells us.toArray T' fr) ∈ A) (hl : us.length = k) (hR : R (.agg us.toArray) B) (hp : Part A B) : WN ⟨P, n, w0, []⟩ (bodyPost P fn (Gives R w0)) .ret ρ A :=
  fun a w f s => by
    have hc : ∀ i u, us[i]? = some u → w.cell? ((⟨b, 0, none⟩ : Addr).add i) = some u := fun i u hu => by
      have e : (⟨b, 0, none⟩ : Addr).add i = ⟨b, i, none⟩ := by unfold Addr.add; split <;> simp_all
      rw [e]; exact s.cell hm (by simpa using hu)
    have hl' := run_loadCells_list (P := P) w ⟨b, 0, none⟩ us hc
    rw [hl] at hl'
    have h1 := f.get t _ hv
    refine bodyPost_ret (v := .agg us.toArray) ?_ f.defers ⟨_, B, rfl, hR, s.part hp⟩
    rw [Array.getD_eq_getD_getElem?] at h1
    simp [results, hr, h1, asAddr, loadVar, hg, hk, hl']
end

/-! ### Slice literals -/
def litCells (ρ : Env) : List (Nat × Operand) → Nat → Option (List Value)
  | [], _ => some []
  | (i, x) :: r, j => bif Nat.beq i j then (match ev ρ x, litCells ρ r (j + 1) with
    | some v, some l => some (v :: l)
    | _, _ => none) else none
theorem litCells_length : ∀ {parts : List (Nat × Operand)} {j : Nat} {vs : List Value}, litCells ρ parts j = some vs → vs.length = parts.length
  | [], _, vs, h => by simp only [litCells, Option.some.injEq] at h; subst h; rfl
  | (i, x) :: r, j, vs, h => by
    simp only [litCells] at h
    cases hb : Nat.beq i j with
    | false => rw [hb] at h; cases h
    | true =>
      rw [hb] at h
      simp only [cond_true] at h
      split at h
      · rename_i v l _ h2
        obtain rfl := Option.some.inj h
        simp [litCells_length h2]
      · cases h
theorem litCells_map {n : Nat} {a : Act} (f : Fr n ρ a) : ∀ {parts : List (Nat × Operand)} {j : Nat} {vs : List Value}, litCells ρ parts j = some vs →
    parts.map (fun p => (p.1, a.eval p.2)) = (vs.zipIdx j).map fun p => (p.2, p.1)
  | [], _, vs, h => by simp only [litCells, Option.some.injEq] at h; subst h; rfl
  | (i, x) :: r, j, vs, h => by
    simp only [litCells] at h
    cases hb : Nat.beq i j with
    | false => rw [hb] at h; cases h
    | true =>
      rw [hb] at h
      obtain rfl := Nat.eq_of_beq_eq_true hb
      simp only [cond_true] at h
      split at h
      · rename_i v l h1 h2
        obtain rfl := Option.some.inj h
        simp only [List.map_cons, List.zipIdx_cons]
        rw [litCells_map f h2, f.ev h1]
      · cases h
theorem fold_set (l : List Value) : ∀ (i : Nat) (pre mid post : List Value), mid.length = l.length →
    (l.zipIdx i).foldl (fun (cs : Array Value) (x : Value × Nat) => cs.setIfInBounds (pre.length - i + x.2) x.1) (pre ++ mid ++ post).toArray = (pre ++ l ++ post).toArray ∨ pre.length < i := by
  induction l with
  | nil => intro i pre mid post h; obtain rfl : mid = [] := List.eq_nil_of_length_eq_zero (by simpa using h); exact .inl rfl
  | cons v l ih =>
    intro i pre mid post h
    by_cases hi : pre.length < i
    · exact .inr hi
    · match mid, h with
      | m :: mid, h =>
        left
        rw [List.zipIdx_cons, List.foldl_cons]
        have e : (pre ++ m :: mid ++ post).toArray.setIfInBounds (pre.length - i + i) v = ((pre ++ [v]) ++ mid ++ post).toArray := by
          rw [show pre.length - i + i = pre.length by omega]
          simp
        simp only [e]
        rcases ih (i + 1) (pre ++ [v]) mid post (by simpa using h) with h2 | h2
        · rw [show (pre ++ [v]).length - (i + 1) = pre.length - i by simp] at h2
          rw [h2]; simp
        · simp at h2; omega
/-- Values that are cells, one behind the other. -/
def flat (vs : List Value) : List Value := vs.flatMap fun v => v.cells.toList
theorem fill_lit {k : Nat} : ∀ (vs : List Value) (j : Nat) (pre post : List Value), pre.length = j * k → (∀ u ∈ vs, u.cells.size = k) → post.length = vs.length * k →
    Instr.fill (fun i => some (i * k, k)) (pre ++ post).toArray ((vs.zipIdx j).map fun p => (p.2, p.1)) = some (pre ++ flat vs).toArray
  | [], j, pre, post, _, _, h => by
    obtain rfl : post = [] := List.eq_nil_of_length_eq_zero (by simpa using h)
    simp [Instr.fill, flat]
  | v :: vs, j, pre, post, hj, h1, h => by
    have hv := h1 v (.head _)
    have hsp : post = post.take k ++ post.drop k := (List.take_append_drop k post).symm
    have hlen : post.length = k + vs.length * k := by rw [h, List.length_cons, Nat.add_mul, Nat.one_mul, Nat.add_comm]
    simp only [List.zipIdx_cons, List.map_cons, Instr.fill]
    rw [if_neg (by simp [hv, hj]; omega)]
    have e := fold_set v.cells.toList 0 pre (post.take k) (post.drop k) (by simp [hv]; omega)
    rcases e with e | e
    · rw [Nat.sub_zero, List.append_assoc, ← hsp, hj] at e
      have ih := fill_lit (k := k) vs (j + 1) (pre ++ v.cells.toList) (post.drop k) (by simp [hj, hv, Nat.add_mul]) (fun u hu => h1 u (.tail _ hu)) (by simp; omega)
      rw [← e] at ih
      have e2 : (v.cells.zipIdx.foldl (fun cs x => cs.setIfInBounds (j * k + x.2) x.1) (pre ++ post).toArray) = (v.cells.toList.zipIdx 0).foldl (fun cs x => cs.setIfInBounds (j * k + x.2) x.1) (pre ++ post).toArray := by
        rw [← Array.foldl_toList, Array.toList_zipIdx]
      rw [← e2] at ih
      simp only [flat, List.flatMap_cons, ← List.append_assoc] at ih ⊢
      exact ih
    · omega
theorem flat_length {k : Nat} : ∀ {vs : List Value}, (∀ u ∈ vs, u.cells.size = k) → (flat vs).length = vs.length * k
  | [], _ => by simp [flat]
  | v :: vs, h => by
    have := flat_length (vs := vs) fun u hu => h u (.tail _ hu)
    simp only [flat, List.flatMap_cons, List.length_append, Array.length_toList, h v (.head _), List.length_cons] at this ⊢
    rw [this, Nat.add_mul]; omega
theorem flat_one {vs : List Value} (h : ∀ u ∈ vs, u.oneCell' = true) : flat vs = vs := by
  induction vs with
  | nil => rfl
  | cons v vs ih =>
    have e := one_cells (h v (.head _))
    have ih' := ih fun u hu => h u (.tail _ hu)
    simp only [flat, List.flatMap_cons] at ih' ⊢
    rw [ih', e]; rfl
/-- A slice literal. -/
theorem WL.lit {t e : TypeId} {z : Value} {bytes len k : Nat} {parts : List (Nat × Operand)} {vs : List Value} (hu : X.P.underlying t = some (.slice e)) (he : ElemT X.P e z k bytes) (hl : Nat.beq len parts.length = true) (hs : Nat.ble (len * k) 16777216 = true)
    (hv : litCells ρ parts 0 = some vs) (h1 : ∀ u ∈ vs, u.cells.size = k) (hd : Nat.blt d X.n = true)
    (h : ∀ b : Nat, WL X ops Q rest ((d, .slice (some ⟨b, 0, none⟩) len len) :: ρ) (.row (some ⟨b, 0, none⟩) len e k (flat vs) :: A)) :
    WL X ops Q (⟨some d, .buildSlice t len parts.toArray, ty, ps, af, none⟩ :: rest) ρ A :=
  WL.stepE (fun b : Nat => .slice (some ⟨b, 0, none⟩) len len) (fun b => .row (some ⟨b, 0, none⟩) len e k (flat vs) :: A) (fun o ho _ a w f s => by
    have hlen : vs.length = len := by rw [litCells_length hv]; exact (Nat.eq_of_beq_eq_true hl).symm
    have hm := litCells_map f hv
    have hf := fill_lit (k := k) vs 0 [] ((Array.range (len * k)).map fun i => z.cells[i % z.cells.size]!).toList (by simp) h1 (by simp [hlen])
    have hfl := flat_length h1
    obtain ⟨i, hi, hz, hk, _⟩ := he.info
    have hsz : ¬ 16777216 < len * k := by have := Nat.le_of_ble_eq_true hs; omega
    refine ⟨w.heap.size, { w with heap := w.heap.push (.cells (flat vs).toArray e) }, ?_, s.new (Kept.alloc w _) (.inr ⟨w.heap.size, (flat vs).toArray, rfl, by simp, by simp [hfl, hlen], ?_, by simp, by simp⟩) (fun b hb => ?_)⟩
    · simp only [List.nil_append] at hf
      have hmap : (parts.toArray.map fun x => (x.1, a.eval x.2)).toList = (vs.zipIdx 0).map fun p => (p.2, p.1) := by simpa using hm
      by_cases h0 : len * k = 0
      · have e0 : len = 0 := by rcases Nat.mul_eq_zero.1 h0 with h | h; exact h; have := he.pos; omega
        obtain rfl : vs = [] := List.eq_nil_of_length_eq_zero (by omega)
        obtain rfl : parts = [] := List.eq_nil_of_length_eq_zero (by rw [← litCells_length hv]; rfl)
        subst e0
        have e0 : (Array.map (fun _ => (default : Value)) (Array.range 0)) = #[] := by simp
        simp [execOp, ho, Instr.buildSlice, run_underlying hu, Go.sizeOf, typeInfo, hi, Instr.fill, flat, newRow, e0]
      · have hf2 : Instr.fill (fun i => some (i * k, k)) ((Array.range (len * k)).map fun i => z.cells[i % z.cells.size]!) (parts.toArray.map fun x => (x.1, a.eval x.2)).toList = some (flat vs).toArray := by
          rw [hmap, ← hf, Array.toArray_toList]
        simp only [List.map_toArray] at hf2
        simp [execOp, ho, Instr.buildSlice, run_underlying hu, Go.sizeOf, typeInfo, zeroValue, newRow, hi, hz, hk, hf2]
        rw [if_neg hsz, if_neg h0]
    · show len ≤ maxLen
      have := Nat.le_of_ble_eq_true hs
      have := Nat.le_mul_of_pos_right len he.pos
      simp only [maxLen]; omega
    · simp only [HA.foot] at hb
      split at hb
      · cases hb
      · simp only [Option.map_some, Option.some.injEq] at hb; omega) hd h
end


/-! ### A region that draws its order, all of whose operations leave the memory alone: one walk of the text's order -/
def WQ (X : Cx) (ops : Array Oper) (Q : Exit → Act → World → Prop) (l : List Oper) (ρ : Env) (A : List HA) : Prop :=
  ∀ a, Fr X.n ρ a → wpQuiet X.P ops (St X.w0 X.S A) (fun a' => ∀ w', St X.w0 X.S A w' → Q .normal a' w') l a
section
variable {X : Cx} {ops : Array Oper} {Q : Exit → Act → World → Prop} {ρ : Env} {A B : List HA} {rest : List Oper} {d : Tmp} {op : Op} {ty : TypeId} {ps : String} {af : Array Edge} {v : Value}
theorem WC.regionQ {id : Nat} {l : List Oper} (hm : X.P.follows .mixedOrders = true) (hB : Region.lexB .any l.toArray = true) (h : WQ X l.toArray Q l ρ A) : WC X (.region id l.toArray true) Q ρ A :=
  fun a _ f s => wp_region_quiet (C := St X.w0 X.S A) hm hB s.drew (by simpa using h a f)
theorem WQ.nil (h : WN X Q .normal ρ A) : WQ X ops Q [] ρ A := fun a f => wpQuiet_nil (fun w' s => h a w' f s)
theorem WQ.step (hy : Yl X op ty ρ A v) (hd : Nat.blt d X.n = true) (h : WQ X ops Q rest ((d, v) :: ρ) A) : WQ X ops Q (⟨some d, op, ty, ps, af, none⟩ :: rest) ρ A := fun a f => by
  simp only [wpQuiet]
  rw [if_pos (by simp [Region.wanted])]
  refine ⟨v, fun w s => ?_, h _ (f.put (blt_lt hd) v)⟩
  unfold Oper.quietAt
  rw [hy _ rfl rfl a w f s]
  exact ⟨rfl, rfl⟩
theorem WQ.callV {g : FuncId} {xs : List Operand} {ts : Array TypeId} {vs : List Value} (he : ∀ args w, (callFunc g args).run X.P w = .ok (.enter g args) w) (hx : evs ρ xs = some vs)
    (hc : ∀ w, St X.w0 X.S A w → Calls X.P g vs.toArray w (Gives (Val v) w)) (hd : Nat.blt d X.n = true) (h : WQ X ops Q rest ((d, v) :: ρ) A) :
    WQ X ops Q (⟨some d, .call { callee := .value (.func g), args := xs.toArray, argTypes := ts }, ty, ps, af, none⟩ :: rest) ρ A := fun a f => by
  simp only [wpQuiet]
  rw [if_pos (by simp [Region.wanted])]
  refine ⟨v, fun w s => ?_, h _ (f.put (blt_lt hd) v)⟩
  unfold Oper.quietAt
  have e := evs_map f hx
  have hr : (execOp a.eval ⟨some d, .call { callee := .value (.func g), args := xs.toArray, argTypes := ts }, ty, ps, af, none⟩).run X.P w = .ok (.enter g vs.toArray) w := by
    simp [execOp, resolve, Deferred.ofValue, Act.eval, invoke, e, he]
  rw [hr]
  refine ⟨rfl, (hc w s).mono fun e w' hq => ?_⟩
  obtain ⟨u, B, rfl, ⟨rfl, rfl⟩, hs⟩ := hq
  exact ⟨rfl, s.join0 hs⟩
theorem WQ.guard {j t : Nat} {b want : Bool} (hj : (ops[j]?).bind (·.dst) = some t) (hv : lk ρ t = some (.bool b)) (hd : Nat.blt d X.n = true)
    (h1 : b = want → WQ X ops Q (⟨some d, op, ty, ps, af, none⟩ :: rest) ρ A)
    (h2 : b = !want → WQ X ops Q rest ((d, undef) :: ρ) A) : WQ X ops Q (⟨some d, op, ty, ps, af, some (j, want)⟩ :: rest) ρ A := fun a f => by
  have hw := wanted_eq (o := ⟨some d, op, ty, ps, af, some (j, want)⟩) rfl hj f hv
  by_cases hb : b = want
  · have := h1 hb a f
    simp only [wpQuiet] at this ⊢
    rw [if_pos (by simp [Region.wanted])] at this
    rw [hw, if_pos (by simp [hb])]
    exact this
  · have hb' : b = !want := by cases b <;> cases want <;> simp_all
    simp only [wpQuiet]
    rw [hw, if_neg (by simp [hb])]
    exact h2 hb' _ (f.put (blt_lt hd) undef)
theorem WQ.want {j t : Nat} {b want : Bool} (hj : (ops[j]?).bind (·.dst) = some t) (hv : lk ρ t = some (.bool b)) (hb : b = want) (hd : Nat.blt d X.n = true)
    (h : WQ X ops Q (⟨some d, op, ty, ps, af, none⟩ :: rest) ρ A) : WQ X ops Q (⟨some d, op, ty, ps, af, some (j, want)⟩ :: rest) ρ A :=
  WQ.guard hj hv hd (fun _ => h) (fun h2 => by rw [hb] at h2; cases want <;> cases h2)
theorem WQ.pass {j t : Nat} {b want : Bool} (hj : (ops[j]?).bind (·.dst) = some t) (hv : lk ρ t = some (.bool b)) (hb : b = !want) (hd : Nat.blt d X.n = true)
    (h : WQ X ops Q rest ((d, undef) :: ρ) A) : WQ X ops Q (⟨some d, op, ty, ps, af, some (j, want)⟩ :: rest) ρ A :=
  WQ.guard hj hv hd (fun h2 => by rw [hb] at h2; cases want <;> cases h2) (fun _ => h)
theorem run_equalIn_nil {P : Program} {t e : TypeId} (hu : P.underlying t = some (.slice e)) (dp : Nat) (a : Option Addr) (n cap : Nat) (w : World) :
    (Op.equalIn (dp + 1) t (.slice a n cap) (.slice none 0 0)).run P w = .ok a.isNone w := by
  cases a <;> simp [Op.equalIn, run_underlying hu]
/-- A slice held against nil. -/
theorem Yl.eqNil {x : Operand} {t u e : TypeId} {a : Option Addr} {n cap : Nat} (hu : X.P.underlying t = some (.slice e)) (hx : ev ρ x = some (.slice a n cap)) :
    Yl X (.binOp .eql t x (.const (.slice none 0 0)) u) ty ρ A (.bool a.isNone) := fun o ho _ ac w f _ => by
  have hb : (binOp .eql t (.slice a n cap) (.slice none 0 0)).run X.P w = .ok (.bool a.isNone) w := by
    simp only [binOp]
    simp [Op.equal, Op.maxDepth, run_equalIn_nil hu 9999]
  have hg : ∀ x y, (eqGuard .eql t x y (.slice a n cap) (.slice none 0 0)).run X.P w = .ok () w := fun _ _ => rfl
  have hc : ac.eval (.const (.slice none 0 0)) = .slice none 0 0 := rfl
  simp only [execOp, ho, f.ev hx, hc, Sem.run_bind, hg, Result.andThen_ok, hb, Sem.run_pure]
theorem WL.passD {j t : Nat} {p : Prop} [Decidable p] {want : Bool} (hj : (ops[j]?).bind (·.dst) = some t) (hv : lk ρ t = some (.bool (decide p))) (hb : decide p = !want) (hd : Nat.blt d X.n = true)
    (h : WL X ops Q rest ((d, undef) :: ρ) A) : WL X ops Q (⟨some d, op, ty, ps, af, some (j, want)⟩ :: rest) ρ A := WL.pass hj hv hb hd h
end

/-! ### Bytes and strings -/
/-- A byte as a value; bytes as cells; a string. -/
def bv (c : UInt8) : Value := .int .u8 (c.toNat : Int)
def bs (l : List UInt8) : List Value := l.map bv
def str (l : List UInt8) : Value := .string ⟨l.toArray⟩
theorem bs_length (l : List UInt8) : (bs l).length = l.length := List.length_map _
theorem bs_get {l : List UInt8} {i : Nat} (h : i < l.length) : (bs l)[i]? = some (bv (l.getD i 0)) := by
  simp [bs, List.getD, h]
theorem bs_ne {l : List UInt8} {i : Nat} (h : i < l.length) : bs l ≠ [] := ne_nil_of (bs_get h)
theorem bs_one (l : List UInt8) : ∀ u ∈ bs l, u.oneCell' = true := by
  intro u hu; obtain ⟨c, _, rfl⟩ := List.mem_map.1 hu; rfl
theorem bs_append (a b : List UInt8) : bs (a ++ b) = bs a ++ bs b := List.map_append
theorem bs_take (l : List UInt8) (k : Nat) : bs (l.take k) = (bs l).take k := List.map_take
theorem bs_drop (l : List UInt8) (k : Nat) : bs (l.drop k) = (bs l).drop k := List.map_drop
theorem bs_set (l : List UInt8) (k : Nat) (c : UInt8) : bs (l.set k c) = (bs l).set k (bv c) := List.map_set
theorem byte_lt (c : UInt8) : c.toNat < 256 := c.toNat_lt
theorem take_snoc {α : Type} (l : List α) (d : α) {k : Nat} (h : k < l.length) : l.take (k + 1) = l.take k ++ [l.getD k d] := by
  rw [List.take_succ_eq_append_getElem h]; simp [List.getD, h]
theorem nil_of_none {w : World} {l : List UInt8} (h : CellsAt w none (bs l)) : l = [] := by
  rcases h with h | ⟨b, off, h, _⟩
  · simpa [bs] using h
  · cases h
theorem foldl_push (l : List UInt8) : ∀ (p : List UInt8), (l.map fun c => ((c.toNat : Nat) : Int)).foldl (fun r n => r.push (UInt8.ofNat n.toNat)) (⟨p.toArray⟩ : ByteArray) = ⟨(p ++ l).toArray⟩ := by
  induction l with
  | nil => intro p; simp
  | cons c l ih =>
    intro p
    rw [List.map_cons, List.foldl_cons]
    have e : (⟨p.toArray⟩ : ByteArray).push (UInt8.ofNat ((c.toNat : Nat) : Int).toNat) = ⟨(p ++ [c]).toArray⟩ := by
      simp [ByteArray.push]
    rw [e, ih]; simp
section
variable {X : Cx} {ops : Array Oper} {Q : Exit → Act → World → Prop} {ρ : Env} {A B : List HA} {rest : List Oper} {d : Tmp} {op : Op} {ty : TypeId} {ps : String} {af : Array Edge} {v : Value}
/-- 'string(b)'. -/
theorem Yl.toStr {x : Operand} {t u e : TypeId} {a : Option Addr} {n cap : Nat} {l : List UInt8} (hu : X.P.underlying t = some (.slice e)) (he : X.P.underlying e = some (.int .u8)) (hd : X.P.underlying u = some .string)
    (hx : ev ρ x = some (.slice a n cap)) (hr : Rd X A a (bs l)) (hl : l.length = n) : Yl X (.convert t u x) ty ρ A (str l) := fun o ho _ ac w f s => by
  have hc : (convert t u (.slice a n cap)).run X.P w = .ok (str l) w := by
    rw [run_convert_bytes_string w t u e a n cap hu he hd]
    rcases hr w s with h | ⟨b, off, rfl, h⟩
    · obtain rfl : l = [] := by simpa [bs] using h
      obtain rfl : n = 0 := hl.symm
      cases a with
      | none => rfl
      | some ad =>
        have := run_bytesToString (P := X.P) w ad 0 cap [] (by simpa using run_loadCells_list (P := X.P) w ad [] (by simp))
        rw [this]; rfl
    · have hcell : ∀ i u, (bs l)[i]? = some u → w.cell? ((⟨b, off, none⟩ : Addr).add i) = some u := fun i u hi => by
        have e : (⟨b, off, none⟩ : Addr).add i = ⟨b, off + i, none⟩ := by unfold Addr.add; split <;> simp_all
        rw [e]; exact h i u hi
      have hload := run_loadCells_list (P := X.P) w ⟨b, off, none⟩ (bs l) hcell
      rw [bs_length, hl] at hload
      have := run_bytesToString (P := X.P) w ⟨b, off, none⟩ n cap (l.map fun c => ((c.toNat : Nat) : Int)) (by rw [hload, List.map_map]; rfl)
      rw [this, show (ByteArray.empty) = (⟨([] : List UInt8).toArray⟩ : ByteArray) from rfl, foldl_push]
      rfl
  simp only [execOp, ho, f.ev hx, Sem.run_bind, hc, Result.andThen_ok, Sem.run_pure]
theorem Yl.strEql {x y : Operand} {t u : TypeId} {l k : List UInt8} (hx : ev ρ x = some (.string ⟨l.toArray⟩)) (hy : ev ρ y = some (.string ⟨k.toArray⟩)) :
    Yl X (.binOp .eql t x y u) ty ρ A (.bool (decide (l = k))) := fun o ho _ ac w f _ => by
  have hb : (binOp .eql t (.string ⟨l.toArray⟩) (.string ⟨k.toArray⟩)).run X.P w = .ok (.bool (decide (l = k))) w := by
    simp only [binOp, Op.stringOp, ByteArray.toList_mk, Sem.run_pure]
    rw [show (l == k) = decide (l = k) by rw [Bool.eq_iff_iff]; simp]
  have hg : ∀ x y, (eqGuard .eql t x y (.string ⟨l.toArray⟩) (.string ⟨k.toArray⟩)).run X.P w = .ok () w := fun _ _ => rfl
  simp only [execOp, ho, f.ev hx, f.ev hy, Sem.run_bind, hg, Result.andThen_ok, hb, Sem.run_pure]
theorem Yl.strNeq {x y : Operand} {t u : TypeId} {l k : List UInt8} (hx : ev ρ x = some (.string ⟨l.toArray⟩)) (hy : ev ρ y = some (.string ⟨k.toArray⟩)) :
    Yl X (.binOp .neq t x y u) ty ρ A (.bool (decide (l ≠ k))) := fun o ho _ ac w f _ => by
  have hb : (binOp .neq t (.string ⟨l.toArray⟩) (.string ⟨k.toArray⟩)).run X.P w = .ok (.bool (decide (l ≠ k))) w := by
    simp only [binOp, Op.stringOp, ByteArray.toList_mk, Sem.run_pure]
    congr 2
    by_cases h : l = k <;> simp [h]
  have hg : ∀ x y, (eqGuard .neq t x y (.string ⟨l.toArray⟩) (.string ⟨k.toArray⟩)).run X.P w = .ok () w := fun _ _ => rfl
  simp only [execOp, ho, f.ev hx, f.ev hy, Sem.run_bind, hg, Result.andThen_ok, hb, Sem.run_pure]
theorem Yl.strEqlT {x y : Operand} {t u : TypeId} {l k : List UInt8} (hx : ev ρ x = some (.string ⟨l.toArray⟩)) (hy : ev ρ y = some (.string ⟨k.toArray⟩)) (h : l = k) : Yl X (.binOp .eql t x y u) ty ρ A (.bool true) := by
  have := Yl.strEql (X := X) (ty := ty) (A := A) (t := t) (u := u) hx hy
  rwa [decide_eq_true h] at this
theorem Yl.strNeqF {x y : Operand} {t u : TypeId} {l k : List UInt8} (hx : ev ρ x = some (.string ⟨l.toArray⟩)) (hy : ev ρ y = some (.string ⟨k.toArray⟩)) (h : l = k) : Yl X (.binOp .neq t x y u) ty ρ A (.bool false) := by
  have := Yl.strNeq (X := X) (ty := ty) (A := A) (t := t) (u := u) hx hy
  rwa [decide_eq_false (fun h2 => h2 h)] at this
/-- '[]byte("..")' of a constant: the row is marked behind its end. -/
theorem WL.convLit {x : Operand} {t e : TypeId} {b n : Nat} {vs : List Value} (hu : X.P.underlying t = some (.slice e)) (he : X.P.underlying e = some (.int .u8)) (hx : ev ρ x = some (.slice (some ⟨b, 0, none⟩) n n))
    (hp : Pick (.row (some ⟨b, 0, none⟩) n e 1 vs) A B) (hl : Nat.beq vs.length n = true) (hn : Nat.blt 0 n = true) (hd : Nat.blt d X.n = true)
    (h : WL X ops Q rest ((d, .slice (some ⟨b, 0, none⟩) n n) :: ρ) (.blk b (.cells vs.toArray e (n, n + 1)) :: B)) : WL X ops Q (⟨some d, .convert t t x, ty, ps, af, none⟩ :: rest) ρ A :=
  WL.step1 (fun o ho _ a w f s => by
    have hlen := Nat.eq_of_beq_eq_true hl
    have hn0 : 0 < n := blt_lt hn
    have s1 := s.pick hp
    rcases s1.holds _ (.head _) with ⟨h0, _⟩ | ⟨b', cs, e1, hb, hsz, hcm, hvl, htk⟩
    · omega
    · obtain rfl : b = b' := by simpa using e1
      have hcs : cs = vs.toArray := by
        apply Array.ext'
        rw [Nat.mul_one] at hsz
        rw [← htk, List.take_of_length_le (by simp; omega)]
      subst hcs
      have hfz : (w.freeze ⟨b, vs.toArray.size, none⟩ 1).heap[b]? = some (.cells vs.toArray e (n, n + 1)) := by
        have hlt := lt_of_heap hb
        simp only [World.freeze, if_neg (show ¬ (1 = 0) by decide), Array.getElem?_modify, hb, Option.map_some]
        simp [hlen]
      have hk : Kept w [b] (w.freeze ⟨b, vs.toArray.size, none⟩ 1) := by
        refine ⟨rfl, rfl, rfl, by simp [World.freeze], fun c _ hc => ?_⟩
        simp only [World.freeze, if_neg (show ¬ (1 = 0) by decide), Array.getElem?_modify]
        rw [if_neg (by simp at hc; omega)]
      refine ⟨_, ?_, s1.put (x := .row _ _ _ _ _) (y := .blk b (.cells vs.toArray e (n, n + 1))) (by simp [HA.foot]; omega) rfl hk hfz⟩
      simp [execOp, ho, f.ev hx, convert, run_underlying hu, run_underlying he, markStringish, World.shape?, hb]) hd h
theorem Rd.lit {b : Nat} {T : TypeId} {fr : Nat × Nat} {vs : List Value} (hm : HA.blk b (.cells vs.toArray T fr) ∈ A) : Rd X A (some ⟨b, 0, none⟩) vs :=
  Rd.blk hm (fun i v hv => by simpa using hv)
end
end Go.Proofs.YtmmpngigaodcgaaGreat
/- Regions that draw their order and change memory; 'make', 'min', bools held against each other, over frames of known slots and owned memory. -/
namespace Go.Proofs.YtmmpngigaodcgaaGreat
set_option linter.unusedVariables false
set_option linter.unusedSimpArgs false
open Go Go.RowKit
section
variable {X : Cx} {ops : Array Oper} {Q : Exit → Act → World → Prop} {ρ : Env} {A B : List HA} {rest : List Oper} {d : Tmp} {op : Op} {ty : TypeId} {ps : String} {af : Array Edge} {v : Value}
/-! ### make, min, bools -/
theorem madeCells_one {z : Value} (n : Nat) : madeCells #[z] n = (List.replicate n z).toArray := by
  apply Array.ext
  · simp [madeCells]
  · intro i h1 h2
    simp [madeCells, Nat.mod_one]
theorem WL.make {x y : Operand} {t e : TypeId} {z : Value} {bytes m n : Nat} {k1 k2 : IntKind} (hu : X.P.underlying t = some (.slice e)) (he : ElemT X.P e z 1 bytes) (h1 : z.oneCell' = true)
    (hx : ev ρ x = some (.int k1 (m : Int))) (hy : ev ρ y = some (.int k2 (n : Int))) (hmn : m ≤ n) (hb : bytes * n ≤ 281474976710656) (h63 : n ≤ maxLen) (hd : Nat.blt d X.n = true)
    (h : ∀ b : Nat, WL X ops Q rest ((d, .slice (some ⟨b, 0, none⟩) m n) :: ρ) (.row (some ⟨b, 0, none⟩) n e 1 (List.replicate n z) :: A)) :
    WL X ops Q (⟨some d, .makeSlice t x y, ty, ps, af, none⟩ :: rest) ρ A :=
  WL.stepE (fun b : Nat => .slice (some ⟨b, 0, none⟩) m n) (fun b => .row (some ⟨b, 0, none⟩) n e 1 (List.replicate n z) :: A) (fun o ho _ a w f s => by
    obtain ⟨i, hi, hz, hk, hby⟩ := he.info
    have h63' : (n : Int) ≤ 9223372036854775807 := by simp only [maxLen] at h63; omega
    have hb' : (i.bytes : Int) * (n : Int) ≤ 281474976710656 := by
      have h : ((i.bytes * n : Nat) : Int) ≤ 281474976710656 := by rw [hby]; omega
      rwa [Int.natCast_mul] at h
    have hr := run_make (P := X.P) w t e i z hu hi hz k1 k2 m n (by omega) (by omega) hb' h63'
    rw [hk, Nat.mul_one, Int.toNat_natCast, Int.toNat_natCast, one_cells h1, madeCells_one] at hr
    refine ⟨w.heap.size, { w with heap := w.heap.push (.cells (List.replicate n z).toArray e) }, ?_, s.new (Kept.alloc w _) (.inr ⟨w.heap.size, (List.replicate n z).toArray, rfl, by simp, by simp, h63, by simp, by simp⟩) (fun b hb => ?_)⟩
    · simp only [execOp, ho, f.ev hx, f.ev hy, Sem.run_bind, hr, Result.andThen_ok, Sem.run_pure]
      rfl
    · simp only [HA.foot] at hb
      split at hb
      · cases hb
      · simp only [Option.map_some, Option.some.injEq] at hb; omega) hd h
theorem Yl.min2 {x y : Operand} {ts : Array TypeId} {k : IntKind} {m n : Int} (hx : ev ρ x = some (.int k m)) (hy : ev ρ y = some (.int k n)) :
    Yl X (.call { callee := .builtin .min, args := #[x, y], argTypes := ts }) ty ρ A (.int k (if n < m then n else m)) := fun o ho _ a w f _ => by
  simp [execOp, ho, resolve, invoke, builtin, f.ev hx, f.ev hy, run_min_int2]
theorem Yl.min2N {x y : Operand} {ts : Array TypeId} {k : IntKind} {m n : Nat} (hx : ev ρ x = some (.int k (m : Int))) (hy : ev ρ y = some (.int k (n : Int))) :
    Yl X (.call { callee := .builtin .min, args := #[x, y], argTypes := ts }) ty ρ A (.int k ((min m n : Nat) : Int)) := by
  have := Yl.min2 (X := X) (ty := ty) (A := A) (ts := ts) hx hy
  rwa [show (if (n : Int) < (m : Int) then (n : Int) else m) = ((min m n : Nat) : Int) by split <;> omega] at this
theorem Yl.eqlB {x y : Operand} {t u : TypeId} {p q : Bool} (ht : X.P.underlying t = some .bool) (hx : ev ρ x = some (.bool p)) (hy : ev ρ y = some (.bool q)) :
    Yl X (.binOp .eql t x y u) ty ρ A (.bool (p == q)) := fun o ho _ ac w f _ => by
  have hb : (binOp .eql t (.bool p) (.bool q)).run X.P w = .ok (.bool (p == q)) w := by
    simp only [binOp]
    simp [run_equal_bool w t p q ht]
  have hg : ∀ x y, (eqGuard .eql t x y (.bool p) (.bool q)).run X.P w = .ok () w := fun _ _ => rfl
  simp only [execOp, ho, f.ev hx, f.ev hy, Sem.run_bind, hg, Result.andThen_ok, hb, Sem.run_pure]
theorem Yl.eqlBT {x y : Operand} {t u : TypeId} {p q : Bool} (ht : X.P.underlying t = some .bool) (hx : ev ρ x = some (.bool p)) (hy : ev ρ y = some (.bool q)) (h : p = q) :
    Yl X (.binOp .eql t x y u) ty ρ A (.bool true) := by
  have := Yl.eqlB (X := X) (ty := ty) (A := A) (t := t) (u := u) ht hx hy
  rwa [show (p == q) = true by simp [h]] at this
theorem Yl.neqB {x y : Operand} {t u : TypeId} {p q : Bool} (ht : X.P.underlying t = some .bool) (hx : ev ρ x = some (.bool p)) (hy : ev ρ y = some (.bool q)) :
    Yl X (.binOp .neq t x y u) ty ρ A (.bool (p != q)) := fun o ho _ ac w f _ => by
  have hb : (binOp .neq t (.bool p) (.bool q)).run X.P w = .ok (.bool (p != q)) w := by
    simp only [binOp]
    simp [run_equal_bool w t p q ht, bne]
  have hg : ∀ x y, (eqGuard .neq t x y (.bool p) (.bool q)).run X.P w = .ok () w := fun _ _ => rfl
  simp only [execOp, ho, f.ev hx, f.ev hy, Sem.run_bind, hg, Result.andThen_ok, hb, Sem.run_pure]
/-- A whole number is converted to a kind that it fits. -/
theorem Yl.convLt {s t : TypeId} {k k' : IntKind} {du : TypeDesc} {x : Operand} {m : Nat} (hs : X.P.underlying s = some du) (ht : X.P.underlying t = some (.int k)) (hk : k.signed = false)
    (hx : ev ρ x = some (.int k' (m : Int))) (hm : m < 2 ^ k.bits) : Yl X (.convert s t x) ty ρ A (.int k (m : Int)) := by
  have := Yl.convN (X := X) (ty := ty) (A := A) hs ht hk hx
  rwa [Nat.mod_eq_of_lt hm] at this

/-- Comparisons whose outcome is known. -/
theorem Yl.lssT {x y : Operand} {t u : TypeId} {k : IntKind} {m n : Int} (hx : ev ρ x = some (.int k m)) (hy : ev ρ y = some (.int k n)) (h : m < n) : Yl X (.binOp .lss t x y u) ty ρ A (.bool true) := by
  have := Yl.lss (X := X) (ty := ty) (A := A) (t := t) (u := u) hx hy
  rwa [decide_eq_true h] at this
theorem Yl.lssF {x y : Operand} {t u : TypeId} {k : IntKind} {m n : Int} (hx : ev ρ x = some (.int k m)) (hy : ev ρ y = some (.int k n)) (h : ¬ m < n) : Yl X (.binOp .lss t x y u) ty ρ A (.bool false) := by
  have := Yl.lss (X := X) (ty := ty) (A := A) (t := t) (u := u) hx hy
  rwa [decide_eq_false h] at this
theorem Yl.gtrT {x y : Operand} {t u : TypeId} {k : IntKind} {m n : Int} (hx : ev ρ x = some (.int k m)) (hy : ev ρ y = some (.int k n)) (h : n < m) : Yl X (.binOp .gtr t x y u) ty ρ A (.bool true) := by
  have := Yl.gtr (X := X) (ty := ty) (A := A) (t := t) (u := u) hx hy
  rwa [decide_eq_true h] at this
theorem Yl.gtrF {x y : Operand} {t u : TypeId} {k : IntKind} {m n : Int} (hx : ev ρ x = some (.int k m)) (hy : ev ρ y = some (.int k n)) (h : ¬ n < m) : Yl X (.binOp .gtr t x y u) ty ρ A (.bool false) := by
  have := Yl.gtr (X := X) (ty := ty) (A := A) (t := t) (u := u) hx hy
  rwa [decide_eq_false h] at this
theorem Yl.leqT {x y : Operand} {t u : TypeId} {k : IntKind} {m n : Int} (hx : ev ρ x = some (.int k m)) (hy : ev ρ y = some (.int k n)) (h : m ≤ n) : Yl X (.binOp .leq t x y u) ty ρ A (.bool true) := by
  have := Yl.leq (X := X) (ty := ty) (A := A) (t := t) (u := u) hx hy
  rwa [decide_eq_true h] at this
theorem Yl.leqF {x y : Operand} {t u : TypeId} {k : IntKind} {m n : Int} (hx : ev ρ x = some (.int k m)) (hy : ev ρ y = some (.int k n)) (h : ¬ m ≤ n) : Yl X (.binOp .leq t x y u) ty ρ A (.bool false) := by
  have := Yl.leq (X := X) (ty := ty) (A := A) (t := t) (u := u) hx hy
  rwa [decide_eq_false h] at this
theorem Yl.geqT {x y : Operand} {t u : TypeId} {k : IntKind} {m n : Int} (hx : ev ρ x = some (.int k m)) (hy : ev ρ y = some (.int k n)) (h : n ≤ m) : Yl X (.binOp .geq t x y u) ty ρ A (.bool true) := by
  have := Yl.geq (X := X) (ty := ty) (A := A) (t := t) (u := u) hx hy
  rwa [decide_eq_true h] at this
theorem Yl.geqF {x y : Operand} {t u : TypeId} {k : IntKind} {m n : Int} (hx : ev ρ x = some (.int k m)) (hy : ev ρ y = some (.int k n)) (h : ¬ n ≤ m) : Yl X (.binOp .geq t x y u) ty ρ A (.bool false) := by
  have := Yl.geq (X := X) (ty := ty) (A := A) (t := t) (u := u) hx hy
  rwa [decide_eq_false h] at this
/-- '1 << n'. -/
theorem Yl.shl1 {y : Operand} {t u : TypeId} {k k' : IntKind} {n : Nat} (hk : k.signed = false) (hy : ev ρ y = some (.int k' (n : Int))) (hn : n < k.bits) :
    Yl X (.binOp .shl t (.const (.int k 1)) y u) ty ρ A (.int k ((2 ^ n : Nat) : Int)) := by
  have h := Yl.shlN (X := X) (ty := ty) (A := A) (t := t) (u := u) (x := .const (.int k 1)) (m := 1) hk rfl hy (by omega)
  rwa [Nat.one_mul, Nat.mod_eq_of_lt (Nat.pow_lt_pow_right (by decide) hn)] at h

/-! ### Any order, memory and all: 'A0' is what holds throughout -/
def WH (X : Cx) (A0 : List HA) (ops : Array Oper) (Q : Exit → Act → World → Prop) (fuel : Nat) (listed : Array Bool) (ρ : Env) (A : List HA) : Prop :=
  ∀ a w, Fr X.n ρ a → St X.w0 X.S A w → wpAnyH X.P .any ops Q (St X.w0 X.S A0) fuel listed a w
variable {A0 : List HA} {fuel : Nat} {listed : Array Bool}
theorem WC.regionH (A0 : List HA) {id : Nat} {l : List Oper} (hm : X.P.follows .mixedOrders = true) (h : WH X A0 l.toArray Q l.length (Array.replicate l.length false) ρ A) : WC X (.region id l.toArray true) Q ρ A :=
  fun a w f s => wp_region_held (S := St X.w0 X.S A0) hm (by simpa using h a _ f s.drew)
theorem WH.take {i : Nat} {g : Option (Nat × Bool)} (hi : ops[i]? = some ⟨some d, op, ty, ps, af, g⟩) (hg : g = none) (hs : Region.noSelect ops = true) (hf : Region.free .any ops listed i = true) (hr : (Region.ready .any ops listed).contains i = true)
    (hQ : ∀ c a w, Q (.panic c) (a.put (some d) v) w → Q (.panic c) a w) (hp : Part A A0) (hy : Yl X op ty ρ A0 v) (hd : Nat.blt d X.n = true)
    (h : WH X A0 ops Q fuel (listed.setIfInBounds i true) ((d, v) :: ρ) A) : WH X A0 ops Q (fuel + 1) listed ρ A := fun a w f s => by
  subst hg
  exact wpAnyH_take hi hs hf hr hQ (.inl ⟨by simp [Region.wanted], fun w' s' => hy _ rfl rfl a w' f s'⟩) (s.part hp) (h _ _ (f.put (blt_lt hd) v) s)
theorem WH.takeG {i j t : Nat} {b want : Bool} (hi : ops[i]? = some ⟨some d, op, ty, ps, af, some (j, want)⟩) (hj : (ops[j]?).bind (·.dst) = some t) (hv : lk ρ t = some (.bool b)) (hb : b = want)
    (hs : Region.noSelect ops = true) (hf : Region.free .any ops listed i = true) (hr : (Region.ready .any ops listed).contains i = true)
    (hQ : ∀ c a w, Q (.panic c) (a.put (some d) v) w → Q (.panic c) a w) (hp : Part A A0) (hy : Yl X op ty ρ A0 v) (hd : Nat.blt d X.n = true)
    (h : WH X A0 ops Q fuel (listed.setIfInBounds i true) ((d, v) :: ρ) A) : WH X A0 ops Q (fuel + 1) listed ρ A := fun a w f s =>
  wpAnyH_take hi hs hf hr hQ (.inl ⟨by rw [wanted_eq (o := ⟨some d, op, ty, ps, af, some (j, want)⟩) rfl hj f hv]; simp [hb], fun w' s' => hy _ rfl rfl a w' f s'⟩) (s.part hp) (h _ _ (f.put (blt_lt hd) v) s)
theorem WH.passG {i j t : Nat} {b want : Bool} (hi : ops[i]? = some ⟨some d, op, ty, ps, af, some (j, want)⟩) (hj : (ops[j]?).bind (·.dst) = some t) (hv : lk ρ t = some (.bool b)) (hb : b = !want)
    (hs : Region.noSelect ops = true) (hf : Region.free .any ops listed i = true) (hr : (Region.ready .any ops listed).contains i = true)
    (hQ : ∀ c a w, Q (.panic c) (a.put (some d) undef) w → Q (.panic c) a w) (hp : Part A A0) (hd : Nat.blt d X.n = true)
    (h : WH X A0 ops Q fuel (listed.setIfInBounds i true) ((d, undef) :: ρ) A) : WH X A0 ops Q (fuel + 1) listed ρ A := fun a w f s =>
  wpAnyH_take hi hs hf hr hQ (.inr ⟨by rw [wanted_eq (o := ⟨some d, op, ty, ps, af, some (j, want)⟩) rfl hj f hv]; simp [hb], rfl⟩) (s.part hp) (h _ _ (f.put (blt_lt hd) undef) s)
/-- In this order, as far as it goes. -/
def WT (X : Cx) (A0 : List HA) (ops : Array Oper) (Q : Exit → Act → World → Prop) (order : List Nat) (fuel : Nat) (listed : Array Bool) (ρ : Env) (A : List HA) : Prop :=
  Part A A0 ∧ Region.noSelect ops = true → WH X A0 ops Q fuel listed ρ A ∧ (order = order)
theorem WH.order (order : List Nat) (hp : Part A A0) (hs : Region.noSelect ops = true) (h : WT X A0 ops Q order fuel listed ρ A) : WH X A0 ops Q fuel listed ρ A := (h ⟨hp, hs⟩).1
theorem WT.nil (h : WH X A0 ops Q fuel listed ρ A) : WT X A0 ops Q [] fuel listed ρ A := fun _ => ⟨h, rfl⟩
theorem WT.take {i : Nat} {r : List Nat} {g : Option (Nat × Bool)} (hi : ops[i]? = some ⟨some d, op, ty, ps, af, g⟩) (hg : g = none)
    (hQ : ∀ c a w, Q (.panic c) (a.put (some d) v) w → Q (.panic c) a w) (hy : Yl X op ty ρ A0 v) (hd : Nat.blt d X.n = true) (hf : Region.free .any ops listed i = true) (hr : (Region.ready .any ops listed).contains i = true)
    (h : WT X A0 ops Q r fuel (listed.setIfInBounds i true) ((d, v) :: ρ) A) : WT X A0 ops Q (i :: r) (fuel + 1) listed ρ A := fun ⟨hp, hs⟩ => ⟨WH.take hi hg hs hf hr hQ hp hy hd (h ⟨hp, hs⟩).1, rfl⟩
theorem WT.takeG {i j t : Nat} {r : List Nat} {b want : Bool} (hi : ops[i]? = some ⟨some d, op, ty, ps, af, some (j, want)⟩) (hj : (ops[j]?).bind (·.dst) = some t) (hv : lk ρ t = some (.bool b)) (hb : b = want)
    (hQ : ∀ c a w, Q (.panic c) (a.put (some d) v) w → Q (.panic c) a w) (hy : Yl X op ty ρ A0 v) (hd : Nat.blt d X.n = true) (hf : Region.free .any ops listed i = true) (hr : (Region.ready .any ops listed).contains i = true)
    (h : WT X A0 ops Q r fuel (listed.setIfInBounds i true) ((d, v) :: ρ) A) : WT X A0 ops Q (i :: r) (fuel + 1) listed ρ A := fun ⟨hp, hs⟩ => ⟨WH.takeG hi hj hv hb hs hf hr hQ hp hy hd (h ⟨hp, hs⟩).1, rfl⟩
theorem WT.passG {i j t : Nat} {r : List Nat} {b want : Bool} (hi : ops[i]? = some ⟨some d, op, ty, ps, af, some (j, want)⟩) (hj : (ops[j]?).bind (·.dst) = some t) (hv : lk ρ t = some (.bool b)) (hb : b = !want)
    (hQ : ∀ c a w, Q (.panic c) (a.put (some d) undef) w → Q (.panic c) a w) (hd : Nat.blt d X.n = true) (hf : Region.free .any ops listed i = true) (hr : (Region.ready .any ops listed).contains i = true)
    (h : WT X A0 ops Q r fuel (listed.setIfInBounds i true) ((d, undef) :: ρ) A) : WT X A0 ops Q (i :: r) (fuel + 1) listed ρ A := fun ⟨hp, hs⟩ => ⟨WH.passG hi hj hv hb hs hf hr hQ hp hd (h ⟨hp, hs⟩).1, rfl⟩
theorem WT.kg {i : Nat} {r : List Nat} {dd : Option Tmp} {j : Nat × Bool} (_ : ops[i]? = some ⟨dd, op, ty, ps, af, some j⟩) (h : WT X A0 ops Q (i :: r) fuel listed ρ A) : WT X A0 ops Q (i :: r) fuel listed ρ A := h
theorem WT.kn {i : Nat} {r : List Nat} {dd : Option Tmp} (_ : ops[i]? = some ⟨dd, op, ty, ps, af, none⟩) (h : WT X A0 ops Q (i :: r) fuel listed ρ A) : WT X A0 ops Q (i :: r) fuel listed ρ A := h
theorem WT.k_move {i : Nat} {r : List Nat} {dd : Option Tmp} {g : Option (Nat × Bool)} {x : Operand} (_ : ops[i]? = some ⟨dd, .move x, ty, ps, af, g⟩) (h : WT X A0 ops Q (i :: r) fuel listed ρ A) : WT X A0 ops Q (i :: r) fuel listed ρ A := h
theorem WT.k_assign {i : Nat} {r : List Nat} {dd : Option Tmp} {g : Option (Nat × Bool)} {x : Operand} (_ : ops[i]? = some ⟨dd, .assign x, ty, ps, af, g⟩) (h : WT X A0 ops Q (i :: r) fuel listed ρ A) : WT X A0 ops Q (i :: r) fuel listed ρ A := h
theorem WT.k_extract {i : Nat} {r : List Nat} {dd : Option Tmp} {g : Option (Nat × Bool)} {x : Operand} {j : Nat} (_ : ops[i]? = some ⟨dd, .extract x j, ty, ps, af, g⟩) (h : WT X A0 ops Q (i :: r) fuel listed ρ A) : WT X A0 ops Q (i :: r) fuel listed ρ A := h
theorem WT.k_pick {i : Nat} {r : List Nat} {dd : Option Tmp} {g : Option (Nat × Bool)} {c x y : Operand} (_ : ops[i]? = some ⟨dd, .pick c x y, ty, ps, af, g⟩) (h : WT X A0 ops Q (i :: r) fuel listed ρ A) : WT X A0 ops Q (i :: r) fuel listed ρ A := h
theorem WT.k_unop {i : Nat} {r : List Nat} {dd : Option Tmp} {g : Option (Nat × Bool)} {o : UnOp} {t : TypeId} {x : Operand} (_ : ops[i]? = some ⟨dd, .unOp o t x, ty, ps, af, g⟩) (h : WT X A0 ops Q (i :: r) fuel listed ρ A) : WT X A0 ops Q (i :: r) fuel listed ρ A := h
theorem WT.k_conv {i : Nat} {r : List Nat} {dd : Option Tmp} {g : Option (Nat × Bool)} {s t : TypeId} {x : Operand} (_ : ops[i]? = some ⟨dd, .convert s t x, ty, ps, af, g⟩) (h : WT X A0 ops Q (i :: r) fuel listed ρ A) : WT X A0 ops Q (i :: r) fuel listed ρ A := h
theorem WT.k_idxa {i : Nat} {r : List Nat} {dd : Option Tmp} {g : Option (Nat × Bool)} {t : TypeId} {x y : Operand} (_ : ops[i]? = some ⟨dd, .indexAddr t x y, ty, ps, af, g⟩) (h : WT X A0 ops Q (i :: r) fuel listed ρ A) : WT X A0 ops Q (i :: r) fuel listed ρ A := h
theorem WT.k_load {i : Nat} {r : List Nat} {dd : Option Tmp} {g : Option (Nat × Bool)} {t : TypeId} {x : Operand} (_ : ops[i]? = some ⟨dd, .load t x, ty, ps, af, g⟩) (h : WT X A0 ops Q (i :: r) fuel listed ρ A) : WT X A0 ops Q (i :: r) fuel listed ρ A := h
theorem WT.k_slice {i : Nat} {r : List Nat} {dd : Option Tmp} {g : Option (Nat × Bool)} {t : TypeId} {x : Operand} {l u m : Option Operand} (_ : ops[i]? = some ⟨dd, .slice t x l u m, ty, ps, af, g⟩) (h : WT X A0 ops Q (i :: r) fuel listed ρ A) : WT X A0 ops Q (i :: r) fuel listed ρ A := h
theorem WT.k_fld {i : Nat} {r : List Nat} {dd : Option Tmp} {g : Option (Nat × Bool)} {t : TypeId} {x : Operand} {j : Nat} (_ : ops[i]? = some ⟨dd, .fieldAddr t x j, ty, ps, af, g⟩) (h : WT X A0 ops Q (i :: r) fuel listed ρ A) : WT X A0 ops Q (i :: r) fuel listed ρ A := h
theorem WT.k_index {i : Nat} {r : List Nat} {dd : Option Tmp} {g : Option (Nat × Bool)} {t : TypeId} {x y : Operand} (_ : ops[i]? = some ⟨dd, .index t x y, ty, ps, af, g⟩) (h : WT X A0 ops Q (i :: r) fuel listed ρ A) : WT X A0 ops Q (i :: r) fuel listed ρ A := h
theorem WT.k_build {i : Nat} {r : List Nat} {dd : Option Tmp} {g : Option (Nat × Bool)} {t : TypeId} {l : Array (Nat × Operand)} (_ : ops[i]? = some ⟨dd, .build t l, ty, ps, af, g⟩) (h : WT X A0 ops Q (i :: r) fuel listed ρ A) : WT X A0 ops Q (i :: r) fuel listed ρ A := h
theorem WT.k_func {i : Nat} {r : List Nat} {dd : Option Tmp} {g : Option (Nat × Bool)} {f : Fn} {l k : Array Operand} (_ : ops[i]? = some ⟨dd, .makeFunc f l k, ty, ps, af, g⟩) (h : WT X A0 ops Q (i :: r) fuel listed ρ A) : WT X A0 ops Q (i :: r) fuel listed ρ A := h
theorem WT.k_nilc {i : Nat} {r : List Nat} {dd : Option Tmp} {g : Option (Nat × Bool)} {x : Operand} (_ : ops[i]? = some ⟨dd, .nilCheck x, ty, ps, af, g⟩) (h : WT X A0 ops Q (i :: r) fuel listed ρ A) : WT X A0 ops Q (i :: r) fuel listed ρ A := h
theorem WT.k_s2a {i : Nat} {r : List Nat} {dd : Option Tmp} {g : Option (Nat × Bool)} {t : TypeId} {x : Operand} (_ : ops[i]? = some ⟨dd, .sliceToArrayPointer t x, ty, ps, af, g⟩) (h : WT X A0 ops Q (i :: r) fuel listed ρ A) : WT X A0 ops Q (i :: r) fuel listed ρ A := h
theorem WT.k_bin (o : BinOp) {i : Nat} {r : List Nat} {dd : Option Tmp} {g : Option (Nat × Bool)} {t u : TypeId} {x y : Operand} (_ : ops[i]? = some ⟨dd, .binOp o t x y u, ty, ps, af, g⟩) (h : WT X A0 ops Q (i :: r) fuel listed ρ A) : WT X A0 ops Q (i :: r) fuel listed ρ A := h
theorem WT.k_bi (f : Builtin) {i : Nat} {r : List Nat} {dd : Option Tmp} {g : Option (Nat × Bool)} {xs ts} (_ : ops[i]? = some ⟨dd, .call { callee := .builtin f, args := xs, argTypes := ts }, ty, ps, af, g⟩) (h : WT X A0 ops Q (i :: r) fuel listed ρ A) : WT X A0 ops Q (i :: r) fuel listed ρ A := h
theorem Oper.wp_then {P : Program} {o : Oper} {a : Act} {w : World} {K : Act → World → Prop} (h : o.wp P a w K (Exit.then K Q)) : o.wp P a w K Q := by
  unfold Oper.wp at *
  generalize (execOp a.eval o).run P w = r at *
  cases r with
  | ok n w' => cases n <;> exact h
  | halt x w' => cases x <;> exact h
/-- What is asked behind an operation. -/
def HNext (X : Cx) (A0 : List HA) (ops : Array Oper) (Q : Exit → Act → World → Prop) (fuel : Nat) (listed : Array Bool) (a : Act) (w : World) : Prop :=
  St X.w0 X.S A0 w ∧ wpAnyH X.P .any ops Q (St X.w0 X.S A0) fuel listed a w
theorem WL.wpOp {i : Nat} {o : Oper} (hi : ops[i]? = some o) (h : WL X ops (Exit.then (HNext X A0 ops Q fuel (listed.setIfInBounds i true)) Q) [o] ρ A) {a : Act} {w : World} (f : Fr X.n ρ a) (s : St X.w0 X.S A w) :
    wpOp X.P ops Q i (fun a' w' => St X.w0 X.S A0 w' ∧ wpAnyH X.P .any ops Q (St X.w0 X.S A0) fuel (listed.setIfInBounds i true) a' w') a w := by
  have h1 := h a w f s
  unfold wpList at h1
  unfold Go.wpOp
  simp only [hi]
  split
  · rename_i hw
    rw [if_pos hw] at h1
    refine h1.imp (fun h1 => Oper.wp_then (Oper.wp_mono (Q := Exit.then (HNext X A0 ops Q fuel (listed.setIfInBounds i true)) Q) (fun a w hk => ?_) h1)) (fun h1 => ⟨h1.1, ?_⟩)
    · unfold wpList at hk; exact hk
    · exact h1.2
  · rename_i hw
    rw [if_neg hw] at h1
    unfold wpList at h1
    exact h1
/-- Only this one may come up. -/
theorem WH.only {i : Nat} {o : Oper} (hr : Region.ready .any ops listed = [i]) (hi : ops[i]? = some o)
    (h : WL X ops (Exit.then (HNext X A0 ops Q fuel (listed.setIfInBounds i true)) Q) [o] ρ A) : WH X A0 ops Q (fuel + 1) listed ρ A := fun a w f s =>
  wpAnyH_all hr (by simp) (fun j hj => by simp at hj; subst hj; exact h.wpOp hi f s)
theorem WH.two {i j : Nat} {o o2 : Oper} (hr : Region.ready .any ops listed = [i, j]) (hi : ops[i]? = some o) (hj : ops[j]? = some o2)
    (h : WL X ops (Exit.then (HNext X A0 ops Q fuel (listed.setIfInBounds i true)) Q) [o] ρ A)
    (h2 : WL X ops (Exit.then (HNext X A0 ops Q fuel (listed.setIfInBounds j true)) Q) [o2] ρ A) : WH X A0 ops Q (fuel + 1) listed ρ A := fun a w f s =>
  wpAnyH_all hr (by simp) (fun k hk => by
    simp at hk
    rcases hk with rfl | rfl
    · exact h.wpOp hi f s
    · exact h2.wpOp hj f s)
/-- Whichever comes up. -/
theorem WH.all {rs : List Nat} (hr : Region.ready .any ops listed = rs) (hne : rs ≠ [])
    (h : ∀ i ∈ rs, ∃ o, ops[i]? = some o ∧ WL X ops (Exit.then (HNext X A0 ops Q fuel (listed.setIfInBounds i true)) Q) [o] ρ A) : WH X A0 ops Q (fuel + 1) listed ρ A := fun a w f s =>
  wpAnyH_all hr hne (fun i hi => by obtain ⟨o, ho, hh⟩ := h i hi; exact hh.wpOp ho f s)
theorem WN.nextH (hp : Part A A0) (h : WH X A0 ops Q fuel listed ρ A) : WN X (Exit.then (HNext X A0 ops Q fuel listed) Q) .normal ρ A := fun a w f s => ⟨s.part hp, h a w f s⟩
theorem WH.done (hr : Region.ready .any ops listed = []) (h : WN X Q .normal ρ A) : WH X A0 ops Q fuel listed ρ A := fun a w f s => wpAnyH_done hr (h a w f s) fuel
end
end Go.Proofs.YtmmpngigaodcgaaGreat
