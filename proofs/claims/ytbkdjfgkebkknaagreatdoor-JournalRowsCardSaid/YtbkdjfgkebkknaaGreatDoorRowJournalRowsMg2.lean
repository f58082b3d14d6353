import Derived.Test.YtbkdjfgkebkknaaGreatDoorRowJournalRowsMg1
import Derived.Laws.OwnMore
import Derived.Laws.CopyRow
import Derived.Laws.IdiomCopy
import Derived.Laws.BytesString
import Derived.Laws.Strings
namespace Go.Proofs.YtbkdjfgkebkknaaGreatDoor
set_option linter.unusedVariables false
set_option linter.unusedSimpArgs false
open Go Go.RowKit
section
variable {X : Cx} {ops : Array Oper} {Q : Exit → Act → World → Prop} {ρ : Env} {A B : List HA} {rest : List Oper} {d : Tmp} {op : Op} {ty : TypeId} {ps : String} {af : Array Edge} {v : Value}

theorem WL.stepE {ι : Type} (V : ι → Value) (A' : ι → List HA)
    (hy : ∀ (o : Oper), o.op = op → o.type = ty → ∀ a w, Fr X.n ρ a → St X.w0 X.S A w → ∃ i w', (execOp a.eval o).run X.P w = .ok (.value (V i)) w' ∧ St X.w0 X.S (A' i) w')
    (hd : Nat.blt d X.n = true) (h : ∀ i, WL X ops Q rest ((d, V i) :: ρ) (A' i)) : WL X ops Q (⟨some d, op, ty, ps, af, none⟩ :: rest) ρ A :=
  fun a w f s => wpList_plain rfl fun K hK => by
    obtain ⟨i, w', hr, hs⟩ := hy ⟨some d, op, ty, ps, af, none⟩ rfl rfl a w f s
    unfold Oper.wp
    rw [hr]
    exact hK _ _ (h i _ _ (f.put (blt_lt hd) _) hs)
theorem WL.step1 {A' : List HA}
    (hy : ∀ (o : Oper), o.op = op → o.type = ty → ∀ a w, Fr X.n ρ a → St X.w0 X.S A w → ∃ w', (execOp a.eval o).run X.P w = .ok (.value v) w' ∧ St X.w0 X.S A' w')
    (hd : Nat.blt d X.n = true) (h : WL X ops Q rest ((d, v) :: ρ) A') : WL X ops Q (⟨some d, op, ty, ps, af, none⟩ :: rest) ρ A :=
  WL.stepE (fun _ : Unit => v) (fun _ => A') (fun o h1 h2 a w f s => by obtain ⟨w', hr, hs⟩ := hy o h1 h2 a w f s; exact ⟨(), w', hr, hs⟩) hd (fun _ => h)
theorem WL.step0 {A' : List HA}
    (hy : ∀ (o : Oper), o.op = op → o.type = ty → ∀ a w, Fr X.n ρ a → St X.w0 X.S A w → ∃ r w', (execOp a.eval o).run X.P w = .ok r w' ∧ (r = .skip ∨ ∃ u, r = .value u) ∧ St X.w0 X.S A' w')
    (h : WL X ops Q rest ρ A') : WL X ops Q (⟨none, op, ty, ps, af, none⟩ :: rest) ρ A :=
  fun a w f s => wpList_plain rfl fun K hK => by
    obtain ⟨r, w', hr, hv, hs⟩ := hy ⟨none, op, ty, ps, af, none⟩ rfl rfl a w f s
    unfold Oper.wp
    rw [hr]
    rcases hv with rfl | ⟨u, rfl⟩
    · exact hK _ _ (h _ _ f hs)
    · exact hK _ _ (h _ _ f hs)

theorem Yl.len {x : Operand} {t e : TypeId} {a : Option Addr} {n cap : Nat} (hu : X.P.underlying t = some (.slice e)) (hx : ev ρ x = some (.slice a n cap)) :
    Yl X (.call { callee := .builtin .len, args := #[x], argTypes := #[t] }) ty ρ A (.int .i64 (n : Int)) := fun o ho _ ac w f _ => by
  simp [execOp, ho, resolve, invoke, builtin, f.ev hx, Builtin.len_, run_underlying hu, goInt]
theorem Rd.some_ {a : Option Addr} {vs : List Value} (h : Rd X A a vs) (hv : vs ≠ []) {w : World} (s : St X.w0 X.S A w) : ∃ ad, a = some ad := by
  rcases h w s with h2 | ⟨b, off, rfl, _⟩
  · exact absurd h2 hv
  · exact ⟨_, rfl⟩
theorem ne_nil_of {vs : List Value} {i : Nat} {u : Value} (h : vs[i]? = some u) : vs ≠ [] := by rintro rfl; simp at h
theorem Yl.indexAddr {x y : Operand} {t e : TypeId} {a : Option Addr} {n cap k j : Nat} {ik : IntKind} {vs : List Value} (hu : X.P.underlying t = some (.slice e)) (hs : ∀ w, (sizeOf e).run X.P w = .ok k w)
    (hx : ev ρ x = some (.slice a n cap)) (hy : ev ρ y = some (.int ik (j : Int))) (hr : Rd X A a vs) (hv : vs ≠ []) (hj : j < n) :
    Yl X (.indexAddr t x y) ty ρ A (.pointer (el a (j * k))) := fun o ho _ ac w f s => by
  obtain ⟨ad, rfl⟩ := hr.some_ hv s
  simp [execOp, ho, f.ev hx, f.ev hy, Instr.indexAt, asIntOf, run_underlying hu, hj, hs, el]
theorem Yl.indexAddr1 {x y : Operand} {t e : TypeId} {a : Option Addr} {n cap j : Nat} {ik : IntKind} {vs : List Value} (hu : X.P.underlying t = some (.slice e)) (hs : ∀ w, (sizeOf e).run X.P w = .ok 1 w)
    (hx : ev ρ x = some (.slice a n cap)) (hy : ev ρ y = some (.int ik (j : Int))) (hr : Rd X A a vs) (hv : vs ≠ []) (hj : j < n) :
    Yl X (.indexAddr t x y) ty ρ A (.pointer (el a j)) := by
  have := Yl.indexAddr (ty := ty) hu hs hx hy hr hv hj
  rwa [Nat.mul_one] at this
theorem Yl.indexArr {x y : Operand} {t e : TypeId} {n k j b off : Nat} {ik : IntKind} (hu : X.P.underlying t = some (.array n e)) (hs : ∀ w, (sizeOf e).run X.P w = .ok k w)
    (hx : ev ρ x = some (.pointer (some ⟨b, off, none⟩))) (hy : ev ρ y = some (.int ik (j : Int))) (hj : j < n) :
    Yl X (.indexAddr t x y) ty ρ A (.pointer (some ⟨b, off + j * k, none⟩)) := fun o ho _ ac w f _ => by
  have e : (⟨b, off, none⟩ : Addr).add (j * k) = ⟨b, off + j * k, none⟩ := by unfold Addr.add; split <;> simp_all
  simp [execOp, ho, f.ev hx, f.ev hy, Instr.indexAt, asIntOf, run_underlying hu, hj, hs, Instr.sureAddr, e]
theorem Yl.load {x : Operand} {T : TypeId} {a : Option Addr} {i : Nat} {vs : List Value} (hg : ∀ w, (isAgg T).run X.P w = .ok false w) (hx : ev ρ x = some (.pointer (el a i)))
    (hr : Rd X A a vs) (hv : vs[i]? = some v) : Yl X (.load T x) ty ρ A v := fun o ho _ ac w f s => by
  obtain ⟨ad, h1, h2⟩ := hr.at_ hv s
  have hx' := f.ev hx
  rw [h1] at hx'
  simp [execOp, ho, hx', Instr.loadAt, Instr.sureAddr, loadVar, hg, h2]
theorem St.cell {w0 w : World} {S : List Nat} {b off : Nat} {cs : Array Value} {T : TypeId} {fr : Nat × Nat} (s : St w0 S A w) (hm : HA.blk b (.cells cs T fr) ∈ A) (hv : cs[off]? = some v) : w.cell? ⟨b, off, none⟩ = some v := by
  have hb : w.heap[b]? = some (.cells cs T fr) := s.holds _ hm
  simp only [World.cell?, hb]; simpa using hv
theorem Yl.loadBlk {x : Operand} {T T' : TypeId} {b off : Nat} {cs : Array Value} {fr : Nat × Nat} (hg : ∀ w, (isAgg T).run X.P w = .ok false w) (hx : ev ρ x = some (.pointer (some ⟨b, off, none⟩)))
    (hm : HA.blk b (.cells cs T' fr) ∈ A) (hv : cs[off]? = some v) : Yl X (.load T x) ty ρ A v := fun o ho _ ac w f s => by
  simp [execOp, ho, f.ev hx, Instr.loadAt, Instr.sureAddr, loadVar, hg, s.cell hm hv]
theorem Yl.loadAgg {x : Operand} {T T' : TypeId} {b off k : Nat} {cs : Array Value} {us : List Value} {fr : Nat × Nat} (hg : ∀ w, (isAgg T).run X.P w = .ok true w) (hk : ∀ w, (sizeOf T).run X.P w = .ok k w)
    (hx : ev ρ x = some (.pointer (some ⟨b, off, none⟩))) (hm : HA.blk b (.cells cs T' fr) ∈ A) (hl : us.length = k) (hv : ∀ i u, us[i]? = some u → cs[off + i]? = some u) :
    Yl X (.load T x) ty ρ A (.agg us.toArray) := fun o ho _ ac w f s => by
  have hc : ∀ i u, us[i]? = some u → w.cell? ((⟨b, off, none⟩ : Addr).add i) = some u := fun i u hu => by
    have e : (⟨b, off, none⟩ : Addr).add i = ⟨b, off + i, none⟩ := by unfold Addr.add; split <;> simp_all
    rw [e]; exact s.cell hm (hv i u hu)
  have hl' := run_loadCells_list (P := X.P) w ⟨b, off, none⟩ us hc
  rw [hl] at hl'
  simp [execOp, ho, f.ev hx, Instr.loadAt, Instr.sureAddr, loadVar, hg, hk, hl']
theorem Yl.cut {x l h : Operand} {t e : TypeId} {a : Option Addr} {n cap k lo hi : Nat} {k1 k2 : IntKind} (hu : X.P.underlying t = some (.slice e)) (hs : ∀ w, (sizeOf e).run X.P w = .ok k w)
    (hx : ev ρ x = some (.slice a n cap)) (hl : ev ρ l = some (.int k1 (lo : Int))) (hh : ev ρ h = some (.int k2 (hi : Int))) (h1 : lo ≤ hi) (h2 : hi ≤ cap) :
    Yl X (.slice t x (some l) (some h) none) ty ρ A (.slice (cutA a lo cap k) (hi - lo) (cap - lo)) := fun o ho _ ac w f _ => by
  simp [execOp, ho, f.ev hx, f.ev hl, f.ev hh, Instr.sliceAt, Instr.slice, run_underlying hu, Instr.sliceBounds, Instr.sliceBound, asIntOf, h1, h2, hs, cutA]
theorem Yl.cutTo {x h : Operand} {t e : TypeId} {a : Option Addr} {n cap k hi : Nat} {k2 : IntKind} (hu : X.P.underlying t = some (.slice e)) (hs : ∀ w, (sizeOf e).run X.P w = .ok k w)
    (hx : ev ρ x = some (.slice a n cap)) (hh : ev ρ h = some (.int k2 (hi : Int))) (h2 : hi ≤ cap) :
    Yl X (.slice t x none (some h) none) ty ρ A (.slice (cutA a 0 cap k) hi cap) := fun o ho _ ac w f _ => by
  simp [execOp, ho, f.ev hx, f.ev hh, Instr.sliceAt, Instr.slice, run_underlying hu, Instr.sliceBounds, Instr.sliceBound, asIntOf, h2, hs, cutA]
theorem Yl.cutFrom {x l : Operand} {t e : TypeId} {a : Option Addr} {n cap k lo : Nat} {k1 : IntKind} (hu : X.P.underlying t = some (.slice e)) (hs : ∀ w, (sizeOf e).run X.P w = .ok k w)
    (hx : ev ρ x = some (.slice a n cap)) (hl : ev ρ l = some (.int k1 (lo : Int))) (h1 : lo ≤ n) :
    Yl X (.slice t x (some l) none none) ty ρ A (.slice (cutA a lo cap k) (n - lo) (cap - lo)) := fun o ho _ ac w f _ => by
  simp [execOp, ho, f.ev hx, f.ev hl, Instr.sliceAt, Instr.slice, run_underlying hu, Instr.sliceBounds, Instr.sliceBound, asIntOf, h1, hs, cutA]
theorem Yl.cut3 {x h m : Operand} {t e : TypeId} {a : Option Addr} {n cap k hi mx : Nat} {k2 k3 : IntKind} (hu : X.P.underlying t = some (.slice e)) (hs : ∀ w, (sizeOf e).run X.P w = .ok k w)
    (hx : ev ρ x = some (.slice a n cap)) (hh : ev ρ h = some (.int k2 (hi : Int))) (hm : ev ρ m = some (.int k3 (mx : Int))) (h1 : hi ≤ mx) (h2 : mx ≤ cap) :
    Yl X (.slice t x none (some h) (some m)) ty ρ A (.slice (cutA a 0 mx k) hi mx) := fun o ho _ ac w f _ => by
  simp [execOp, ho, f.ev hx, f.ev hh, f.ev hm, Instr.sliceAt, Instr.slice, run_underlying hu, Instr.sliceBounds, Instr.sliceBound, asIntOf, h1, h2, hs, cutA]
theorem cutA_zero (a : Option Addr) (cap k : Nat) : cutA a 0 cap k = a := by
  unfold cutA
  split
  · rfl
  · cases a <;> simp [Addr.add]

theorem WL.alloc {T : TypeId} {z : Value} (hz : ∀ w, (zeroValue T).run X.P w = .ok z w) (hd : Nat.blt d X.n = true)
    (h : ∀ b, WL X ops Q rest ((d, .pointer (some ⟨b, 0, none⟩)) :: ρ) (.blk b (.cells z.cells T (0, 0)) :: A)) : WL X ops Q (⟨some d, .alloc T, ty, ps, af, none⟩ :: rest) ρ A :=
  WL.stepE (fun b : Nat => .pointer (some ⟨b, 0, none⟩)) (fun b => .blk b (.cells z.cells T (0, 0)) :: A) (fun o ho _ a w f s =>
    ⟨w.heap.size, _, by simp [execOp, ho, Instr.alloc, hz, newVar, newRow, newObj]; rfl, s.alloc _⟩) hd h
theorem WL.box {T : TypeId} {x : Operand} (hx : ev ρ x = some v) (hd : Nat.blt d X.n = true)
    (h : ∀ b, WL X ops Q rest ((d, .pointer (some ⟨b, 0, none⟩)) :: ρ) (.blk b (.cells v.cells T (0, 0)) :: A)) : WL X ops Q (⟨some d, .box T x, ty, ps, af, none⟩ :: rest) ρ A :=
  WL.stepE (fun b : Nat => .pointer (some ⟨b, 0, none⟩)) (fun b => .blk b (.cells v.cells T (0, 0)) :: A) (fun o ho _ a w f s =>
    ⟨w.heap.size, _, by simp [execOp, ho, f.ev hx, Instr.box, newVar, newRow, newObj]; rfl, s.alloc _⟩) hd h

theorem Kept.setRow (w : World) (g : Nat) (cs : Array Value) : Kept w [g] (w.setRow g cs) :=
  ⟨rfl, rfl, rfl, by simp [World.setRow], fun b _ hb => setRow_other w g b cs (by simp at hb; omega)⟩
theorem run_splice (P : Program) {w : World} {g o : Nat} {T : TypeId} {cur : Array Value} (us : List Value) (hg : w.heap[g]? = some (.cells cur T (0, 0))) (hl : o + us.length ≤ cur.size) (h1 : ∀ u ∈ us, u.oneCell' = true) :
    (storeCells ⟨g, o, none⟩ us).run P w = .ok () (w.setRow g (cur.toList.take o ++ us ++ cur.toList.drop (o + us.length)).toArray) := by
  have := run_storeCells_at P g o T us 0 cur w hg (by simpa using hl) h1
  simpa using this
theorem one_cells {u : Value} (h : u.oneCell' = true) : u.cells = #[u] := by
  cases u <;> first | rfl | (simp [Value.oneCell'] at h; done)
theorem WL.storeBlk {x y : Operand} {T T' : TypeId} {b off : Nat} {cs : Array Value} {us : List Value} (hs : ∀ w, (sizeOf T).run X.P w = .ok us.length w) (hx : ev ρ x = some (.pointer (some ⟨b, off, none⟩)))
    (hy : ev ρ y = some v) (hv : v.cells.toList = us) (h1 : ∀ u ∈ us, u.oneCell' = true) (hp : Pick (.blk b (.cells cs T' (0, 0))) A B) (hl : off + us.length ≤ cs.size)
    (h : WL X ops Q rest ρ (.blk b (.cells (cs.toList.take off ++ us ++ cs.toList.drop (off + us.length)).toArray T' (0, 0)) :: B)) : WL X ops Q (⟨none, .store T x y, ty, ps, af, none⟩ :: rest) ρ A :=
  WL.step0 (fun o ho _ a w f s => by
    have s1 := s.pick hp
    have hb : w.heap[b]? = some (.cells cs T' (0, 0)) := s1.holds _ (.head _)
    have hr := run_splice X.P us hb hl h1
    have hlen : v.cells.size = us.length := by rw [← hv]; simp
    refine ⟨.skip, _, ?_, .inl rfl, s1.put (x := .blk b _) (y := .blk b (.cells (cs.toList.take off ++ us ++ cs.toList.drop (off + us.length)).toArray T' (0, 0))) rfl rfl (Kept.setRow w b _) (setRow_heap w b cs _ T' _ hb)⟩
    simp [execOp, ho, f.ev hx, f.ev hy, Instr.storeAt, Instr.sureAddr, storeVar, hs, hlen, hv, hr]) h
theorem set_splice {α : Type} (l : List α) (i : Nat) (u : α) (h : i < l.length) : l.take i ++ [u] ++ l.drop (i + 1) = l.set i u := by
  rw [List.append_assoc, List.set_eq_take_append_cons_drop, if_pos h]; rfl
theorem WL.store1 {x y : Operand} {T T' : TypeId} {b off : Nat} {cs : Array Value} (hs : ∀ w, (sizeOf T).run X.P w = .ok 1 w) (hx : ev ρ x = some (.pointer (some ⟨b, off, none⟩)))
    (hy : ev ρ y = some v) (h1 : v.oneCell' = true) (hp : Pick (.blk b (.cells cs T' (0, 0))) A B) (hl : off < cs.size)
    (h : WL X ops Q rest ρ (.blk b (.cells (cs.toList.set off v).toArray T' (0, 0)) :: B)) : WL X ops Q (⟨none, .store T x y, ty, ps, af, none⟩ :: rest) ρ A :=
  WL.storeBlk (us := [v]) hs hx hy (by rw [one_cells h1]) (by simpa using h1) hp (by simp only [List.length_singleton]; omega) (by
    have e := set_splice cs.toList off v (by simpa using hl)
    simp only [List.length_singleton]
    rw [e]; exact h)
theorem WL.storeAll {x y : Operand} {T T' : TypeId} {b : Nat} {cs : Array Value} {us : List Value} (hs : ∀ w, (sizeOf T).run X.P w = .ok us.length w) (hx : ev ρ x = some (.pointer (some ⟨b, 0, none⟩)))
    (hy : ev ρ y = some (.agg us.toArray)) (h1 : ∀ u ∈ us, u.oneCell' = true) (hp : Pick (.blk b (.cells cs T' (0, 0))) A B) (hl : us.length = cs.size)
    (h : WL X ops Q rest ρ (.blk b (.cells us.toArray T' (0, 0)) :: B)) : WL X ops Q (⟨none, .store T x y, ty, ps, af, none⟩ :: rest) ρ A :=
  WL.storeBlk (us := us) hs hx hy rfl h1 hp (by omega) (by
    have e : cs.toList.take 0 ++ us ++ cs.toList.drop (0 + us.length) = us := by simp [hl]
    rw [e]; exact h)
theorem WL.storeRow {x y : Operand} {T T' : TypeId} {a : Option Addr} {cap k i : Nat} {vs : List Value} (hs : ∀ w, (sizeOf T).run X.P w = .ok 1 w) (hx : ev ρ x = some (.pointer (el a i)))
    (hy : ev ρ y = some v) (h1 : v.oneCell' = true) (hp : Pick (.row a cap T' k vs) A B) (hl : i < vs.length)
    (h : WL X ops Q rest ρ (.row a cap T' k (vs.set i v) :: B)) : WL X ops Q (⟨none, .store T x y, ty, ps, af, none⟩ :: rest) ρ A :=
  WL.step0 (fun o ho _ ac w f s => by
    have s1 := s.pick hp
    rcases s1.holds _ (.head _) with ⟨_, h0⟩ | ⟨b, cs, rfl, hb, hsz, hcm, hvl, htk⟩
    · subst h0; simp at hl
    · have hr := run_splice X.P (o := i) [v] hb (by simp only [List.length_singleton]; omega) (by simpa using h1)
      have hx' := f.ev hx
      have e : (⟨b, 0, none⟩ : Addr).add i = ⟨b, i, none⟩ := by unfold Addr.add; split <;> simp_all
      simp only [el, Option.map_some, e] at hx'
      have hc0 : cap ≠ 0 := by intro h0; rw [h0, Nat.zero_mul] at hsz; omega
      have e2 := set_splice cs.toList i v (by simp only [Array.length_toList]; omega)
      simp only [List.length_singleton] at hr
      rw [e2] at hr
      refine ⟨.skip, w.setRow b (cs.toList.set i v).toArray, ?_, .inl rfl, s1.put (x := .row _ _ _ _ _) (y := .row (some ⟨b, 0, none⟩) cap T' k (vs.set i v)) (by simp [HA.foot, hc0]) (by simp [HA.foot, hc0]) (Kept.setRow w b _)
        (.inr ⟨b, (cs.toList.set i v).toArray, rfl, setRow_heap w b cs _ T' _ hb, by simp [hsz], hcm, by simp only [List.length_set, List.size_toArray, Array.length_toList]; exact hvl, ?_⟩)⟩
      · simp [execOp, ho, hx', f.ev hy, Instr.storeAt, Instr.sureAddr, storeVar, hs, one_cells h1, hr]
      · show List.take (vs.set i v).length (cs.toList.set i v) = vs.set i v
        rw [List.length_set, List.take_set, htk]) h

structure ElemT (P : Program) (e : TypeId) (z : Value) (k bytes : Nat) : Prop where
  info : ∃ i, P.info? e = some i ∧ i.zero = some z ∧ i.size = k ∧ i.bytes = bytes
  cells : z.cells.size = k
  pos : 0 < k
theorem ElemT.of {P : Program} {e : TypeId} {z : Value} {k bytes : Nat} (h : (P.info? e).map (fun i => (i.zero, i.size, i.bytes)) = some (some z, k, bytes)) (hc : z.cells.size = k) (hp : 0 < k) : ElemT P e z k bytes := by
  obtain ⟨i, hi, hzz⟩ := Option.map_eq_some_iff.1 h
  simp only [Prod.mk.injEq] at hzz
  exact ⟨⟨i, hi, hzz.1, hzz.2.1, hzz.2.2⟩, hc, hp⟩
theorem ElemT.sizeOf {P : Program} {e : TypeId} {z : Value} {k bytes : Nat} (h : ElemT P e z k bytes) (w : World) : (sizeOf e).run P w = .ok k w := by
  obtain ⟨i, hi, _, hk, _⟩ := h.info
  simp [Go.sizeOf, typeInfo, hi, hk]
theorem ElemT.zero {P : Program} {e : TypeId} {z : Value} {k bytes : Nat} (h : ElemT P e z k bytes) (w : World) : (zeroValue e).run P w = .ok z w := by
  obtain ⟨i, hi, hz, _, _⟩ := h.info
  simp [Go.zeroValue, typeInfo, hi, hz]
theorem zero_of {P : Program} {e : TypeId} {z : Value} (h : (P.info? e).map (fun i => i.zero) = some (some z)) (w : World) : (zeroValue e).run P w = .ok z w := by
  obtain ⟨i, hi, hz⟩ := Option.map_eq_some_iff.1 h
  simp [Go.zeroValue, typeInfo, hi, hz]
theorem CellsAt.first {P : Program} {w : World} {a : Option Addr} {vs : List Value} (h : CellsAt w a vs) {k n len cap : Nat} (hl : vs.length = n * k) :
    (Builtin.firstCells k n (.slice a len cap)).run P w = .ok vs.toArray w := by
  rcases h with rfl | ⟨b, off, rfl, h⟩
  · cases a with
    | none => simp [Builtin.firstCells]
    | some ad => exact run_firstCells_some (P := P) w k n ad len cap [] hl (by simp)
  · refine run_firstCells_some (P := P) w k n ⟨b, off, none⟩ len cap vs hl (fun j v hv => ?_)
    have e : (⟨b, off, none⟩ : Addr).add j = ⟨b, off + j, none⟩ := by unfold Addr.add; split <;> simp_all
    rw [e]; exact h j v hv
theorem run_append_none {P : Program} {w : World} {t ty e : TypeId} {z : Value} {k bytes : Nat} (hu : P.underlying t = some (.slice e)) (he : ElemT P e z k bytes) {a a2 : Option Addr} {n cap c : Nat} (hn : n ≤ cap) :
    (Builtin.append_ #[t, t] ty #[.slice a n cap, .slice a2 0 c]).run P w = .ok (.slice a n cap) w := by
  obtain ⟨i, hi, hz, hk, _⟩ := he.info
  have hf : (Builtin.firstCells i.size 0 (.slice a2 0 c)).run P w = .ok #[] w := by
    have := (CellsAt.nil w a2).first (P := P) (k := i.size) (n := 0) (len := 0) (cap := c) (by simp)
    simpa using this
  cases a with
  | none => simp [Builtin.append_, run_underlying hu, Go.sizeOf, typeInfo, hi, Builtin.lenOf, hn, hf]
  | some ad => simp [Builtin.append_, run_underlying hu, Go.sizeOf, typeInfo, hi, Builtin.lenOf, hn, hf, storeCells]
theorem run_append_new {P : Program} {w : World} {t ty e : TypeId} {z : Value} {k bytes : Nat} (hu : P.underlying t = some (.slice e)) (he : ElemT P e z k bytes) {a a2 : Option Addr} {n cap m c : Nat} {olds news : List Value}
    (ho : CellsAt w a olds) (hol : olds.length = n * k) (hn : CellsAt w a2 news) (hnl : news.length = m * k) (hg : cap < n + m) (hb : (n + m) * bytes ≤ 140737488355328) (h63 : n + m ≤ maxLen) :
    (Builtin.append_ #[t, t] ty #[.slice a n cap, .slice a2 m c]).run P w =
      .ok (.slice (some ⟨w.heap.size, 0, none⟩) (n + m) (grownCap w (n + m) cap e))
        (w.drew.alloc (.cells (olds.toArray ++ news.toArray ++ Builtin.zeroCells z.cells (grownCap w (n + m) cap e - (n + m))) e)) := by
  obtain ⟨i, hi, hz, hk, hby⟩ := he.info
  have g : ¬ (n + m ≤ cap) := by omega
  have h63' : ¬ (9223372036854775807 < ((n : Int) + (m : Int))) := by simp only [maxLen] at h63; omega
  have h48 : ¬ (281474976710656 < Builtin.nextslicecap (n + m) cap * i.bytes) := by
    have := growslice_fits (need := n + m) (old := cap) (bytes := i.bytes) hg (by rw [hby]; exact hb)
    omega
  have hf := CellsAt.first (P := P) (w := w.drew) (a := a2) (vs := news) (by exact hn) (k := i.size) (n := m) (len := m) (cap := c) (by rw [hk]; exact hnl)
  have hfo := CellsAt.first (P := P) (w := w.drew) (a := a) (vs := olds) (by exact ho) (k := i.size) (n := n) (len := n) (cap := cap) (by rw [hk]; exact hol)
  simp [Builtin.append_, run_underlying hu, Go.sizeOf, typeInfo, zeroValue, hi, hz, Builtin.lenOf, g, h63', h48, Question.forced, hf, hfo, newRow, grownCap]
  congr 2
  apply Array.ext'
  simp [List.append_assoc]
theorem zeroCells_size (z : Array Value) (n : Nat) : (Builtin.zeroCells z n).size = n * z.size := by simp [Builtin.zeroCells]
theorem Kept.drew (w : World) : Kept w [] w.drew := ⟨rfl, rfl, rfl, Nat.le_refl _, fun _ _ _ => rfl⟩
theorem Kept.trans0 {w w1 w2 : World} (h : Kept w [] w1) (k : Kept w1 [] w2) : Kept w [] w2 := h.trans k (by simp)
theorem St.grown {P : Program} {w0 w : World} {S : List Nat} {e : TypeId} {z : Value} {k bytes : Nat} (s : St w0 S A w) (he : ElemT P e z k bytes) {n m cap : Nat} {olds news : List Value}
    (hol : olds.length = n * k) (hnl : news.length = m * k) (h63 : n + m ≤ maxLen) :
    St w0 S (.row (some ⟨w.heap.size, 0, none⟩) (grownCap w (n + m) cap e) e k (olds ++ news) :: A)
      (w.drew.alloc (.cells (olds.toArray ++ news.toArray ++ Builtin.zeroCells z.cells (grownCap w (n + m) cap e - (n + m))) e)) ∧ n + m ≤ grownCap w (n + m) cap e := by
  have hge := grownCap_ge w (n + m) cap e
  refine ⟨s.new ((Kept.drew w).trans0 (Kept.alloc w.drew _)) (.inr ⟨w.heap.size, _, rfl, heap_alloc_new w.drew _, ?_, grownCap_le_maxLen w _ _ _ h63, ?_, ?_⟩) (fun b hb => ?_), hge⟩
  · simp only [Array.size_append, List.size_toArray, zeroCells_size, he.cells, hol, hnl, ← Nat.add_mul]
    congr 1; omega
  · simp only [List.length_append, Array.size_append, List.size_toArray]; omega
  · simp only [Array.toList_append]
    exact List.take_left
  · simp only [HA.foot] at hb
    split at hb
    · cases hb
    · simp only [Option.map_some, Option.some.injEq] at hb; omega
theorem WL.appendGrow {x y : Operand} {t e : TypeId} {z : Value} {k bytes : Nat} {a a2 : Option Addr} {n cap m c : Nat} {olds news : List Value} (hu : X.P.underlying t = some (.slice e)) (he : ElemT X.P e z k bytes)
    (hx : ev ρ x = some (.slice a n cap)) (hy : ev ρ y = some (.slice a2 m c)) (ho : Rd X A a olds) (hol : olds.length = n * k) (hn : Rd X A a2 news) (hnl : news.length = m * k) (hg : cap < n + m)
    (hb : (n + m) * bytes ≤ 140737488355328) (h63 : n + m ≤ maxLen) (hd : Nat.blt d X.n = true)
    (h : ∀ p : Option Addr × Nat, n + m ≤ p.2 → WL X ops Q rest ((d, .slice p.1 (n + m) p.2) :: ρ) (.row p.1 p.2 e k (olds ++ news) :: A)) :
    WL X ops Q (⟨some d, .call { callee := .builtin .append, args := #[x, y], argTypes := #[t, t] }, ty, ps, af, none⟩ :: rest) ρ A :=
  WL.stepE (ι := { p : Option Addr × Nat // n + m ≤ p.2 }) (fun p => .slice p.1.1 (n + m) p.1.2) (fun p => .row p.1.1 p.1.2 e k (olds ++ news) :: A) (fun o hop _ ac w f s => by
    have hr := run_append_new (P := X.P) (ty := o.type) (c := c) hu he (ho w s) hol (hn w s) hnl hg hb h63
    obtain ⟨h1, h2⟩ := s.grown (cap := cap) he hol hnl h63
    refine ⟨⟨(some ⟨w.heap.size, 0, none⟩, grownCap w (n + m) cap e), h2⟩, _, ?_, h1⟩
    simp only [execOp, hop, resolve, invoke, builtin, Sem.run_bind, Sem.run_pure, Result.andThen_ok, List.map_toArray, List.map_cons, List.map_nil, f.ev hx, f.ev hy, hr]) hd (fun p => h p.1 p.2)
theorem WL.appendRow {x y : Operand} {t e : TypeId} {z : Value} {k bytes : Nat} {a a2 : Option Addr} {n cap m c : Nat} {olds news : List Value} (hu : X.P.underlying t = some (.slice e)) (he : ElemT X.P e z k bytes)
    (hx : ev ρ x = some (.slice a n cap)) (hy : ev ρ y = some (.slice a2 m c)) (hp : Pick (.row a cap e k olds) A B) (hol : olds.length = n * k) (hnc : n ≤ cap) (hn : Rd X A a2 news) (hnl : news.length = m * k) (h1 : ∀ u ∈ news, u.oneCell' = true)
    (hb : (n + m) * bytes ≤ 140737488355328) (h63 : n + m ≤ maxLen) (hd : Nat.blt d X.n = true)
    (h : ∀ p : Option Addr × Nat, n + m ≤ p.2 → WL X ops Q rest ((d, .slice p.1 (n + m) p.2) :: ρ) (.row p.1 p.2 e k (olds ++ news) :: B)) :
    WL X ops Q (⟨some d, .call { callee := .builtin .append, args := #[x, y], argTypes := #[t, t] }, ty, ps, af, none⟩ :: rest) ρ A :=
  WL.stepE (ι := { p : Option Addr × Nat // n + m ≤ p.2 }) (fun p => .slice p.1.1 (n + m) p.1.2) (fun p => .row p.1.1 p.1.2 e k (olds ++ news) :: B) (fun o hop _ ac w f s => by
    have s1 := s.pick hp
    have hk := he.pos
    have fin : ∀ {v : Value} {w' : World}, (Builtin.append_ #[t, t] o.type #[.slice a n cap, .slice a2 m c]).run X.P w = .ok v w' → (execOp ac.eval o).run X.P w = .ok (.value v) w' := fun hr => by
      simp only [execOp, hop, resolve, invoke, builtin, Sem.run_bind, Sem.run_pure, Result.andThen_ok, List.map_toArray, List.map_cons, List.map_nil, f.ev hx, f.ev hy, hr]
    by_cases hm : m = 0
    · subst hm
      obtain rfl : news = [] := List.eq_nil_of_length_eq_zero (by simpa using hnl)
      refine ⟨⟨(a, cap), by omega⟩, w, fin (run_append_none hu he hnc), ?_⟩
      simpa using s1
    · by_cases hroom : n + m ≤ cap
      · rcases s1.holds _ (.head _) with ⟨h0, _⟩ | ⟨b, cs, rfl, hbk, hsz, hcm, hvl, htk⟩
        · omega
        · have hc0 : cap ≠ 0 := by omega
          have hne : news ≠ [] := by
            intro e0; subst e0
            have hpos : 0 < m * k := Nat.mul_pos (by omega) hk
            simp at hnl; omega
          obtain ⟨ad, rfl⟩ := hn.some_ hne s
          obtain ⟨i, hi, _, hik, _⟩ := he.info
          have hcell : ∀ j u, news[j]? = some u → w.cell? (ad.add j) = some u := fun j u hu => by
            obtain ⟨ad', e1, e2⟩ := hn.at_ hu s
            simp only [el, Option.map_some, Option.some.injEq] at e1
            rw [e1]; exact e2
          have hfit : n * i.size + news.length ≤ cs.size := by rw [hik, hnl, hsz, ← Nat.add_mul]; exact Nat.mul_le_mul_right _ hroom
          have hr := run_append_room (P := X.P) w t o.type e i hu hi b n cap cs hbk ad m c news (by rw [hik]; exact hnl) hcell h1 hroom hfit
          refine ⟨⟨(some ⟨b, 0, none⟩, cap), hroom⟩, _, fin hr, s1.put (x := .row _ _ _ _ _) (y := .row (some ⟨b, 0, none⟩) cap e k (olds ++ news)) (by simp [HA.foot, hc0]) (by simp [HA.foot, hc0]) (Kept.setRow w b _)
            (.inr ⟨b, _, rfl, setRow_heap w b cs _ e _ hbk, ?_, hcm, ?_, ?_⟩)⟩
          · simp only [List.size_toArray, List.length_append, List.length_take, List.length_drop, Array.length_toList]; omega
          · simp only [List.size_toArray, List.length_append, List.length_take, List.length_drop, Array.length_toList]; rw [hik] at *; omega
          · rw [hik, ← hol, htk]
            exact List.take_left
      · have ho : Rd X A a olds := fun w s => (Rd.row (X := X) (A := .row a cap e k olds :: B) (.head _)) w (s.pick hp)
        have hg : cap < n + m := by omega
        have hr := run_append_new (P := X.P) (ty := o.type) (c := c) hu he (ho w s) hol (hn w s) hnl hg hb h63
        obtain ⟨g1, g2⟩ := s1.tail.grown (n := n) (m := m) (cap := cap) he hol hnl h63
        exact ⟨⟨(some ⟨w.heap.size, 0, none⟩, grownCap w (n + m) cap e), g2⟩, _, fin hr, g1⟩) hd (fun p => h p.1 p.2)
end
end Go.Proofs.YtbkdjfgkebkknaaGreatDoor
namespace Go.Proofs.YtbkdjfgkebkknaaGreatDoor
set_option linter.unusedVariables false
set_option linter.unusedSimpArgs false
open Go Go.RowKit
section
variable {X : Cx} {ops : Array Oper} {Q : Exit → Act → World → Prop} {ρ : Env} {A B : List HA} {rest : List Oper} {d : Tmp} {op : Op} {ty : TypeId} {ps : String} {af : Array Edge} {v : Value}

def Gives (R : Value → List HA → Prop) (w : World) (e : Ending) (w' : World) : Prop := ∃ v B, e = .returned v ∧ R v B ∧ St w [] B w'
def Val (v : Value) : Value → List HA → Prop := fun u B => u = v ∧ B = []
def NewRow (mk : Value → Value) (T : TypeId) (k n : Nat) (vs : List Value) : Value → List HA → Prop :=
  fun u B => ∃ a cap, n ≤ cap ∧ u = mk (.slice a n cap) ∧ B = [.row a cap T k vs]

def evs (ρ : Env) : List Operand → Option (List Value)
  | [] => some []
  | x :: r => match ev ρ x, evs ρ r with
    | some v, some l => some (v :: l)
    | _, _ => none
theorem evs_map {n : Nat} {a : Act} (f : Fr n ρ a) : ∀ {xs : List Operand} {vs : List Value}, evs ρ xs = some vs → xs.map a.eval = vs
  | [], vs, h => by simp only [evs, Option.some.injEq] at h; subst h; rfl
  | x :: r, vs, h => by
    simp only [evs] at h
    split at h
    · rename_i v l h1 h2
      obtain rfl := Option.some.inj h
      rw [List.map_cons, f.ev h1, evs_map f h2]
    · cases h
theorem WL.call {R : Value → List HA → Prop} {g : FuncId} {xs : List Operand} {ts : Array TypeId} {vs : List Value} (he : ∀ args w, (callFunc g args).run X.P w = .ok (.enter g args) w) (hx : evs ρ xs = some vs)
    (hc : ∀ w, St X.w0 X.S A w → Calls X.P g vs.toArray w (Gives R w)) (hd : Nat.blt d X.n = true) (h : ∀ v B, R v B → WL X ops Q rest ((d, v) :: ρ) (B ++ A)) :
    WL X ops Q (⟨some d, .call { callee := .value (.func g), args := xs.toArray, argTypes := ts }, ty, ps, af, none⟩ :: rest) ρ A :=
  fun a w f s => wpList_plain rfl fun K hK => by
    unfold Oper.wp
    have e := evs_map f hx
    have hr : (execOp a.eval ⟨some d, .call { callee := .value (.func g), args := xs.toArray, argTypes := ts }, ty, ps, af, none⟩).run X.P w = .ok (.enter g vs.toArray) w := by
      simp [execOp, resolve, Deferred.ofValue, Act.eval, invoke, e, he]
    rw [hr]
    exact (hc w s).mono fun e w' hq => by
      obtain ⟨v, B, rfl, hR, hs⟩ := hq
      exact hK _ _ (h v B hR _ _ (f.put (blt_lt hd) v) (s.join0 hs))
theorem WL.callV {g : FuncId} {xs : List Operand} {ts : Array TypeId} {vs : List Value} (he : ∀ args w, (callFunc g args).run X.P w = .ok (.enter g args) w) (hx : evs ρ xs = some vs)
    (hc : ∀ w, St X.w0 X.S A w → Calls X.P g vs.toArray w (Gives (Val v) w)) (hd : Nat.blt d X.n = true) (h : WL X ops Q rest ((d, v) :: ρ) A) :
    WL X ops Q (⟨some d, .call { callee := .value (.func g), args := xs.toArray, argTypes := ts }, ty, ps, af, none⟩ :: rest) ρ A :=
  WL.call he hx hc hd (fun u B hu => by obtain ⟨rfl, rfl⟩ := hu; exact h)
theorem WL.callR {mk : Value → Value} {T : TypeId} {k n : Nat} {us : List Value} {g : FuncId} {xs : List Operand} {ts : Array TypeId} {vs : List Value} (he : ∀ args w, (callFunc g args).run X.P w = .ok (.enter g args) w) (hx : evs ρ xs = some vs)
    (hc : ∀ w, St X.w0 X.S A w → Calls X.P g vs.toArray w (Gives (NewRow mk T k n us) w)) (hd : Nat.blt d X.n = true)
    (h : ∀ p : Option Addr × Nat, n ≤ p.2 → WL X ops Q rest ((d, mk (.slice p.1 n p.2)) :: ρ) (.row p.1 p.2 T k us :: A)) :
    WL X ops Q (⟨some d, .call { callee := .value (.func g), args := xs.toArray, argTypes := ts }, ty, ps, af, none⟩ :: rest) ρ A :=
  WL.call he hx hc hd (fun u B hu => by obtain ⟨a, cap, hn, rfl, rfl⟩ := hu; exact h (a, cap) hn)

def argEnv : Nat → List Value → Env
  | _, [] => []
  | i, v :: r => (i, v) :: argEnv (i + 1) r
theorem lk_argEnv (l : List Value) : ∀ (i t : Nat) (v : Value), lk (argEnv i l) t = some v → ∃ j, t = i + j ∧ l[j]? = some v := by
  induction l with
  | nil => intro i t v h; cases h
  | cons u r ih =>
    intro i t v h
    simp only [argEnv, lk] at h
    by_cases e : i = t
    · subst e
      rw [show Nat.beq i i = true from Nat.beq_refl i] at h
      exact ⟨0, rfl, h⟩
    · rw [beq_ne e] at h
      obtain ⟨j, hj, hl⟩ := ih (i + 1) t v h
      exact ⟨j + 1, by omega, hl⟩
theorem enter {P : Program} {g : FuncId} {fn : Func} {c : Code} {args : List Value} {w : World} {R : Ending → World → Prop} {n : Nat} (hf : P.funcs[g]? = some fn) (hn : fn.ntmps = n) (hb : fn.body = some c) (hl : Nat.ble args.length n = true)
    (h : WC ⟨P, n, w, []⟩ c (bodyPost P fn R) (argEnv 0 args) []) : Calls P g args.toArray w R := by
  have hle : args.length ≤ n := Nat.le_of_ble_eq_true hl
  refine calls_of_wp hf hb (h _ _ ⟨?_, rfl, fun t v ht => ?_⟩ (St.start w))
  · simp [hn]; omega
  · obtain ⟨j, hj, hv⟩ := lk_argEnv args 0 t v ht
    have hj' : t = j := by omega
    subst hj'
    have hlt : t < args.length := (List.getElem?_eq_some_iff.1 hv).1
    have h2 : args[t] = v := (List.getElem?_eq_some_iff.1 hv).2
    simp [Array.getD_eq_getD_getElem?, Array.getElem?_append, hlt, h2]
section
variable {fn : Func} {R : Value → List HA → Prop}
theorem WN.ret1 {P : Program} {n : Nat} {w0 : World} {t : Tmp} (hr : fn.results = #[.tmp t]) (hv : lk ρ t = some v) (hR : R v B) (hp : Part A B) : WN ⟨P, n, w0, []⟩ (bodyPost P fn (Gives R w0)) .ret ρ A :=
  fun a w f s => bodyPost_ret (results_tmp hr _ _ _) f.defers (by rw [f.get t v hv]; exact ⟨v, B, rfl, hR, s.part hp⟩)
theorem WN.ret2 {P : Program} {n : Nat} {w0 : World} {t t2 : Tmp} {v2 : Value} (hr : fn.results = #[.tmp t, .tmp t2]) (hv : lk ρ t = some v) (hv2 : lk ρ t2 = some v2) (hR : R (.tuple #[v, v2]) B) (hp : Part A B) :
    WN ⟨P, n, w0, []⟩ (bodyPost P fn (Gives R w0)) .ret ρ A :=
  fun a w f s => bodyPost_ret (results_tmp2 hr _ _ _) f.defers (by rw [f.get t v hv, f.get t2 v2 hv2]; exact ⟨_, B, rfl, hR, s.part hp⟩)
theorem WN.retCell {P : Program} {n : Nat} {w0 : World} {t : Tmp} {T T' : TypeId} {b k : Nat} {us : List Value} {fr : Nat × Nat} (hr : fn.results = #[.cell t T]) (hg : ∀ w, (isAgg T).run P w = .ok true w) (hk : ∀ w, (sizeOf T).run P w = .ok k w)
    (hv : lk ρ t = some (.pointer (some ⟨b, 0, none⟩))) (hm : HA.blk b (.cells us.toArray T' fr) ∈ A) (hl : us.length = k) (hR : R (.agg us.toArray) B) (hp : Part A B) : WN ⟨P, n, w0, []⟩ (bodyPost P fn (Gives R w0)) .ret ρ A :=
  fun a w f s => by
    have hc : ∀ i u, us[i]? = some u → w.cell? ((⟨b, 0, none⟩ : Addr).add i) = some u := fun i u hu => by
      have e : (⟨b, 0, none⟩ : Addr).add i = ⟨b, i, none⟩ := by unfold Addr.add; split <;> simp_all
      rw [e]; exact s.cell hm (by simpa using hu)
    have hl' := run_loadCells_list (P := P) w ⟨b, 0, none⟩ us hc
    rw [hl] at hl'
    have h1 := f.get t _ hv
    refine bodyPost_ret (v := .agg us.toArray) ?_ f.defers ⟨_, B, rfl, hR, s.part hp⟩
    rw [Array.getD_eq_getD_getElem?] at h1
    simp [results, hr, h1, asAddr, loadVar, hg, hk, hl']
end

def litCells (ρ : Env) : List (Nat × Operand) → Nat → Option (List Value)
  | [], _ => some []
  | (i, x) :: r, j => bif Nat.beq i j then (match ev ρ x, litCells ρ r (j + 1) with
    | some v, some l => some (v :: l)
    | _, _ => none) else none
theorem litCells_length : ∀ {parts : List (Nat × Operand)} {j : Nat} {vs : List Value}, litCells ρ parts j = some vs → vs.length = parts.length
  | [], _, vs, h => by simp only [litCells, Option.some.injEq] at h; subst h; rfl
  | (i, x) :: r, j, vs, h => by
    simp only [litCells] at h
    cases hb : Nat.beq i j with
    | false => rw [hb] at h; cases h
    | true =>
      rw [hb] at h
      simp only [cond_true] at h
      split at h
      · rename_i v l _ h2
        obtain rfl := Option.some.inj h
        simp [litCells_length h2]
      · cases h
theorem litCells_map {n : Nat} {a : Act} (f : Fr n ρ a) : ∀ {parts : List (Nat × Operand)} {j : Nat} {vs : List Value}, litCells ρ parts j = some vs →
    parts.map (fun p => (p.1, a.eval p.2)) = (vs.zipIdx j).map fun p => (p.2, p.1)
  | [], _, vs, h => by simp only [litCells, Option.some.injEq] at h; subst h; rfl
  | (i, x) :: r, j, vs, h => by
    simp only [litCells] at h
    cases hb : Nat.beq i j with
    | false => rw [hb] at h; cases h
    | true =>
      rw [hb] at h
      obtain rfl := Nat.eq_of_beq_eq_true hb
      simp only [cond_true] at h
      split at h
      · rename_i v l h1 h2
        obtain rfl := Option.some.inj h
        simp only [List.map_cons, List.zipIdx_cons]
        rw [litCells_map f h2, f.ev h1]
      · cases h
theorem fold_set (l : List Value) : ∀ (i : Nat) (pre mid post : List Value), mid.length = l.length →
    (l.zipIdx i).foldl (fun (cs : Array Value) (x : Value × Nat) => cs.setIfInBounds (pre.length - i + x.2) x.1) (pre ++ mid ++ post).toArray = (pre ++ l ++ post).toArray ∨ pre.length < i := by
  induction l with
  | nil => intro i pre mid post h; obtain rfl : mid = [] := List.eq_nil_of_length_eq_zero (by simpa using h); exact .inl rfl
  | cons v l ih =>
    intro i pre mid post h
    by_cases hi : pre.length < i
    · exact .inr hi
    · match mid, h with
      | m :: mid, h =>
        left
        rw [List.zipIdx_cons, List.foldl_cons]
        have e : (pre ++ m :: mid ++ post).toArray.setIfInBounds (pre.length - i + i) v = ((pre ++ [v]) ++ mid ++ post).toArray := by
          rw [show pre.length - i + i = pre.length by omega]
          simp
        simp only [e]
        rcases ih (i + 1) (pre ++ [v]) mid post (by simpa using h) with h2 | h2
        · rw [show (pre ++ [v]).length - (i + 1) = pre.length - i by simp] at h2
          rw [h2]; simp
        · simp at h2; omega
def flat (vs : List Value) : List Value := vs.flatMap fun v => v.cells.toList
theorem fill_lit {k : Nat} : ∀ (vs : List Value) (j : Nat) (pre post : List Value), pre.length = j * k → (∀ u ∈ vs, u.cells.size = k) → post.length = vs.length * k →
    Instr.fill (fun i => some (i * k, k)) (pre ++ post).toArray ((vs.zipIdx j).map fun p => (p.2, p.1)) = some (pre ++ flat vs).toArray
  | [], j, pre, post, _, _, h => by
    obtain rfl : post = [] := List.eq_nil_of_length_eq_zero (by simpa using h)
    simp [Instr.fill, flat]
  | v :: vs, j, pre, post, hj, h1, h => by
    have hv := h1 v (.head _)
    have hsp : post = post.take k ++ post.drop k := (List.take_append_drop k post).symm
    have hlen : post.length = k + vs.length * k := by rw [h, List.length_cons, Nat.add_mul, Nat.one_mul, Nat.add_comm]
    simp only [List.zipIdx_cons, List.map_cons, Instr.fill]
    rw [if_neg (by simp [hv, hj]; omega)]
    have e := fold_set v.cells.toList 0 pre (post.take k) (post.drop k) (by simp [hv]; omega)
    rcases e with e | e
    · rw [Nat.sub_zero, List.append_assoc, ← hsp, hj] at e
      have ih := fill_lit (k := k) vs (j + 1) (pre ++ v.cells.toList) (post.drop k) (by simp [hj, hv, Nat.add_mul]) (fun u hu => h1 u (.tail _ hu)) (by simp; omega)
      rw [← e] at ih
      have e2 : (v.cells.zipIdx.foldl (fun cs x => cs.setIfInBounds (j * k + x.2) x.1) (pre ++ post).toArray) = (v.cells.toList.zipIdx 0).foldl (fun cs x => cs.setIfInBounds (j * k + x.2) x.1) (pre ++ post).toArray := by
        rw [← Array.foldl_toList, Array.toList_zipIdx]
      rw [← e2] at ih
      simp only [flat, List.flatMap_cons, ← List.append_assoc] at ih ⊢
      exact ih
    · omega
theorem flat_length {k : Nat} : ∀ {vs : List Value}, (∀ u ∈ vs, u.cells.size = k) → (flat vs).length = vs.length * k
  | [], _ => by simp [flat]
  | v :: vs, h => by
    have := flat_length (vs := vs) fun u hu => h u (.tail _ hu)
    simp only [flat, List.flatMap_cons, List.length_append, Array.length_toList, h v (.head _), List.length_cons] at this ⊢
    rw [this, Nat.add_mul]; omega
theorem flat_one {vs : List Value} (h : ∀ u ∈ vs, u.oneCell' = true) : flat vs = vs := by
  induction vs with
  | nil => rfl
  | cons v vs ih =>
    have e := one_cells (h v (.head _))
    have ih' := ih fun u hu => h u (.tail _ hu)
    simp only [flat, List.flatMap_cons] at ih' ⊢
    rw [ih', e]; rfl
theorem WL.lit {t e : TypeId} {z : Value} {bytes len k : Nat} {parts : List (Nat × Operand)} {vs : List Value} (hu : X.P.underlying t = some (.slice e)) (he : ElemT X.P e z k bytes) (hl : Nat.beq len parts.length = true) (hs : Nat.ble (len * k) 16777216 = true)
    (hv : litCells ρ parts 0 = some vs) (h1 : ∀ u ∈ vs, u.cells.size = k) (hd : Nat.blt d X.n = true)
    (h : ∀ b : Nat, WL X ops Q rest ((d, .slice (some ⟨b, 0, none⟩) len len) :: ρ) (.row (some ⟨b, 0, none⟩) len e k (flat vs) :: A)) :
    WL X ops Q (⟨some d, .buildSlice t len parts.toArray, ty, ps, af, none⟩ :: rest) ρ A :=
  WL.stepE (fun b : Nat => .slice (some ⟨b, 0, none⟩) len len) (fun b => .row (some ⟨b, 0, none⟩) len e k (flat vs) :: A) (fun o ho _ a w f s => by
    have hlen : vs.length = len := by rw [litCells_length hv]; exact (Nat.eq_of_beq_eq_true hl).symm
    have hm := litCells_map f hv
    have hf := fill_lit (k := k) vs 0 [] ((Array.range (len * k)).map fun i => z.cells[i % z.cells.size]!).toList (by simp) h1 (by simp [hlen])
    have hfl := flat_length h1
    obtain ⟨i, hi, hz, hk, _⟩ := he.info
    have hsz : ¬ 16777216 < len * k := by have := Nat.le_of_ble_eq_true hs; omega
    refine ⟨w.heap.size, { w with heap := w.heap.push (.cells (flat vs).toArray e) }, ?_, s.new (Kept.alloc w _) (.inr ⟨w.heap.size, (flat vs).toArray, rfl, by simp, by simp [hfl, hlen], ?_, by simp, by simp⟩) (fun b hb => ?_)⟩
    · simp only [List.nil_append] at hf
      have hmap : (parts.toArray.map fun x => (x.1, a.eval x.2)).toList = (vs.zipIdx 0).map fun p => (p.2, p.1) := by simpa using hm
      by_cases h0 : len * k = 0
      · have e0 : len = 0 := by rcases Nat.mul_eq_zero.1 h0 with h | h; exact h; have := he.pos; omega
        obtain rfl : vs = [] := List.eq_nil_of_length_eq_zero (by omega)
        obtain rfl : parts = [] := List.eq_nil_of_length_eq_zero (by rw [← litCells_length hv]; rfl)
        subst e0
        have e0 : (Array.map (fun _ => (default : Value)) (Array.range 0)) = #[] := by simp
        simp [execOp, ho, Instr.buildSlice, run_underlying hu, Go.sizeOf, typeInfo, hi, Instr.fill, flat, newRow, e0]
      · have hf2 : Instr.fill (fun i => some (i * k, k)) ((Array.range (len * k)).map fun i => z.cells[i % z.cells.size]!) (parts.toArray.map fun x => (x.1, a.eval x.2)).toList = some (flat vs).toArray := by
          rw [hmap, ← hf, Array.toArray_toList]
        simp only [List.map_toArray] at hf2
        simp [execOp, ho, Instr.buildSlice, run_underlying hu, Go.sizeOf, typeInfo, zeroValue, newRow, hi, hz, hk, hf2]
        rw [if_neg hsz, if_neg h0]
    · show len ≤ maxLen
      have := Nat.le_of_ble_eq_true hs
      have := Nat.le_mul_of_pos_right len he.pos
      simp only [maxLen]; omega
    · simp only [HA.foot] at hb
      split at hb
      · cases hb
      · simp only [Option.map_some, Option.some.injEq] at hb; omega) hd h
end


def WQ (X : Cx) (ops : Array Oper) (Q : Exit → Act → World → Prop) (l : List Oper) (ρ : Env) (A : List HA) : Prop :=
  ∀ a, Fr X.n ρ a → wpQuiet X.P ops (St X.w0 X.S A) (fun a' => ∀ w', St X.w0 X.S A w' → Q .normal a' w') l a
section
variable {X : Cx} {ops : Array Oper} {Q : Exit → Act → World → Prop} {ρ : Env} {A B : List HA} {rest : List Oper} {d : Tmp} {op : Op} {ty : TypeId} {ps : String} {af : Array Edge} {v : Value}
theorem WC.regionQ {id : Nat} {l : List Oper} (hm : X.P.follows .mixedOrders = true) (hB : Region.lexB .any l.toArray = true) (h : WQ X l.toArray Q l ρ A) : WC X (.region id l.toArray true) Q ρ A :=
  fun a _ f s => wp_region_quiet (C := St X.w0 X.S A) hm hB s.drew (by simpa using h a f)
theorem WQ.nil (h : WN X Q .normal ρ A) : WQ X ops Q [] ρ A := fun a f => wpQuiet_nil (fun w' s => h a w' f s)
theorem WQ.step (hy : Yl X op ty ρ A v) (hd : Nat.blt d X.n = true) (h : WQ X ops Q rest ((d, v) :: ρ) A) : WQ X ops Q (⟨some d, op, ty, ps, af, none⟩ :: rest) ρ A := fun a f => by
  simp only [wpQuiet]
  rw [if_pos (by simp [Region.wanted])]
  refine ⟨v, fun w s => ?_, h _ (f.put (blt_lt hd) v)⟩
  unfold Oper.quietAt
  rw [hy _ rfl rfl a w f s]
  exact ⟨rfl, rfl⟩
theorem WQ.callV {g : FuncId} {xs : List Operand} {ts : Array TypeId} {vs : List Value} (he : ∀ args w, (callFunc g args).run X.P w = .ok (.enter g args) w) (hx : evs ρ xs = some vs)
    (hc : ∀ w, St X.w0 X.S A w → Calls X.P g vs.toArray w (Gives (Val v) w)) (hd : Nat.blt d X.n = true) (h : WQ X ops Q rest ((d, v) :: ρ) A) :
    WQ X ops Q (⟨some d, .call { callee := .value (.func g), args := xs.toArray, argTypes := ts }, ty, ps, af, none⟩ :: rest) ρ A := fun a f => by
  simp only [wpQuiet]
  rw [if_pos (by simp [Region.wanted])]
  refine ⟨v, fun w s => ?_, h _ (f.put (blt_lt hd) v)⟩
  unfold Oper.quietAt
  have e := evs_map f hx
  have hr : (execOp a.eval ⟨some d, .call { callee := .value (.func g), args := xs.toArray, argTypes := ts }, ty, ps, af, none⟩).run X.P w = .ok (.enter g vs.toArray) w := by
    simp [execOp, resolve, Deferred.ofValue, Act.eval, invoke, e, he]
  rw [hr]
  refine ⟨rfl, (hc w s).mono fun e w' hq => ?_⟩
  obtain ⟨u, B, rfl, ⟨rfl, rfl⟩, hs⟩ := hq
  exact ⟨rfl, s.join0 hs⟩
theorem WQ.guard {j t : Nat} {b want : Bool} (hj : (ops[j]?).bind (·.dst) = some t) (hv : lk ρ t = some (.bool b)) (hd : Nat.blt d X.n = true)
    (h1 : b = want → WQ X ops Q (⟨some d, op, ty, ps, af, none⟩ :: rest) ρ A)
    (h2 : b = !want → WQ X ops Q rest ((d, undef) :: ρ) A) : WQ X ops Q (⟨some d, op, ty, ps, af, some (j, want)⟩ :: rest) ρ A := fun a f => by
  have hw := wanted_eq (o := ⟨some d, op, ty, ps, af, some (j, want)⟩) rfl hj f hv
  by_cases hb : b = want
  · have := h1 hb a f
    simp only [wpQuiet] at this ⊢
    rw [if_pos (by simp [Region.wanted])] at this
    rw [hw, if_pos (by simp [hb])]
    exact this
  · have hb' : b = !want := by cases b <;> cases want <;> simp_all
    simp only [wpQuiet]
    rw [hw, if_neg (by simp [hb])]
    exact h2 hb' _ (f.put (blt_lt hd) undef)
theorem WQ.want {j t : Nat} {b want : Bool} (hj : (ops[j]?).bind (·.dst) = some t) (hv : lk ρ t = some (.bool b)) (hb : b = want) (hd : Nat.blt d X.n = true)
    (h : WQ X ops Q (⟨some d, op, ty, ps, af, none⟩ :: rest) ρ A) : WQ X ops Q (⟨some d, op, ty, ps, af, some (j, want)⟩ :: rest) ρ A :=
  WQ.guard hj hv hd (fun _ => h) (fun h2 => by rw [hb] at h2; cases want <;> cases h2)
theorem WQ.pass {j t : Nat} {b want : Bool} (hj : (ops[j]?).bind (·.dst) = some t) (hv : lk ρ t = some (.bool b)) (hb : b = !want) (hd : Nat.blt d X.n = true)
    (h : WQ X ops Q rest ((d, undef) :: ρ) A) : WQ X ops Q (⟨some d, op, ty, ps, af, some (j, want)⟩ :: rest) ρ A :=
  WQ.guard hj hv hd (fun h2 => by rw [hb] at h2; cases want <;> cases h2) (fun _ => h)
theorem run_equalIn_nil {P : Program} {t e : TypeId} (hu : P.underlying t = some (.slice e)) (dp : Nat) (a : Option Addr) (n cap : Nat) (w : World) :
    (Op.equalIn (dp + 1) t (.slice a n cap) (.slice none 0 0)).run P w = .ok a.isNone w := by
  cases a <;> simp [Op.equalIn, run_underlying hu]
theorem Yl.eqNil {x : Operand} {t u e : TypeId} {a : Option Addr} {n cap : Nat} (hu : X.P.underlying t = some (.slice e)) (hx : ev ρ x = some (.slice a n cap)) :
    Yl X (.binOp .eql t x (.const (.slice none 0 0)) u) ty ρ A (.bool a.isNone) := fun o ho _ ac w f _ => by
  have hb : (binOp .eql t (.slice a n cap) (.slice none 0 0)).run X.P w = .ok (.bool a.isNone) w := by
    simp only [binOp]
    simp [Op.equal, Op.maxDepth, run_equalIn_nil hu 9999]
  have hg : ∀ x y, (eqGuard .eql t x y (.slice a n cap) (.slice none 0 0)).run X.P w = .ok () w := fun _ _ => rfl
  have hc : ac.eval (.const (.slice none 0 0)) = .slice none 0 0 := rfl
  simp only [execOp, ho, f.ev hx, hc, Sem.run_bind, hg, Result.andThen_ok, hb, Sem.run_pure]
end

def bv (c : UInt8) : Value := .int .u8 (c.toNat : Int)
def bs (l : List UInt8) : List Value := l.map bv
def str (l : List UInt8) : Value := .string ⟨l.toArray⟩
theorem bs_length (l : List UInt8) : (bs l).length = l.length := List.length_map _
theorem bs_get {l : List UInt8} {i : Nat} (h : i < l.length) : (bs l)[i]? = some (bv (l.getD i 0)) := by
  simp [bs, List.getD, h]
theorem bs_ne {l : List UInt8} {i : Nat} (h : i < l.length) : bs l ≠ [] := ne_nil_of (bs_get h)
theorem bs_one (l : List UInt8) : ∀ u ∈ bs l, u.oneCell' = true := by
  intro u hu; obtain ⟨c, _, rfl⟩ := List.mem_map.1 hu; rfl
theorem bs_append (a b : List UInt8) : bs (a ++ b) = bs a ++ bs b := List.map_append
theorem bs_take (l : List UInt8) (k : Nat) : bs (l.take k) = (bs l).take k := List.map_take
theorem bs_drop (l : List UInt8) (k : Nat) : bs (l.drop k) = (bs l).drop k := List.map_drop
theorem byte_lt (c : UInt8) : c.toNat < 256 := c.toNat_lt
theorem take_snoc {α : Type} (l : List α) (d : α) {k : Nat} (h : k < l.length) : l.take (k + 1) = l.take k ++ [l.getD k d] := by
  rw [List.take_succ_eq_append_getElem h]; simp [List.getD, h]
theorem nil_of_none {w : World} {l : List UInt8} (h : CellsAt w none (bs l)) : l = [] := by
  rcases h with h | ⟨b, off, h, _⟩
  · simpa [bs] using h
  · cases h
theorem foldl_push (l : List UInt8) : ∀ (p : List UInt8), (l.map fun c => ((c.toNat : Nat) : Int)).foldl (fun r n => r.push (UInt8.ofNat n.toNat)) (⟨p.toArray⟩ : ByteArray) = ⟨(p ++ l).toArray⟩ := by
  induction l with
  | nil => intro p; simp
  | cons c l ih =>
    intro p
    rw [List.map_cons, List.foldl_cons]
    have e : (⟨p.toArray⟩ : ByteArray).push (UInt8.ofNat ((c.toNat : Nat) : Int).toNat) = ⟨(p ++ [c]).toArray⟩ := by
      simp [ByteArray.push]
    rw [e, ih]; simp
section
variable {X : Cx} {ops : Array Oper} {Q : Exit → Act → World → Prop} {ρ : Env} {A B : List HA} {rest : List Oper} {d : Tmp} {op : Op} {ty : TypeId} {ps : String} {af : Array Edge} {v : Value}
theorem Yl.toStr {x : Operand} {t u e : TypeId} {a : Option Addr} {n cap : Nat} {l : List UInt8} (hu : X.P.underlying t = some (.slice e)) (he : X.P.underlying e = some (.int .u8)) (hd : X.P.underlying u = some .string)
    (hx : ev ρ x = some (.slice a n cap)) (hr : Rd X A a (bs l)) (hl : l.length = n) : Yl X (.convert t u x) ty ρ A (str l) := fun o ho _ ac w f s => by
  have hc : (convert t u (.slice a n cap)).run X.P w = .ok (str l) w := by
    rw [run_convert_bytes_string w t u e a n cap hu he hd]
    rcases hr w s with h | ⟨b, off, rfl, h⟩
    · obtain rfl : l = [] := by simpa [bs] using h
      obtain rfl : n = 0 := hl.symm
      cases a with
      | none => rfl
      | some ad =>
        have := run_bytesToString (P := X.P) w ad 0 cap [] (by simpa using run_loadCells_list (P := X.P) w ad [] (by simp))
        rw [this]; rfl
    · have hcell : ∀ i u, (bs l)[i]? = some u → w.cell? ((⟨b, off, none⟩ : Addr).add i) = some u := fun i u hi => by
        have e : (⟨b, off, none⟩ : Addr).add i = ⟨b, off + i, none⟩ := by unfold Addr.add; split <;> simp_all
        rw [e]; exact h i u hi
      have hload := run_loadCells_list (P := X.P) w ⟨b, off, none⟩ (bs l) hcell
      rw [bs_length, hl] at hload
      have := run_bytesToString (P := X.P) w ⟨b, off, none⟩ n cap (l.map fun c => ((c.toNat : Nat) : Int)) (by rw [hload, List.map_map]; rfl)
      rw [this, show (ByteArray.empty) = (⟨([] : List UInt8).toArray⟩ : ByteArray) from rfl, foldl_push]
      rfl
  simp only [execOp, ho, f.ev hx, Sem.run_bind, hc, Result.andThen_ok, Sem.run_pure]
theorem Yl.strEql {x y : Operand} {t u : TypeId} {l k : List UInt8} (hx : ev ρ x = some (.string ⟨l.toArray⟩)) (hy : ev ρ y = some (.string ⟨k.toArray⟩)) :
    Yl X (.binOp .eql t x y u) ty ρ A (.bool (decide (l = k))) := fun o ho _ ac w f _ => by
  have hb : (binOp .eql t (.string ⟨l.toArray⟩) (.string ⟨k.toArray⟩)).run X.P w = .ok (.bool (decide (l = k))) w := by
    simp only [binOp, Op.stringOp, ByteArray.toList_mk, Sem.run_pure]
    rw [show (l == k) = decide (l = k) by rw [Bool.eq_iff_iff]; simp]
  have hg : ∀ x y, (eqGuard .eql t x y (.string ⟨l.toArray⟩) (.string ⟨k.toArray⟩)).run X.P w = .ok () w := fun _ _ => rfl
  simp only [execOp, ho, f.ev hx, f.ev hy, Sem.run_bind, hg, Result.andThen_ok, hb, Sem.run_pure]
theorem Rd.lit {b : Nat} {T : TypeId} {fr : Nat × Nat} {vs : List Value} (hm : HA.blk b (.cells vs.toArray T fr) ∈ A) : Rd X A (some ⟨b, 0, none⟩) vs :=
  Rd.blk hm (fun i v hv => by simpa using hv)
end
end Go.Proofs.YtbkdjfgkebkknaaGreatDoor
