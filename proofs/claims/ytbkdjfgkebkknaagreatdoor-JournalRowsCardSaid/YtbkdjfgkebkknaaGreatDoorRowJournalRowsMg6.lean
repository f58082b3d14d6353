import Derived.Test.YtbkdjfgkebkknaaGreatDoorRowJournalRowsMg4
import Derived.Test.YtbkdjfgkebkknaaGreatDoorRowJournalRowsMg5
import Derived.Test.YtbkdjfgkebkknaaGreatDoorRowJournalRowsMg3
import Derived.Test.YtbkdjfgkebkknaaGreatDoorProg
import Derived.Laws.MakeOwn
import Derived.Sort.LoopGhostIn
namespace Go.Proofs.YtbkdjfgkebkknaaGreatDoor
set_option linter.unusedVariables false
set_option linter.unusedSimpArgs false
open Go Go.RowKit Go.Shelf
set_option maxRecDepth 100000
set_option maxHeartbeats 4000000
def ncells (l : List Nat) : List Value := l.map fun (k : Nat) => Value.int .i64 (k : Int)
theorem ncells_len (l : List Nat) : (ncells l).length = l.length := List.length_map _
theorem ncells_at {l : List Nat} {i : Nat} (h : i < l.length) : (ncells l)[i]? = some (.int .i64 ((l.getD i 0 : Nat) : Int)) := by simp [ncells, List.getD, h]
theorem sorts_all (m : Nat) : AnyZI.SortsIn Tryz.prog sortedL_ren Fence.wide m :=
  ⟨fun blk off cap ss W hH hblk hsz => callsIn_wide.2 (AnyM.slices_Sort_int sortL blk off cap ss W hH hblk hsz),
   fun p cap W => callsIn_wide.2 (AnyM.slices_Sort_int_none sortL p cap W)⟩
section
variable {β : Type} {n c : Nat} {F : Nat → Option β} {M : List (Nat × β × Nat)} {enc : β → Value}
theorem rd_ment {P : Program} {K : TypeId} (hK : P.underlying K = some (.int .i64)) {x : Nat × β × Nat} (hx : x.1 < 1000000) :
    Go.WideElems.rd (H := Unit) P K (fun _ => some (DataW.nil, [])) (ment enc x) = some (Lit.int .i64 (x.1 : Int), DataW.nil) := by
  have hw : (Lit.int .i64 (x.1 : Int)).wf = true := by
    simp only [Lit.wf, Bool.and_eq_true, decide_eq_true_eq]
    have e1 : IntKind.i64.min = -9223372036854775808 := by decide
    have e2 : IntKind.i64.max = 9223372036854775807 := by decide
    rw [e1, e2]; omega
  simp [Go.WideElems.rd, ment, Maps.keyOf_int_mk hK hw]
theorem MapIs.owns {P : Program} {K : TypeId} (hK : P.underlying K = some (.int .i64)) (h : MapIs n F M c) (hn : n ≤ 1000000) {w : World} {b : Nat} (hb : w.heap[b]? = some (mobj enc M c)) :
    ∃ D : DataW Unit, w.ownsMap P K (fun _ => some (DataW.nil, [])) b M.length D ∧ (intKeys D).Perm (M.map fun x => (x.1 : Int)) ∧ Maps.size D = M.length := by
  have hc := h.count
  have hrd : ∀ x ∈ M, Go.WideElems.rd (H := Unit) P K (fun _ => some (DataW.nil, [])) (ment enc x) = some (Lit.int .i64 (x.1 : Int), DataW.nil) := fun x hx => rd_ment hK (by have := h.low x hx; omega)
  have hperm := WideShapes.sorted_perm ((M.map (ment enc)).toArray.toList.map (Go.WideElems.rg (H := Unit) P K (fun _ => some (DataW.nil, []))))
  have he : (M.map (ment enc)).toArray.toList.map (Go.WideElems.rg (H := Unit) P K (fun _ => some (DataW.nil, []))) = M.map fun x => (Lit.int .i64 (x.1 : Int), DataW.nil) := by
    rw [List.map_map]
    refine List.map_congr_left fun x hx => ?_
    simp [Go.WideElems.rg, hrd x hx]
  refine ⟨_, ⟨_, _, hb, ⟨by simp [maxLen]; omega, ⟨?_, ?_, ?_⟩, ?_⟩, by simp, rfl⟩, ?_, ?_⟩
  · intro e hx
    simp only [List.toList_toArray, List.mem_map] at hx
    obtain ⟨x, hx, rfl⟩ := hx
    exact h.born x hx
  · have : ((M.map (ment enc)).toArray.toList.map (·.born)) = M.map (·.2.2) := by rw [List.map_map]; rfl
    rw [this]; exact h.borns
  · have : ((M.map (ment enc)).toArray.toList.map (·.key)) = (M.map (·.1)).map fun (k : Nat) => Value.int .i64 (k : Int) := by rw [List.map_map, List.map_map]; rfl
    rw [this]
    exact List.Pairwise.map _ (fun a b hab e => hab (by simp at e; omega)) h.keys
  · intro e hx
    simp only [List.toList_toArray, List.mem_map] at hx
    obtain ⟨x, hx, rfl⟩ := hx
    exact ⟨_, hrd x hx⟩
  · have := hperm.map fun p => Go.intOf p.1
    rw [he, List.map_map] at this
    simp only [intKeys]
    rw [he]
    exact this
  · show (List.foldr DataW.insert [] _).length = _
    rw [hperm.length_eq]; simp
end
theorem gives_row {P : Program} {w w' : World} {v : Value} {T : TypeId} {m : Nat} {xs : List Value} (h : w'.ownsRow w.heap.size T 1 v m xs) (hb : Below w.heap.size w w') : Gives (NewRow id T 1 m xs) w (.returned v) w' := by
  obtain ⟨hl, ⟨rfl, rfl⟩ | ⟨g, cap, cur, rfl, hg, hc, h1, h2, h3, h4⟩⟩ := h
  · obtain rfl : xs = [] := List.eq_nil_of_length_eq_zero (by omega)
    exact ⟨_, _, rfl, ⟨none, 0, Nat.le_refl _, rfl, rfl⟩, ⟨Kept.of_below hb, fun x hx => by simp at hx; subst hx; exact .inl ⟨rfl, rfl⟩, by simp [HA.foot], fun x hx b hb => by simp at hx; subst hx; simp [HA.foot] at hb⟩⟩
  · refine ⟨_, _, rfl, ⟨some ⟨g, 0, none⟩, cap, h1, rfl, rfl⟩, ⟨Kept.of_below hb, fun x hx => ?_, ?_, fun x hx b hb => ?_⟩⟩
    · simp at hx; subst hx
      exact .inr ⟨g, cur, rfl, hc, h3, h2, by rw [h3]; have : m * 1 ≤ cap * 1 := Nat.mul_le_mul_right 1 h1; omega, by rw [hl]; exact h4⟩
    · simp only [List.filterMap_cons, List.filterMap_nil, HA.foot]; split <;> simp
    · simp at hx; subst hx
      simp only [HA.foot] at hb
      split at hb
      · cases hb
      · simp only [Option.map_some, Option.some.injEq] at hb; subst hb; exact .inr hg
def KeysV (mb : Nat) : Value → List HA → Prop := fun u B => ∃ bx, u = .func (.func 125) #[] #[.pointer (some ⟨bx, 0, none⟩)] ∧ B = [.blk bx (.cells #[.map (some mb)] 149 (0, 0))]
theorem keys_c (mb : Nat) (w : World) : Calls Tryz.prog 98 #[.map (some mb)] w (Gives (KeysV mb) w) := by
  have h : CallsIn Fence.wide 5 Tryz.prog 98 #[.map (some mb)] w fun e w' => e = .returned (.func (.func 125) #[] #[.pointer (some ⟨w.heap.size, 0, none⟩)]) ∧ w' = w.alloc (.cells #[.map (some mb)] 149) := AnyZI.keys_in keysL Fence.wide 5 trivial rfl (some mb) w
  refine ((callsIn_wide (n := 5)).1 h).mono ?_
  rintro e w' ⟨rfl, rfl⟩
  exact ⟨_, _, rfl, ⟨_, rfl, rfl⟩, (St.start w).alloc _⟩
theorem sorted_c {β : Type} {enc : β → Value} {n c : Nat} {F : Nat → Option β} {M : List (Nat × β × Nat)} (bx mb : Nat) (w : World) (h : MapIs n F M c) (hn : n ≤ 1000000)
    (hbx : w.heap[bx]? = some (.cells #[.map (some mb)] 149 (0, 0))) (hmb : w.heap[mb]? = some (mobj enc M c)) :
    Calls Tryz.prog 41 #[.func (.func 125) #[] #[.pointer (some ⟨bx, 0, none⟩)]] w (Gives (NewRow id 3 1 (dirtyOf n F).length (ncells (dirtyOf n F))) w) := by
  obtain ⟨D, hown, hperm, hsize⟩ := h.owns (P := Tryz.prog) (K := 3) Tryz.underlying3 hn hmb
  have hc := h.count
  have hseq : SeqGives Fence.wide 2 Tryz.prog 125 #[.pointer (some ⟨bx, 0, none⟩)] encZ (fun ss => ss.Perm (intKeys D)) (Maps.size D) w :=
    AnyZI.keys_gives (ρ := keysL_ren) { keysL with } Fence.wide _ trivial rfl (by omega) bx mb M.length D _ (lt_of_heap hbx) (by simp [World.cell?, hbx]) hown
  have cS := AnyZI.sorted_in sortedL Fence.wide 5 trivial trivial trivial trivial rfl (by omega) (sorts_all _) (enters_of Tryz.func57 (by kernel_rfl) rfl) 125 #[.pointer (some ⟨bx, 0, none⟩)] trivial (enters_of Tryz.func125 (by kernel_rfl) rfl) _ _ (by rw [hsize]; simp only [maxLen]; omega) (by rw [hsize]; omega) _ hseq
  refine ((callsIn_wide (n := 5)).1 cS).mono ?_
  rintro e w' ⟨v, ss, rfl, hS, hrow, _, hb⟩
  have hs := h.sorted (hS.trans hperm)
  have hl : ss.length = (dirtyOf n F).length := by
    have := congrArg List.length hs
    rwa [List.length_mergeSort, List.length_map] at this
  rw [hs, hl, List.map_map] at hrow
  exact gives_row (P := Tryz.prog) (T := 3) (xs := ncells (dirtyOf n F)) hrow hb
end Go.Proofs.YtbkdjfgkebkknaaGreatDoor
namespace Go.Proofs.YtbkdjfgkebkknaaGreatDoor
set_option linter.unusedVariables false
set_option linter.unusedSimpArgs false
open Go Go.RowKit
section
variable {X : Cx} {ρ : Env} {A : List HA} {ty : TypeId}
theorem Yl.s2a {x : Operand} {t e : TypeId} {n len cap : Nat} {a : Option Addr} (hu : X.P.underlying t = some (.array n e)) (hx : ev ρ x = some (.slice a len cap)) (h : n ≤ len) : Yl X (.sliceToArrayPointer t x) ty ρ A (.pointer a) := fun o ho _ ac w f _ => by
  have h2 : ¬ len < n := by omega
  simp [execOp, ho, f.ev hx, Instr.arrayAt, run_underlying hu, h2]
theorem Yl.loadArr {x : Operand} {T : TypeId} {k : Nat} {a : Option Addr} {vs : List Value} (hg : ∀ w, (isAgg T).run X.P w = .ok true w) (hk : ∀ w, (sizeOf T).run X.P w = .ok k w) (hx : ev ρ x = some (.pointer a)) (hr : Rd X A a vs) (hl : vs.length = k) (hne : vs ≠ []) :
    Yl X (.load T x) ty ρ A (.agg vs.toArray) := fun o ho _ ac w f s => by
  obtain ⟨ad, rfl⟩ := hr.some_ hne s
  have hc : ∀ i u, vs[i]? = some u → w.cell? (ad.add i) = some u := fun i u hu => by
    obtain ⟨ad2, h2, h3⟩ := hr.at_ hu s
    rw [el, Option.map_some] at h2
    rwa [← Option.some.inj h2] at h3
  have hl' := run_loadCells_list (P := X.P) w ad vs hc
  rw [hl] at hl'
  simp [execOp, ho, f.ev hx, Instr.loadAt, Instr.sureAddr, loadVar, hg, hk, hl']
end
end Go.Proofs.YtbkdjfgkebkknaaGreatDoor
namespace Go.Proofs.YtbkdjfgkebkknaaGreatDoor
set_option linter.unusedVariables false
set_option linter.unusedSimpArgs false
open Go Go.RowKit
set_option maxHeartbeats 4000000
set_option maxRecDepth 100000
attribute [local irreducible] WL WC WN Yl WH WQ WT
theorem elemU8 : ElemT Tryz.prog 5 (.int .u8 0) 1 1 := ElemT.of (by kernel_rfl) rfl (by decide)
theorem clone_c (a : Option Addr) (n cap : Nat) (l : List UInt8) (w : World) (hl : l.length = n) (hn : n ≤ 140737488355328) (hr : CellsAt w a (bs l)) :
    Calls Tryz.prog 185 #[.slice a n cap] w (Gives (NewRow id 5 1 n (bs l)) w) := by
  refine enter (args := [_]) Tryz.func185 Tryz.ntmps185 rfl rfl ?_
  cases a with
  | none =>
    obtain rfl := nil_of_none hr
    obtain rfl : n = 0 := hl.symm
    (repeat (first | refine WL.step (Yl.move rfl) rfl ?_ | refine WL.step (Yl.assign rfl) rfl ?_ | refine WL.step (Yl.eqNil (t := 23) Tryz.underlying23 rfl) rfl ?_ | refine WC.seq ?_ | refine WC.region ?_ | refine WL.nil ?_ | refine WN.then_normal ?_))
    refine WC.cond_true rfl rfl ?_
    (repeat (first | refine WL.step (Yl.assign rfl) rfl ?_ | refine WC.seq ?_ | refine WC.region ?_ | refine WL.nil ?_ | refine WN.then_normal ?_ | refine WC.ret ?_ | refine WN.then_ret ?_))
    exact WN.ret1 rfl rfl ⟨none, 0, by omega, rfl, rfl⟩ (.free .nil)
  | some ad =>
    (repeat (first | refine WL.step (Yl.move rfl) rfl ?_ | refine WL.step (Yl.assign rfl) rfl ?_ | refine WL.step (Yl.eqNil (t := 23) Tryz.underlying23 rfl) rfl ?_ | refine WC.seq ?_ | refine WC.region ?_ | refine WL.nil ?_ | refine WN.then_normal ?_))
    refine WC.cond_false rfl rfl ?_
    (repeat (first | refine WC.seq ?_ | refine WC.region ?_ | refine WN.then_normal ?_ | refine WC.skip ?_))
    refine WL.lit (t := 23) Tryz.underlying23 elemU8 rfl rfl rfl (by simp) rfl fun b => ?_
    (repeat (first | refine WL.step (Yl.move rfl) rfl ?_))
    refine WL.appendRow (t := 23) Tryz.underlying23 elemU8 rfl rfl .here rfl (by omega) (.old hr) (by rw [bs_length]; omega) (bs_one l) (by omega) (by simp only [maxLen]; omega) rfl fun p hp => ?_
    (repeat (first | refine WL.step (Yl.assign rfl) rfl ?_ | refine WL.nil ?_ | refine WN.then_normal ?_ | refine WC.ret ?_))
    exact WN.ret1 rfl rfl ⟨p.1, p.2, by omega, by rw [Nat.zero_add]; rfl, rfl⟩ (.cons .here .nil)
theorem bequal_c (a b : Option Addr) (n m c1 c2 : Nat) (l k : List UInt8) (w : World) (hl : l.length = n) (hk : k.length = m) (hr : CellsAt w a (bs l)) (hr2 : CellsAt w b (bs k)) :
    Calls Tryz.prog 47 #[.slice a n c1, .slice b m c2] w (Gives (Val (.bool (decide (l = k)))) w) := by
  refine enter (args := [_, _]) Tryz.func47 Tryz.ntmps47 rfl rfl ?_
  (repeat (first | refine WL.step (Yl.move rfl) rfl ?_ | refine WL.step (Yl.assign rfl) rfl ?_ | refine WC.seq ?_ | refine WC.region ?_ | refine WL.nil ?_ | refine WN.then_normal ?_))
  refine WL.step (Yl.toStr (l := l) Tryz.underlying23 Tryz.underlying5 Tryz.underlying9 rfl (.old hr) hl) rfl ?_
  (repeat (first | refine WL.step (Yl.move rfl) rfl ?_))
  refine WL.step (Yl.toStr (l := k) Tryz.underlying23 Tryz.underlying5 Tryz.underlying9 rfl (.old hr2) hk) rfl ?_
  (repeat (first | refine WL.step (Yl.assign rfl) rfl ?_ | refine WL.step (Yl.strEql rfl rfl) rfl ?_ | refine WL.nil ?_ | refine WN.then_normal ?_ | refine WC.ret ?_))
  exact WN.ret1 rfl rfl ⟨rfl, rfl⟩ .nil
section
variable {X : Cx} {ρ : Env} {A : List HA} {ty : TypeId}
theorem Yl.indexStrF {x y : Operand} {t : TypeId} {l : List UInt8} {f : Nat → Nat} {b j : Nat} {ik : IntKind} (hu : X.P.underlying t = some .string) (hx : ev ρ x = some (.string ⟨l.toArray⟩)) (hy : ev ρ y = some (.int ik (j : Int)))
    (hf : ∀ i, i < b → (l.getD i 0).toNat = f i ∧ i < l.length) (hj : j < b) : Yl X (.index t x y) ty ρ A (.int .u8 ((f j : Nat) : Int)) := Yl.intro fun o ho _ ac w fr _ => by
  obtain ⟨h1, h2⟩ := hf j hj
  have hg : (⟨l.toArray⟩ : ByteArray)[j]? = some l[j] := by
    show (if h : j < (⟨l.toArray⟩ : ByteArray).size then some _ else none) = _
    rw [dif_pos (by simpa [ByteArray.size] using h2)]
    rfl
  rw [← h1]
  simp [execOp, ho, fr.ev hx, fr.ev hy, Instr.index, asIntOf, run_underlying hu, hg, List.getD, h2]
theorem Yl.max2N {x y : Operand} {ts : Array TypeId} {k : IntKind} {m n : Nat} (hx : ev ρ x = some (.int k (m : Int))) (hy : ev ρ y = some (.int k (n : Int))) :
    Yl X (.call { callee := .builtin .max, args := #[x, y], argTypes := ts }) ty ρ A (.int k ((max m n : Nat) : Int)) := Yl.intro fun o ho _ a w f _ => by
  simp [execOp, ho, resolve, invoke, builtin, f.ev hx, f.ev hy, run_max_int2]
  split <;> omega
end
end Go.Proofs.YtbkdjfgkebkknaaGreatDoor
namespace Go.Proofs.YtbkdjfgkebkknaaGreatDoor
set_option linter.unusedVariables false
set_option linter.unusedSimpArgs false
open Go Go.RowKit
set_option maxRecDepth 100000
set_option maxHeartbeats 4000000
theorem fl154 : flatT Tryz.prog 154 = true := by kernel_rfl
def encB (v : List UInt8) : Value := .agg (bs v).toArray
def zblk : List UInt8 := List.replicate 128 0
theorem zeroBlk (w : World) : (zeroValue 151).run Tryz.prog w = .ok (encB zblk) w := by
  have h : (Tryz.prog.info? 151).map (fun i => i.zero) = some (some (.agg (bs zblk).toArray)) := by kernel_rfl
  exact zero_of h w
structure BkWf (d : List (List UInt8)) (F : Nat → Option (List UInt8)) : Prop where
  pos : 0 < d.length
  le : d.length ≤ 4096
  len : ∀ x ∈ d, x.length = 128
  val : ∀ k v, F k = some v → v.length = 128
structure BankAt (w : World) (bk : Nat) (da : Option Addr) (cap mb : Nat) (d : List (List UInt8)) (F : Nat → Option (List UInt8)) : Prop where
  wf : BkWf d F
  blk : w.heap[bk]? = some (.cells #[.slice da d.length cap, .map (some mb)] 154 (0, 0))
  row : CellsAt w da (bs d.flatten)
  cap : d.length ≤ cap
  map : ∃ M c, w.heap[mb]? = some (mobj encB M c) ∧ MapIs d.length F M c
def bptr (bk : Nat) : Value := .pointer (some ⟨bk, 0, none⟩)
theorem bchunk {α β : Type} {f : α → List β} {k : Nat} : ∀ {l : List α} {i : Nat} {x : α}, (∀ y ∈ l, (f y).length = k) → l[i]? = some x → ((l.flatMap f).drop (i * k)).take k = f x
  | [], _, _, _, h => by simp at h
  | y :: l, 0, x, hk, h => by
    obtain rfl : y = x := by simpa using h
    rw [Nat.zero_mul, List.drop_zero, List.flatMap_cons, ← hk y (.head _), List.take_left]
  | y :: l, i + 1, x, hk, h => by
    have e : (i + 1) * k = (f y).length + i * k := by rw [hk y (.head _), Nat.add_mul]; omega
    rw [List.flatMap_cons, e, ← List.drop_drop, List.drop_left]
    exact bchunk (fun z hz => hk z (.tail _ hz)) (by simpa using h)
theorem ball (l : List UInt8) : (bs l).toArray.toList.all Value.oneCell' = true := List.all_eq_true.2 fun u hu => bs_one l u (by simpa using hu)
theorem bsize {l : List UInt8} {n : Nat} (h : l.length = n) : Nat.beq (bs l).toArray.size n = true := by rw [List.size_toArray, bs_length, h]; exact Nat.beq_refl n
theorem flat_get {d : List (List UInt8)} (hd : ∀ x ∈ d, x.length = 128) {i : Nat} (h : i < d.length) : ((bs d.flatten).drop (i * 128)).take (bs (d.getD i [])).length = bs (d.getD i []) := by
  have e : d[i]? = some (d.getD i []) := by simp [List.getD, h]
  have hl := hd _ (List.mem_of_getElem? e)
  have := bchunk (f := fun x : List UInt8 => bs x) (k := 128) (l := d) (fun x hx => by rw [bs_length]; exact hd x hx) e
  rw [bs_length, hl]
  rw [show bs d.flatten = d.flatMap fun x => bs x by simp [bs, List.map_flatten, List.flatMap]]
  exact this
theorem blk_mem {d : List (List UInt8)} {i : Nat} (h : i < d.length) : d.getD i [] ∈ d := List.mem_of_getElem? (by simp [List.getD, h] : d[i]? = some (d.getD i []))
theorem flat_len128 {d : List (List UInt8)} (hd : ∀ x ∈ d, x.length = 128) : (bs d.flatten).length = d.length * 128 := by
  rw [bs_length, List.length_flatten, List.map_congr_left (g := fun _ => 128) (fun x hx => hd x hx)]
  induction d with
  | nil => rfl
  | cons x d ih => simp only [List.map_cons, List.sum_cons, List.length_cons, ih (fun y hy => hd y (.tail _ hy))]; omega
theorem flat_ne {d : List (List UInt8)} (hd : ∀ x ∈ d, x.length = 128) (h : 0 < d.length) : bs d.flatten ≠ [] := fun e => by
  have := flat_len128 hd
  rw [e] at this; simp at this; omega
attribute [local irreducible] WL WC WN Yl WH WQ WT WE WU
inductive BadAt (w : World) : Value → Prop
  | none : BadAt w (.pointer none)
  | zero (bk : Nat) : w.heap[bk]? = some (.cells #[.slice none 0 0, .map none] 154 (0, 0)) → BadAt w (bptr bk)
theorem valid_c {bk n cap : Nat} {da : Option Addr} {mv : Value} (w : World) (hb : w.heap[bk]? = some (.cells #[.slice da n cap, mv] 154 (0, 0))) :
    Calls Tryz.prog 97 #[bptr bk] w (Gives (Val (.bool (decide (0 < n)))) w) := by
  refine enter (args := [.pointer (some ⟨bk, 0, none⟩)]) Tryz.func97 Tryz.ntmps97 rfl rfl ?_
  (repeat (first | refine WL.want rfl rfl rfl ?_ | refine WL.step (Yl.move rfl) rfl ?_ | refine WL.step (Yl.assign rfl) rfl ?_ | refine WL.step (Yl.loadH Tryz.isAgg152 rfl (Has.old hb) rfl) rfl ?_ | refine WL.step (Yl.fld0 (t := 154) Tryz.underlying154 fl154 rfl rfl) rfl ?_ | refine WL.step (Yl.pick_t rfl rfl rfl) rfl ?_ | (refine WL.k_bin .neq ?_; refine WL.step (Yl.neqPN (by kernel_rfl) rfl) rfl ?_) | refine WL.step (Yl.nilCheck rfl) rfl ?_ | refine WL.step (Yl.len (t := 152) Tryz.underlying152 rfl) rfl ?_ | refine WL.step (Yl.gtr rfl rfl) rfl ?_ | refine WC.seq ?_ | refine WC.region ?_ | refine WL.nil ?_ | refine WN.then_normal ?_ | refine WC.ret ?_))
  exact WN.ret1 rfl rfl ⟨by rw [show decide (0 < n) = decide ((0 : Int) < (n : Int)) from decide_eq_decide.2 (by omega)], rfl⟩ .nil
theorem valid_ok {bk cap mb : Nat} {da : Option Addr} {d : List (List UInt8)} {F : Nat → Option (List UInt8)} (w : World) (h : BankAt w bk da cap mb d F) : Calls Tryz.prog 97 #[bptr bk] w (Gives (Val (.bool true)) w) := by
  have := valid_c w h.blk
  rwa [decide_eq_true h.wf.pos] at this
theorem BankAt.keep {w w' : World} {bk cap mb : Nat} {da : Option Addr} {d : List (List UInt8)} {F : Nat → Option (List UInt8)} (h : BankAt w bk da cap mb d F) (k : Kept w [] w') : BankAt w' bk da cap mb d F := by
  obtain ⟨M, c, hm, hM⟩ := h.map
  exact ⟨h.wf, (k.block bk (lt_of_heap h.blk) (by simp)).trans h.blk, h.row.keep k, h.cap, M, c, (k.block mb (lt_of_heap hm) (by simp)).trans hm, hM⟩
theorem BadAt.keep {w w' : World} {v : Value} (h : BadAt w v) (k : Kept w [] w') : BadAt w' v := by
  cases h with
  | none => exact .none
  | zero bk hb => exact .zero bk ((k.block bk (lt_of_heap hb) (by simp)).trans hb)
section
variable {bk cap mb : Nat} {da : Option Addr} {d : List (List UInt8)} {F : Nat → Option (List UInt8)}
theorem len_c (w : World) (h : BankAt w bk da cap mb d F) : Calls Tryz.prog 107 #[bptr bk] w (Gives (Val (.int .i64 (d.length : Int))) w) := by
  refine enter (args := [.pointer (some ⟨bk, 0, none⟩)]) Tryz.func107 Tryz.ntmps107 rfl rfl ?_
  (repeat (first | refine WL.step (Yl.move rfl) rfl ?_ | refine WL.step (Yl.assign rfl) rfl ?_ | (refine WL.k_call 97 ?_; refine WL.callV (g := 97) (v := .bool true) Tryz.call97 rfl (fun w s => valid_ok w (h.keep s.kept)) rfl ?_) | refine WL.step (Yl.not rfl) rfl ?_ | refine WC.seq ?_ | refine WC.region ?_ | refine WL.nil ?_ | refine WN.then_normal ?_))
  refine WC.cond_false rfl rfl ?_
  (repeat (first | refine WL.step (Yl.move rfl) rfl ?_ | refine WL.step (Yl.assign rfl) rfl ?_ | refine WL.step (Yl.loadH Tryz.isAgg152 rfl (Has.old h.blk) rfl) rfl ?_ | refine WL.step (Yl.fld0 (t := 154) Tryz.underlying154 fl154 rfl rfl) rfl ?_ | refine WL.step (Yl.nilCheck rfl) rfl ?_ | refine WL.step (Yl.len (t := 152) Tryz.underlying152 rfl) rfl ?_ | refine WC.seq ?_ | refine WC.region ?_ | refine WL.nil ?_ | refine WN.then_normal ?_ | refine WC.skip ?_ | refine WC.ret ?_))
  exact WN.ret1 rfl rfl ⟨rfl, rfl⟩ .nil
def bchk (n : Nat) (s : Int) : Nat := if s < 0 ∨ (n : Int) ≤ s then 3 else 0
theorem bcheck_c (s : Int) (w : World) (h : BankAt w bk da cap mb d F) : Calls Tryz.prog 99 #[bptr bk, .int .i64 s] w (Gives (Val (.int .i64 (bchk d.length s : Nat))) w) := by
  refine enter (args := [.pointer (some ⟨bk, 0, none⟩), _]) Tryz.func99 Tryz.ntmps99 rfl rfl ?_
  (repeat (first | refine WL.step (Yl.move rfl) rfl ?_ | refine WL.step (Yl.assign rfl) rfl ?_ | (refine WL.k_call 97 ?_; refine WL.callV (g := 97) (v := .bool true) Tryz.call97 rfl (fun w s => valid_ok w (h.keep s.kept)) rfl ?_) | refine WL.step (Yl.not rfl) rfl ?_ | refine WC.seq ?_ | refine WC.region ?_ | refine WL.nil ?_ | refine WN.then_normal ?_ | refine WC.block ?_))
  refine WC.cond_false rfl rfl ?_
  unfold bchk
  by_cases h1 : s < 0
  · rw [if_pos (.inl h1)]
    (repeat (first | refine WL.pass rfl rfl rfl rfl ?_ | refine WL.step (Yl.move rfl) rfl ?_ | refine WL.step (Yl.assign rfl) rfl ?_ | refine WL.step (Yl.pick_t rfl rfl rfl) rfl ?_ | refine WL.step (Yl.lssT rfl rfl h1) rfl ?_ | refine WC.seq ?_ | refine WC.region ?_ | refine WL.nil ?_ | refine WN.then_normal ?_))
    refine WC.cond_true rfl rfl ?_
    (repeat (first | refine WL.step (Yl.assign rfl) rfl ?_ | refine WC.seq ?_ | refine WC.region ?_ | refine WL.nil ?_ | refine WN.then_normal ?_ | refine WC.ret ?_ | refine WN.then_ret ?_ | refine WN.block_ret ?_))
    exact WN.ret1 rfl rfl ⟨rfl, rfl⟩ .nil
  · by_cases h2 : (d.length : Int) ≤ s
    · rw [if_pos (.inr h2)]
      (repeat (first | refine WL.want rfl rfl rfl ?_ | refine WL.step (Yl.move rfl) rfl ?_ | refine WL.step (Yl.assign rfl) rfl ?_ | refine WL.step (Yl.loadH Tryz.isAgg152 rfl (Has.old h.blk) rfl) rfl ?_ | refine WL.step (Yl.fld0 (t := 154) Tryz.underlying154 fl154 rfl rfl) rfl ?_ | refine WL.step (Yl.pick_f rfl rfl rfl) rfl ?_ | refine WL.step (Yl.lssF rfl rfl h1) rfl ?_ | refine WL.step (Yl.nilCheck rfl) rfl ?_ | refine WL.step (Yl.len (t := 152) Tryz.underlying152 rfl) rfl ?_ | refine WL.step (Yl.geqT rfl rfl h2) rfl ?_ | refine WC.seq ?_ | refine WC.region ?_ | refine WL.nil ?_ | refine WN.then_normal ?_))
      refine WC.cond_true rfl rfl ?_
      (repeat (first | refine WL.step (Yl.assign rfl) rfl ?_ | refine WC.seq ?_ | refine WC.region ?_ | refine WL.nil ?_ | refine WN.then_normal ?_ | refine WC.ret ?_ | refine WN.then_ret ?_ | refine WN.block_ret ?_))
      exact WN.ret1 rfl rfl ⟨rfl, rfl⟩ .nil
    · rw [if_neg (by omega)]
      (repeat (first | refine WL.want rfl rfl rfl ?_ | refine WL.step (Yl.move rfl) rfl ?_ | refine WL.step (Yl.assign rfl) rfl ?_ | refine WL.step (Yl.loadH Tryz.isAgg152 rfl (Has.old h.blk) rfl) rfl ?_ | refine WL.step (Yl.fld0 (t := 154) Tryz.underlying154 fl154 rfl rfl) rfl ?_ | refine WL.step (Yl.pick_f rfl rfl rfl) rfl ?_ | refine WL.step (Yl.lssF rfl rfl h1) rfl ?_ | refine WL.step (Yl.nilCheck rfl) rfl ?_ | refine WL.step (Yl.len (t := 152) Tryz.underlying152 rfl) rfl ?_ | refine WL.step (Yl.geqF rfl rfl h2) rfl ?_ | refine WC.seq ?_ | refine WC.region ?_ | refine WL.nil ?_ | refine WN.then_normal ?_))
      refine WC.cond_false rfl rfl ?_
      (repeat (first | refine WL.step (Yl.assign rfl) rfl ?_ | refine WC.seq ?_ | refine WC.region ?_ | refine WL.nil ?_ | refine WN.then_normal ?_ | refine WC.skip ?_ | refine WC.ret ?_ | refine WN.block_normal ?_))
      exact WN.ret1 rfl rfl ⟨rfl, rfl⟩ .nil
theorem bchk_cases (n : Nat) (s : Int) : (bchk n s = 3 ∧ (s < 0 ∨ (n : Int) ≤ s)) ∨ (bchk n s = 0 ∧ ∃ k : Nat, s = (k : Int) ∧ k < n) := by
  by_cases h : s < 0 ∨ (n : Int) ≤ s
  · exact .inl ⟨if_pos h, h⟩
  · exact .inr ⟨if_neg h, s.toNat, by omega, by omega⟩
def BOut (r : List UInt8 × Nat) : Value → List HA → Prop := NewRow (fun s => .tuple #[s, .int .i64 (r.2 : Int)]) 151 1 r.1.length (bs r.1)
def readR (d : List (List UInt8)) (F : Nat → Option (List UInt8)) (s : Int) : List UInt8 × Nat := if bchk d.length s = 0 then ((F s.toNat).getD (d.getD s.toNat []), 0) else ([], 3)
theorem bread_c (s : Int) (w : World) (h : BankAt w bk da cap mb d F) : Calls Tryz.prog 46 #[bptr bk, .int .i64 s] w (Gives (BOut (readR d F s)) w) := by
  refine enter (args := [.pointer (some ⟨bk, 0, none⟩), _]) Tryz.func46 Tryz.ntmps46 rfl rfl ?_
  rcases bchk_cases d.length s with ⟨hc, hs⟩ | ⟨hc, k, rfl, hk⟩
  · rw [readR, if_neg (by rw [hc]; decide)]
    (repeat (first | refine WL.step (Yl.move rfl) rfl ?_ | refine WL.step (Yl.assign rfl) rfl ?_ | (refine WL.k_call 99 ?_; refine WL.callV (g := 99) (v := .int .i64 3) Tryz.call99 rfl (fun w s0 => by have := bcheck_c s w (h.keep s0.kept); rwa [hc] at this) rfl ?_) | (refine WL.k_bin .neq ?_; refine WL.step (Yl.neqT rfl rfl (by decide)) rfl ?_) | refine WC.seq ?_ | refine WC.region ?_ | refine WL.nil ?_ | refine WN.then_normal ?_))
    refine WC.cond_true rfl rfl ?_
    (repeat (first | refine WL.step (Yl.move rfl) rfl ?_ | refine WL.step (Yl.assign rfl) rfl ?_ | refine WC.seq ?_ | refine WC.region ?_ | refine WL.nil ?_ | refine WN.then_normal ?_ | refine WC.ret ?_ | refine WN.then_ret ?_))
    exact WN.ret2 rfl rfl rfl ⟨none, 0, Nat.le_refl _, rfl, rfl⟩ (.free .nil)
  · rw [readR, if_pos hc]
    obtain ⟨M, c, hm, hM⟩ := h.map
    have hmem := blk_mem hk
    have hlen := h.wf.len _ hmem
    have hne := flat_ne h.wf.len h.wf.pos
    (repeat (first | refine WL.step (Yl.move rfl) rfl ?_ | refine WL.step (Yl.assign rfl) rfl ?_ | (refine WL.k_call 99 ?_; refine WL.callV (g := 99) (v := .int .i64 0) Tryz.call99 rfl (fun w s0 => by have := bcheck_c (k : Int) w (h.keep s0.kept); rwa [hc] at this) rfl ?_) | (refine WL.k_bin .neq ?_; refine WL.step (Yl.neqF rfl rfl (by decide)) rfl ?_) | refine WC.seq ?_ | refine WC.region ?_ | refine WL.nil ?_ | refine WN.then_normal ?_))
    refine WC.cond_false rfl rfl ?_
    rw [Int.toNat_natCast]
    cases hF : F k with
    | none =>
      have hb := bsize hlen
      simp only [Option.getD_none]
      (repeat (first | refine WL.step (Yl.lookupF (k := k) (enc := encB) Tryz.underlying149 Tryz.underlying3 zeroBlk rfl rfl hM hF (Has.old hm)) rfl ?_ | refine WL.step (Yl.move rfl) rfl ?_ | refine WL.step (Yl.extract rfl rfl) rfl ?_ | refine WL.step (Yl.loadH Tryz.isAgg149 rfl (Has.old h.blk) rfl) rfl ?_ | refine WL.step (Yl.fld0 (t := 154) Tryz.underlying154 fl154 rfl rfl) rfl ?_ | refine WL.step (Yl.nilCheck rfl) rfl ?_ | refine WC.seq ?_ | refine WC.region ?_ | refine WN.then_normal ?_ | refine WC.skip ?_))
      refine WL.allocA zeroBlk rfl fun b => ?_
      refine WL.storeWhole (T := 151) (k := 128) (us := (bs zblk).toArray) Tryz.sizeOf151 rfl rfl (ball _) .here rfl rfl ?_
      (repeat (first | refine WL.step (Yl.move rfl) rfl ?_ | refine WL.step (Yl.assign rfl) rfl ?_ | refine WL.step (Yl.not rfl) rfl ?_ | refine WC.seq ?_ | refine WC.region ?_ | refine WL.nil ?_ | refine WN.then_normal ?_))
      refine WC.join (α := Unit) (fun _ => [(7, .pointer (some ⟨b, 0, none⟩))]) (fun _ => [.blk b (.cells (bs (d.getD k [])).toArray 151 (0, 0))]) (fun _ => True) ?_ ?_
      · refine WC.cond_true rfl rfl ?_
        (repeat (first | refine WL.step (Yl.move rfl) rfl ?_ | (refine WL.k_load ?_; first | refine WL.step (Yl.loadH Tryz.isAgg152 rfl (Has.old h.blk) rfl) rfl ?_ | refine WL.step (Yl.loadEl (bs (d.getD k [])) Tryz.isAgg151 Tryz.sizeOf151 rfl (Rd.old h.row) (by rw [bs_length]; exact hlen) (bs_ne (i := 0) (by omega)) (flat_get h.wf.len hk)) rfl ?_) | refine WL.step (Yl.fld0 (t := 154) Tryz.underlying154 fl154 rfl rfl) rfl ?_ | refine WL.step (Yl.nilCheck rfl) rfl ?_ | refine WL.step (Yl.indexAddr (t := 152) (j := k) Tryz.underlying152 Tryz.sizeOf151 rfl rfl (Rd.old h.row) hne hk) rfl ?_ | refine WC.region ?_))
        refine WL.storeWhole (k := 128) (us := (bs (d.getD k [])).toArray) Tryz.sizeOf151 rfl rfl (ball _) .here hb rfl ?_
        (repeat (first | refine WL.nil ?_))
        exact WN.join () trivial zS (by repeat (first | exact Part.nil | refine Part.cons zK ?_ | refine Part.free ?_))
      · intro _ _
        (repeat (first | refine WL.step (Yl.assign rfl) rfl ?_ | refine WL.step (Yl.arrAll (t := 151) Tryz.underlying151 Tryz.sizeOf5 rfl) rfl ?_ | refine WC.seq ?_ | refine WC.region ?_ | refine WL.nil ?_ | refine WN.then_normal ?_ | refine WC.ret ?_))
        refine WN.asRow (n := 128) .here (by rw [bs_length]; exact hlen) (by decide) ?_
        exact WN.ret2 rfl rfl rfl ⟨some ⟨b, 0, none⟩, 128, by show (d.getD k []).length ≤ 128; omega, by show _ = Value.tuple #[.slice _ (d.getD k []).length 128, _]; rw [hlen]; rfl, rfl⟩ (.cons .here .nil)
    | some u =>
      have hul := h.wf.val k u hF
      have hb := bsize hul
      simp only [Option.getD_some]
      (repeat (first | refine WL.step (Yl.lookupT (k := k) (enc := encB) (u := u) Tryz.underlying149 Tryz.underlying3 zeroBlk rfl rfl hM hF (Has.old hm)) rfl ?_ | refine WL.step (Yl.move rfl) rfl ?_ | refine WL.step (Yl.extract rfl rfl) rfl ?_ | refine WL.step (Yl.loadH Tryz.isAgg149 rfl (Has.old h.blk) rfl) rfl ?_ | refine WL.step (Yl.fld0 (t := 154) Tryz.underlying154 fl154 rfl rfl) rfl ?_ | refine WL.step (Yl.nilCheck rfl) rfl ?_ | refine WC.seq ?_ | refine WC.region ?_ | refine WN.then_normal ?_ | refine WC.skip ?_))
      refine WL.allocA zeroBlk rfl fun b => ?_
      refine WL.storeWhole (T := 151) (k := 128) (us := (bs u).toArray) Tryz.sizeOf151 rfl rfl (ball _) .here hb rfl ?_
      (repeat (first | refine WL.step (Yl.move rfl) rfl ?_ | refine WL.step (Yl.assign rfl) rfl ?_ | refine WL.step (Yl.not rfl) rfl ?_ | refine WC.seq ?_ | refine WC.region ?_ | refine WL.nil ?_ | refine WN.then_normal ?_))
      refine WC.cond_false rfl rfl ?_
      (repeat (first | refine WL.step (Yl.assign rfl) rfl ?_ | refine WL.step (Yl.arrAll (t := 151) Tryz.underlying151 Tryz.sizeOf5 rfl) rfl ?_ | refine WC.seq ?_ | refine WC.region ?_ | refine WL.nil ?_ | refine WN.then_normal ?_ | refine WC.skip ?_ | refine WC.ret ?_))
      refine WN.asRow (n := 128) .here (by rw [bs_length]; exact hul) (by decide) ?_
      exact WN.ret2 rfl rfl rfl ⟨some ⟨b, 0, none⟩, 128, by show u.length ≤ 128; omega, by show _ = Value.tuple #[.slice _ u.length 128, _]; rw [hul]; rfl, rfl⟩ (.cons .here .nil)
def DirtyV (v : Value) : Value → List HA → Prop := fun u B => ∃ bx, u = .func (.func 96) #[] #[.pointer (some ⟨bx, 0, none⟩)] ∧ B = [.blk bx (.cells #[v] 70 (0, 0))]
theorem bdirty_c (p : Option Addr) (w : World) : Calls Tryz.prog 45 #[.pointer p] w (Gives (DirtyV (.pointer p)) w) := by
  refine enter (args := [.pointer p]) Tryz.func45 Tryz.ntmps45 rfl rfl ?_
  (repeat (first | refine WC.seq ?_ | refine WC.region ?_))
  refine WL.box rfl rfl fun bx => ?_
  (repeat (first | refine WL.step (Yl.assign rfl) rfl ?_ | refine WL.step (Yl.makeFunc (xs := [.tmp 1]) rfl) rfl ?_ | refine WC.seq ?_ | refine WC.region ?_ | refine WL.nil ?_ | refine WN.then_normal ?_ | refine WC.ret ?_))
  exact WN.ret1 rfl rfl ⟨bx, rfl, rfl⟩ (.cons .here .nil)
end
end Go.Proofs.YtbkdjfgkebkknaaGreatDoor
namespace Go.Proofs.YtbkdjfgkebkknaaGreatDoor
set_option linter.unusedVariables false
set_option linter.unusedSimpArgs false
open Go Go.RowKit
set_option maxRecDepth 100000
set_option maxHeartbeats 8000000
section
variable {X : Cx} {ops : Array Oper} {Q : Exit → Act → World → Prop} {ρ : Env} {A B : List HA} {rest : List Oper} {d : Tmp} {ty : TypeId} {ps : String} {af : Array Edge}
theorem madeCells_same {z : Value} {k : Nat} (hk : 0 < k) (n : Nat) : madeCells (List.replicate k z).toArray n = (List.replicate n z).toArray := by
  apply Array.ext
  · simp [madeCells]
  · intro i h1 h2
    have : i % k < k := Nat.mod_lt _ hk
    simp [madeCells, this]
theorem WL.makeSame {x y : Operand} {t e : TypeId} {z z0 : Value} {bytes k m n : Nat} {k1 k2 : IntKind} (hu : X.P.underlying t = some (.slice e)) (he : ElemT X.P e z k bytes) (hz0 : z.cells = (List.replicate k z0).toArray)
    (hx : ev ρ x = some (.int k1 (m : Int))) (hy : ev ρ y = some (.int k2 (n : Int))) (hmn : m ≤ n) (hb : bytes * n ≤ 281474976710656) (h63 : n ≤ maxLen) (hd : Nat.blt d X.n = true)
    (h : ∀ b : Nat, WL X ops Q rest ((d, .slice (some ⟨b, 0, none⟩) m n) :: ρ) (.row (some ⟨b, 0, none⟩) n e k (List.replicate (n * k) z0) :: A)) :
    WL X ops Q (⟨some d, .makeSlice t x y, ty, ps, af, none⟩ :: rest) ρ A :=
  WL.stepE (fun b : Nat => .slice (some ⟨b, 0, none⟩) m n) (fun b => .row (some ⟨b, 0, none⟩) n e k (List.replicate (n * k) z0) :: A) (fun o ho _ a w f s => by
    obtain ⟨i, hi, hz, hk, hby⟩ := he.info
    have h63' : (n : Int) ≤ 9223372036854775807 := by simp only [maxLen] at h63; omega
    have hb' : (i.bytes : Int) * (n : Int) ≤ 281474976710656 := by
      have h : ((i.bytes * n : Nat) : Int) ≤ 281474976710656 := by rw [hby]; omega
      rwa [Int.natCast_mul] at h
    have hr := run_make (P := X.P) w t e i z hu hi hz k1 k2 m n (by omega) (by omega) hb' h63'
    rw [hz0, madeCells_same he.pos, Int.toNat_natCast, Int.toNat_natCast, hk] at hr
    refine ⟨w.heap.size, { w with heap := w.heap.push (.cells (List.replicate (n * k) z0).toArray e) }, ?_, s.new (Kept.alloc w _) (.inr ⟨w.heap.size, (List.replicate (n * k) z0).toArray, rfl, by simp, by simp, h63, by simp, by simp⟩) (fun b hb => ?_)⟩
    · simp only [execOp, ho, f.ev hx, f.ev hy, Sem.run_bind, hr, Result.andThen_ok, Sem.run_pure]
      rfl
    · simp only [HA.foot] at hb
      split at hb
      · cases hb
      · simp only [Option.map_some, Option.some.injEq] at hb; omega) hd h
theorem row_out {w0 w : World} {S : List Nat} {A A0 B : List HA} {a : Option Addr} {cap k : Nat} {T : TypeId} {vs : List Value} (s : St w0 S A w) (hp : A.Perm (A0 ++ B)) (hm : HA.row a cap T k vs ∈ B) : CellsOut w (A0.filterMap HA.foot) a vs := by
  have s1 := s.perm hp
  rcases s1.holds _ (List.mem_append_right _ hm) with ⟨_, h⟩ | ⟨b, cs, rfl, hc, hsz, _, hl, ht⟩
  · exact .inl h
  · by_cases h0 : cap = 0
    · subst h0
      simp only [Nat.zero_mul] at hsz
      exact .inl (List.eq_nil_of_length_eq_zero (by omega))
    · refine .inr ⟨b, 0, rfl, fun hb => ?_, fun i v hv => ?_⟩
      · have hap := s1.apart
        rw [List.filterMap_append, List.nodup_append] at hap
        exact hap.2.2 b hb b (List.mem_filterMap.2 ⟨_, hm, by simp [HA.foot, h0]⟩) rfl
      · have : cs.toList[i]? = some v := by
          rw [← ht] at hv
          rw [List.getElem?_take] at hv
          split at hv
          · exact hv
          · cases hv
        rw [Nat.zero_add]
        simp only [World.cell?, hc]
        simpa using this
theorem old_out {w0 w : World} {S : List Nat} {A A0 B : List HA} {a : Option Addr} {vs : List Value} (s : St w0 S A w) (hp : A.Perm (A0 ++ B)) (h : CellsOut w0 S a vs) : CellsOut w (A0.filterMap HA.foot) a vs :=
  h.pass s fun b hb => by
    obtain ⟨x, hx, hf⟩ := List.mem_filterMap.1 hb
    exact ⟨x, hp.mem_iff.2 (List.mem_append_left _ hx), hf⟩
theorem WL.callS3 {x1 x2 x3 : HA} {A1 A2 : List HA} {R : Value → List HA → Prop} {g : FuncId} {xs : List Operand} {ts : Array TypeId} {vs : List Value} (he : ∀ args w, (callFunc g args).run X.P w = .ok (.enter g args) w) (hx : evs ρ xs = some vs)
    (p1 : Pick x1 A A1) (p2 : Pick x2 A1 A2) (p3 : Pick x3 A2 B)
    (hc : ∀ w, St X.w0 X.S A w → A.Perm ([x1, x2, x3] ++ B) → St w ([x1, x2, x3].filterMap HA.foot) [x1, x2, x3] w → Calls X.P g vs.toArray w (GivesS ([x1, x2, x3].filterMap HA.foot) R w)) (hd : Nat.blt d X.n = true) (h : ∀ v C, R v C → WL X ops Q rest ((d, v) :: ρ) (C ++ B)) :
    WL X ops Q (⟨some d, .call { callee := .value (.func g), args := xs.toArray, argTypes := ts }, ty, ps, af, none⟩ :: rest) ρ A := by
  have hp : A.Perm ([x1, x2, x3] ++ B) := (p1.perm).trans (((p2.perm).trans ((p3.perm).cons _)).cons _)
  exact WL.callS he hx hp (fun w s s1 => hc w s hp s1) hd h
end
theorem elemBlk : ElemT Tryz.prog 151 (encB zblk) 128 128 := ElemT.of (by kernel_rfl) rfl (by decide)
def bankItems (bk : Nat) (da : Option Addr) (cap mb : Nat) (d : List (List UInt8)) (M : List (Nat × List UInt8 × Nat)) (c : Nat) : List HA :=
  [.blk bk (.cells #[.slice da d.length cap, .map (some mb)] 154 (0, 0)), .row da cap 151 128 (bs d.flatten), .blk mb (mobj encB M c)]
theorem BankAt.of {w0 : World} {S : List Nat} {A : List HA} {w : World} {bk cap mb c : Nat} {da : Option Addr} {d : List (List UInt8)} {F : Nat → Option (List UInt8)} {M : List (Nat × List UInt8 × Nat)} (hw : BkWf d F) (hcap : d.length ≤ cap) (hM : MapIs d.length F M c)
    (h1 : HA.blk bk (.cells #[.slice da d.length cap, .map (some mb)] 154 (0, 0)) ∈ A) (h2 : HA.row da cap 151 128 (bs d.flatten) ∈ A) (h3 : HA.blk mb (mobj encB M c) ∈ A) (s : St w0 S A w) : BankAt w bk da cap mb d F :=
  ⟨hw, s.holds _ h1, Rd.row (X := ⟨Tryz.prog, 0, w0, S⟩) h2 w s, hcap, M, c, s.holds _ h3, hM⟩
theorem buildBank (a : Option Addr) (n c : Nat) (m : Option Nat) (w : World) : (Instr.build 154 [(0, Value.slice a n c), (1, .map m)].toArray).run Tryz.prog w = .ok (.agg #[.slice a n c, .map m]) w := by
  simp [Instr.build, Tryz.zeroValue154, run_underlying Tryz.underlying154, Tryz.sizeOf152, Tryz.sizeOf149, Value.cells, Instr.fill]
attribute [local irreducible] WL WC WN Yl WH WQ WT WE WU
def NewV (n : Nat) : Value → List HA → Prop := fun u B => ∃ bk da cap mb, n ≤ cap ∧ u = .tuple #[bptr bk, .int .i64 0] ∧ B = bankItems bk da cap mb (List.replicate n zblk) [] 0
theorem flat_zeros (n : Nat) : bs (List.replicate n zblk).flatten = List.replicate (n * 128) (.int .u8 0) := by
  have : (List.replicate n zblk).flatten = List.replicate (n * 128) 0 := by
    induction n with
    | zero => rfl
    | succ n ih => rw [List.replicate_succ, List.flatten_cons, ih, zblk, List.replicate_append_replicate]; congr 1; omega
  rw [this]; simp [bs, bv]
theorem bnew_c (n : Nat) (w : World) (h1 : 1 ≤ n) (h2 : n ≤ 4096) : Calls Tryz.prog 55 #[.int .i64 (n : Int)] w (Gives (NewV n) w) := by
  refine enter (args := [_]) Tryz.func55 Tryz.ntmps55 rfl rfl ?_
  (repeat (first | refine WL.want rfl rfl rfl ?_ | refine WL.step (Yl.move rfl) rfl ?_ | refine WL.step (Yl.assign rfl) rfl ?_ | refine WL.step (Yl.pick_f rfl rfl rfl) rfl ?_ | (refine WL.k_bin .lss ?_; refine WL.step (Yl.lssF rfl rfl (by omega)) rfl ?_) | (refine WL.k_bin .gtr ?_; refine WL.step (Yl.gtrF rfl rfl (by omega)) rfl ?_) | refine WC.seq ?_ | refine WC.region ?_ | refine WL.nil ?_ | refine WN.then_normal ?_))
  refine WC.cond_false rfl rfl ?_
  (repeat (first | refine WL.step (Yl.move rfl) rfl ?_ | refine WC.seq ?_ | refine WC.region ?_ | refine WN.then_normal ?_ | refine WC.skip ?_))
  refine WL.makeSame (z0 := .int .u8 0) Tryz.underlying152 elemBlk rfl rfl rfl (Nat.le_refl _) (by omega) (by simp only [maxLen]; omega) rfl fun b1 => ?_
  refine WL.makeMap (enc := encB) rfl fun b2 => ?_
  (repeat (first | refine WL.step (Yl.build (ps := [(0, .tmp 11), (1, .tmp 12)]) rfl (buildBank _ _ _ _)) rfl ?_))
  refine WL.boxA rfl rfl fun b3 => ?_
  (repeat (first | refine WL.step (Yl.assign rfl) rfl ?_ | refine WL.nil ?_ | refine WN.then_normal ?_ | refine WC.ret ?_))
  exact WN.ret2 rfl rfl rfl ⟨b3, some ⟨b1, 0, none⟩, n, b2, Nat.le_refl _, rfl, by rw [bankItems, flat_zeros, List.length_replicate]⟩ (by repeat (first | exact Part.nil | refine Part.cons zK ?_ | refine Part.free ?_))
section
variable {bk cap mb : Nat} {da : Option Addr} {d : List (List UInt8)} {F : Nat → Option (List UInt8)}
def writeF (n : Nat) (F : Nat → Option (List UInt8)) (s : Int) (x : List UInt8) : Nat → Option (List UInt8) := if bchk n s = 0 ∧ x.length = 128 then setF F s.toNat (some x) else F
def writeE (n : Nat) (s : Int) (x : List UInt8) : Nat := if bchk n s = 0 then (if x.length = 128 then 0 else 2) else 3
def BankV (bk : Nat) (da : Option Addr) (cap mb : Nat) (d : List (List UInt8)) (F : Nat → Option (List UInt8)) (e : Nat) : Value → List HA → Prop := fun u B => ∃ M c, MapIs d.length F M c ∧ u = .int .i64 (e : Int) ∧ B = bankItems bk da cap mb d M c
theorem bwrite_r (a : Option Addr) (n c2 : Nat) (x : List UInt8) (s : Int) (M : List (Nat × List UInt8 × Nat)) (c : Nat) (w : World) (hwf : BkWf d F) (hcap : d.length ≤ cap) (hM : MapIs d.length F M c) (hx : x.length = n)
    (st : St w ((bankItems bk da cap mb d M c).filterMap HA.foot) (bankItems bk da cap mb d M c) w) (hr : CellsOut w ((bankItems bk da cap mb d M c).filterMap HA.foot) a (bs x)) :
    Calls Tryz.prog 90 #[bptr bk, .int .i64 s, .slice a n c2] w (GivesS ((bankItems bk da cap mb d M c).filterMap HA.foot) (BankV bk da cap mb d (writeF d.length F s x) (writeE d.length s x)) w) := by
  refine enterS (args := [.pointer (some ⟨bk, 0, none⟩), _, _]) Tryz.func90 Tryz.ntmps90 rfl rfl st ?_
  have hbank : ∀ w', St w ((bankItems bk da cap mb d M c).filterMap HA.foot) (bankItems bk da cap mb d M c) w' → BankAt w' bk da cap mb d F := fun w' s' => BankAt.of hwf hcap hM (.head _) (.tail _ (.head _)) (.tail _ (.tail _ (.head _))) s'
  generalize hS : List.filterMap HA.foot (bankItems bk da cap mb d M c) = S at *
  unfold bankItems at *
  rcases bchk_cases d.length s with ⟨hc, hs⟩ | ⟨hc, k, rfl, hk⟩
  · rw [writeF, writeE, if_neg (by rw [hc]; simp), if_neg (by rw [hc]; decide)]
    (repeat (first | refine WL.step (Yl.move rfl) rfl ?_ | refine WL.step (Yl.assign rfl) rfl ?_ | (refine WL.k_call 99 ?_; refine WL.callV (g := 99) (v := .int .i64 3) Tryz.call99 rfl (fun w s0 => by have := bcheck_c s w (hbank w s0); rwa [hc] at this) rfl ?_) | (refine WL.k_bin .neq ?_; refine WL.step (Yl.neqT rfl rfl (by decide)) rfl ?_) | refine WC.seq ?_ | refine WC.region ?_ | refine WL.nil ?_ | refine WN.then_normal ?_ | refine WC.block ?_))
    refine WC.cond_true rfl rfl ?_
    (repeat (first | refine WL.step (Yl.move rfl) rfl ?_ | refine WL.step (Yl.assign rfl) rfl ?_ | refine WC.seq ?_ | refine WC.region ?_ | refine WL.nil ?_ | refine WN.then_normal ?_ | refine WC.ret ?_ | refine WN.then_ret ?_ | refine WN.block_ret ?_))
    exact WN.ret1S rfl rfl ⟨M, c, hM, rfl, rfl⟩ (by repeat (first | exact Part.nil | refine Part.cons zK ?_ | refine Part.free ?_))
  · (repeat (first | refine WL.step (Yl.move rfl) rfl ?_ | refine WL.step (Yl.assign rfl) rfl ?_ | (refine WL.k_call 99 ?_; refine WL.callV (g := 99) (v := .int .i64 0) Tryz.call99 rfl (fun w s0 => by have := bcheck_c (k : Int) w (hbank w s0); rwa [hc] at this) rfl ?_) | (refine WL.k_bin .neq ?_; refine WL.step (Yl.neqF rfl rfl (by decide)) rfl ?_) | refine WC.seq ?_ | refine WC.region ?_ | refine WL.nil ?_ | refine WN.then_normal ?_ | refine WC.block ?_))
    refine WC.cond_false rfl rfl ?_
    by_cases hn : n = 128
    · subst hn
      rw [writeF, writeE, if_pos ⟨hc, hx⟩, if_pos hc, if_pos hx, Int.toNat_natCast]
      (repeat (first | refine WL.step (Yl.move rfl) rfl ?_ | refine WL.step (Yl.assign rfl) rfl ?_ | refine WL.step (Yl.neqF rfl rfl rfl) rfl ?_ | refine WL.step (Yl.len (t := 23) Tryz.underlying23 rfl) rfl ?_ | refine WC.seq ?_ | refine WC.region ?_ | refine WL.nil ?_ | refine WN.then_normal ?_))
      refine WC.cond_false rfl rfl ?_
      (repeat (first | refine WC.seq ?_ | refine WN.then_normal ?_ | refine WC.skip ?_ | refine WN.block_normal ?_))
      refine WC.regionH [.blk bk (.cells #[.slice da d.length cap, .map (some mb)] 154 (0, 0))] (by kernel_rfl) ?_
      (refine WH.order [0, 1, 2, 3, 4, 5, 6, 7] (by repeat (first | exact Part.nil | refine Part.cons zK ?_ | refine Part.free ?_)) (by kernel_rfl) ?_; (repeat (first | (refine WT.k_move rfl ?_; refine WT.take rfl rfl (fun _ _ _ h => h) (Yl.move rfl) rfl (by kernel_rfl) (by kernel_rfl) ?_) | (refine WT.k_load rfl ?_; first | refine WT.take rfl rfl (fun _ _ _ h => h) (Yl.loadBlk (T := 149) Tryz.isAgg149 rfl zH (by rfl)) rfl (by kernel_rfl) (by kernel_rfl) ?_ | refine WT.take rfl rfl (fun _ _ _ h => h) (Yl.loadArr (T := 151) (vs := bs x) Tryz.isAgg151 Tryz.sizeOf151 rfl (Rd.out hr) (by rw [bs_length]; exact hx) (bs_ne (i := 0) (by omega))) rfl (by kernel_rfl) (by kernel_rfl) ?_) | (refine WT.k_fld rfl ?_; refine WT.take rfl rfl (fun _ _ _ h => h) (Yl.fld0 (t := 154) Tryz.underlying154 fl154 rfl rfl) rfl (by kernel_rfl) (by kernel_rfl) ?_) | (refine WT.k_nilc rfl ?_; refine WT.take rfl rfl (fun _ _ _ h => h) (Yl.nilCheck rfl) rfl (by kernel_rfl) (by kernel_rfl) ?_) | (refine WT.k_s2a rfl ?_; refine WT.take rfl rfl (fun _ _ _ h => h) (Yl.s2a (t := 151) Tryz.underlying151 rfl (Nat.le_refl _)) rfl (by kernel_rfl) (by kernel_rfl) ?_))); refine WT.nil ?_)
      refine WH.only (i := 8) (by kernel_rfl) rfl ?_
      refine WL.mapUpdate (k := k) (enc := encB) (u := x) Tryz.underlying149 Tryz.underlying3 rfl rfl rfl hM hk zK fun M' c' hM' => ?_
      refine WL.nil (WN.nextH (by repeat (first | exact Part.nil | refine Part.cons zK ?_ | refine Part.free ?_)) ?_)
      refine WH.done (by kernel_rfl) ?_
      (repeat (first | refine WL.step (Yl.assign rfl) rfl ?_ | refine WC.seq ?_ | refine WC.region ?_ | refine WL.nil ?_ | refine WN.then_normal ?_ | refine WC.ret ?_))
      exact WN.ret1S rfl rfl ⟨M', c', hM', rfl, rfl⟩ (by repeat (first | exact Part.nil | refine Part.cons zK ?_ | refine Part.free ?_))
    · rw [writeF, writeE, if_neg (by omega), if_pos hc, if_neg (by omega)]
      (repeat (first | refine WL.step (Yl.move rfl) rfl ?_ | refine WL.step (Yl.assign rfl) rfl ?_ | (refine WL.k_bin .neq ?_; refine WL.step (Yl.neqT rfl rfl (by omega)) rfl ?_) | refine WL.step (Yl.len (t := 23) Tryz.underlying23 rfl) rfl ?_ | refine WC.seq ?_ | refine WC.region ?_ | refine WL.nil ?_ | refine WN.then_normal ?_))
      refine WC.cond_true rfl rfl ?_
      (repeat (first | refine WL.step (Yl.assign rfl) rfl ?_ | refine WC.seq ?_ | refine WC.region ?_ | refine WL.nil ?_ | refine WN.then_normal ?_ | refine WC.ret ?_ | refine WN.then_ret ?_ | refine WN.block_ret ?_))
      exact WN.ret1S rfl rfl ⟨M, c, hM, rfl, rfl⟩ (by repeat (first | exact Part.nil | refine Part.cons zK ?_ | refine Part.free ?_))
end
end Go.Proofs.YtbkdjfgkebkknaaGreatDoor
namespace Go.Proofs.YtbkdjfgkebkknaaGreatDoor
set_option linter.unusedVariables false
set_option linter.unusedSimpArgs false
open Go Go.RowKit
def endI (P : Program) (fn : Func) (R : Ending → World → Prop) : Exit → Act → World → Prop
  | .normal, a, w | .ret, a, w => a.defers = [] ∧ ∃ v, (results fn a.tmps).run P w = .ok v w ∧ R (.returned v) w
  | _, _, _ => False
theorem enterI {P : Program} {g : FuncId} {fn : Func} {c : Code} {args : List Value} {w : World} {R : Ending → World → Prop} {n m : Nat} (hf : P.funcs[g]? = some fn) (hn : fn.ntmps = n) (hb : fn.body = some c) (hl : Nat.ble args.length n = true)
    (h : WG ⟨P, n, w, []⟩ none [] c (endI P fn R) (argEnv 0 args) []) : CallsIn (fence none) m P g args.toArray w R := by
  have hle : args.length ≤ n := Nat.le_of_ble_eq_true hl
  refine callsIn_of_wp hf hb trivial ?_ rfl
  have h1 := h { tmps := args.toArray ++ Array.replicate (fn.ntmps - args.toArray.size) undef, defers := [] } w ⟨?_, rfl, fun t v ht => ?_⟩ (St.start w)
  rw [sd_nil rfl] at h1
  refine wpIn_mono (Q := endI P fn R) (wpIn_any h1) fun e a w hq => ?_
  rotate_left
  · simp [hn]; omega
  · obtain ⟨j, hj, hv⟩ := lk_argEnv args 0 t v ht
    have hj' : t = j := by omega
    subst hj'
    have hlt : t < args.length := (List.getElem?_eq_some_iff.1 hv).1
    have h2 : args[t] = v := (List.getElem?_eq_some_iff.1 hv).2
    simp [Array.getD_eq_getD_getElem?, Array.getElem?_append, hlt, h2]
  cases e with
  | normal => exact hq
  | ret => exact hq
  | _ => exact hq.elim
theorem WN.iend {P : Program} {fn : Func} {R : Ending → World → Prop} {n : Nat} {w0 : World} {S : List Nat} {ρ : Env} {A : List HA} (hr : fn.results = #[]) (h : ∀ w, St w0 S A w → R (.returned (.tuple #[])) w) :
    WN ⟨P, n, w0, S⟩ (Post [] (endI P fn R)) .normal ρ A := fun a w f s => ⟨by simp [sd, f.defers], _, results_none hr _ _ _, h w s⟩
theorem WN.iret {P : Program} {fn : Func} {R : Ending → World → Prop} {n : Nat} {w0 : World} {S : List Nat} {ρ : Env} {A : List HA} (hr : fn.results = #[]) (h : ∀ w, St w0 S A w → R (.returned (.tuple #[])) w) :
    WN ⟨P, n, w0, S⟩ (Post [] (endI P fn R)) .ret ρ A := fun a w f s => ⟨by simp [sd, f.defers], _, results_none hr _ _ _, h w s⟩
section
variable {X : Cx} {Q : Exit → Act → World → Prop} {ρ : Env} {A : List HA} {ds : List Deferred}
theorem WG.yield {l m : Nat} {v : Value} {x0 x1 : Operand} {t0 t1 t2 t3 ty0 ty1 ty2 ty3 tb : Nat} {p0 p1 p2 p3 : String} {a0 a1 a2 a3 : Array Edge} {ts : Array TypeId} {id : Nat} {R : Ending → World → Prop}
    (h0 : ev ρ x0 = some (.func (.yield l) #[] #[])) (h1 : ev ρ x1 = some v) (n01 : Nat.beq t0 t1 = false) (hx1 : ∀ u, ev ((t0, u) :: ρ) x1 = ev ρ x1)
    (d0 : Nat.blt t0 X.n = true) (d1 : Nat.blt t1 X.n = true) (d2 : Nat.blt t2 X.n = true) (d3 : Nat.blt t3 X.n = true)
    (hy : ∀ w, St X.w0 X.S A w → YieldAt (fence none) m X.P l #[v] w R)
    (hR : ∀ e w, R e w → ∃ b, e = .returned (.bool b))
    (h : ∀ b a w, R (.returned (.bool b)) w → Fr X.n ((t3, .bool (!b)) :: ρ) a → Q .normal (sd ds a) w) (hfresh : ∀ u0 u1 u2 u3, Sub ((t3, u3) :: (t2, u2) :: (t1, u1) :: (t0, u0) :: ρ) ((t3, u3) :: ρ)) :
    WG X none ds (.region id [⟨some t0, .move x0, ty0, p0, a0, none⟩, ⟨some t1, .move x1, ty1, p1, a1, none⟩, ⟨some t2, .call { callee := .value (.tmp t0), args := [Operand.tmp t1].toArray, argTypes := ts }, ty2, p2, a2, none⟩,
      ⟨some t3, .unOp .not tb (.tmp t2), ty3, p3, a3, none⟩].toArray false) Q ρ A := fun a w f s => by
  refine wpIn_region_lit ?_
  have e0 : a.eval x0 = .func (.yield l) #[] #[] := f.ev h0
  have f1 := f.put (blt_lt d0) (Value.func (.yield l) #[] #[])
  have e1 : (a.put (some t0) (.func (.yield l) #[] #[])).eval x1 = v := f1.ev (by rw [hx1, h1])
  have f2 := f1.put (blt_lt d1) v
  have l0 : ((a.put (some t0) (.func (.yield l) #[] #[])).put (some t1) v).eval (.tmp t0) = .func (.yield l) #[] #[] := f2.ev (x := .tmp t0) (by
    have n10 : Nat.beq t1 t0 = false := by
      cases e : Nat.beq t1 t0 with
      | false => rfl
      | true => have := Nat.eq_of_beq_eq_true e; subst this; rw [Nat.beq_refl] at n01; cases n01
    show lk _ t0 = _
    simp only [lk, n10, Nat.beq_refl]; rfl)
  have l1 : ((a.put (some t0) (.func (.yield l) #[] #[])).put (some t1) v).eval (.tmp t1) = v := f2.ev (x := .tmp t1) (by show lk _ t1 = _; simp only [lk, Nat.beq_refl]; rfl)
  obtain ⟨fn, tmps, assign, body, hrun, hround⟩ := hy w s
  refine wpListIn_plain rfl fun K hK => ⟨fun _ _ => trivial, ?_⟩
  have q0 : (Oper.semAt (fence none).round (sd ds a).eval ⟨some t0, .move x0, ty0, p0, a0, none⟩).run X.P w = .ok (.value (.func (.yield l) #[] #[])) w := by
    rw [Oper.semAt_eq _ _ _ (fun c e => by cases e)]
    show (execOp a.eval _).run X.P w = _
    simp [execOp, e0]
  rw [q0, Oper.uponIn_value, ← sd_put]
  refine hK _ _ (wpListIn_plain rfl fun K hK => ⟨fun _ _ => trivial, ?_⟩)
  have q1 : (Oper.semAt (fence none).round (sd ds (a.put (some t0) (.func (.yield l) #[] #[]))).eval ⟨some t1, .move x1, ty1, p1, a1, none⟩).run X.P w = .ok (.value v) w := by
    rw [Oper.semAt_eq _ _ _ (fun c e => by cases e)]
    show (execOp (a.put (some t0) (.func (.yield l) #[] #[])).eval _).run X.P w = _
    simp [execOp, e1]
  rw [q1, Oper.uponIn_value, ← sd_put]
  refine hK _ _ (wpListIn_plain rfl fun K hK => ⟨fun _ _ => trivial, ?_⟩)
  have q2 : (Oper.semAt (fence none).round (sd ds ((a.put (some t0) (.func (.yield l) #[] #[])).put (some t1) v)).eval ⟨some t2, .call { callee := .value (.tmp t0), args := [Operand.tmp t1].toArray, argTypes := ts }, ty2, p2, a2, none⟩).run X.P w = .ok (.round l fn tmps assign body) w := by
    rw [Oper.semAt_eq _ _ _ (fun c e => by cases e)]
    show (execOp ((a.put (some t0) (.func (.yield l) #[] #[])).put (some t1) v).eval _).run X.P w = _
    simp [execOp, resolve, Deferred.ofValue, l0, l1, invoke, hrun]
  rw [q2, Oper.uponIn_round]
  refine ⟨fun hd => (by cases hd), ?_⟩
  have hround' : RoundIn (fence none) (0 - 1) X.P l fn tmps assign body w R := ⟨hround.1, fun c cs _ => hround.2 c cs (room_fence _ _)⟩
  refine hround'.mono fun e w' hr => ?_
  obtain ⟨b, rfl⟩ := hR e w' hr
  simp only
  rw [← sd_put]
  have f3 := f2.put (blt_lt d2) (Value.bool b)
  refine hK _ _ (wpListIn_plain rfl fun K hK => ⟨fun _ _ => trivial, ?_⟩)
  have l2 : (((a.put (some t0) (.func (.yield l) #[] #[])).put (some t1) v).put (some t2) (.bool b)).eval (.tmp t2) = .bool b := f3.ev (x := .tmp t2) (by show lk _ t2 = _; simp only [lk, Nat.beq_refl]; rfl)
  have q3 : (Oper.semAt (fence none).round (sd ds (((a.put (some t0) (.func (.yield l) #[] #[])).put (some t1) v).put (some t2) (.bool b))).eval ⟨some t3, .unOp .not tb (.tmp t2), ty3, p3, a3, none⟩).run X.P w' = .ok (.value (.bool (!b))) w' := by
    rw [Oper.semAt_eq _ _ _ (fun c e => by cases e)]
    show (execOp (((a.put (some t0) (.func (.yield l) #[] #[])).put (some t1) v).put (some t2) (.bool b)).eval _).run X.P w' = _
    have hn : (Op.unary .not (.bool b)).run X.P w' = .ok (.bool (!b)) w' := by simp [Op.unary]
    simp [execOp, l2, hn]
  rw [q3, Oper.uponIn_value, ← sd_put]
  exact hK _ _ (wpListIn_nil (h b _ w' hr ((f3.put (blt_lt d3) (.bool (!b))).of_sub (hfresh _ _ _ _))))
end
end Go.Proofs.YtbkdjfgkebkknaaGreatDoor
