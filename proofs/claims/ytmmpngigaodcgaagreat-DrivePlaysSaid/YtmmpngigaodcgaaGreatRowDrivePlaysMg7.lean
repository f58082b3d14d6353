import Derived.Test.YtmmpngigaodcgaaGreatRowDrivePlaysMg1
import Derived.Test.YtmmpngigaodcgaaGreatRowDrivePlaysMg5
import Derived.Test.YtmmpngigaodcgaaGreatRowDrivePlaysMg6
import Derived.Test.YtmmpngigaodcgaaGreatRowDrivePlaysMg4
import Derived.Test.YtmmpngigaodcgaaGreatRowDrivePlaysMg3
import Derived.Test.YtmmpngigaodcgaaGreatProg
/- The keys of a map in their order: maps.Keys and slices.Sorted, by the kit's contracts. -/
namespace Go.Proofs.YtmmpngigaodcgaaGreat
set_option linter.unusedVariables false
set_option linter.unusedSimpArgs false
open Go Go.RowKit Go.Shelf
set_option maxRecDepth 100000
set_option maxHeartbeats 4000000
def ncells (l : List Nat) : List Value := l.map fun (k : Nat) => Value.int .i64 (k : Int)
theorem ncells_len (l : List Nat) : (ncells l).length = l.length := List.length_map _
theorem ncells_at {l : List Nat} {i : Nat} (h : i < l.length) : (ncells l)[i]? = some (.int .i64 ((l.getD i 0 : Nat) : Int)) := by simp [ncells, List.getD, h]
theorem sorts_all (m : Nat) : AnyZI.SortsIn Tryz.prog sortedL_ren Fence.wide m :=
  ⟨fun blk off cap ss W hH hblk hsz => callsIn_wide.2 (AnyM.slices_Sort_int sortL blk off cap ss W hH hblk hsz),
   fun p cap W => callsIn_wide.2 (AnyM.slices_Sort_int_none sortL p cap W)⟩
section
variable {β : Type} {n c : Nat} {F : Nat → Option β} {M : List (Nat × β × Nat)} {enc : β → Value}
theorem rd_ment {P : Program} {K : TypeId} (hK : P.underlying K = some (.int .i64)) {x : Nat × β × Nat} (hx : x.1 < 1000000) :
    Go.WideElems.rd (H := Unit) P K (fun _ => some (DataW.nil, [])) (ment enc x) = some (Lit.int .i64 (x.1 : Int), DataW.nil) := by
  have hw : (Lit.int .i64 (x.1 : Int)).wf = true := by
    simp only [Lit.wf, Bool.and_eq_true, decide_eq_true_eq]
    have e1 : IntKind.i64.min = -9223372036854775808 := by decide
    have e2 : IntKind.i64.max = 9223372036854775807 := by decide
    rw [e1, e2]; omega
  simp [Go.WideElems.rd, ment, Maps.keyOf_int_mk hK hw]
theorem MapIs.owns {P : Program} {K : TypeId} (hK : P.underlying K = some (.int .i64)) (h : MapIs n F M c) (hn : n ≤ 1000000) {w : World} {b : Nat} (hb : w.heap[b]? = some (mobj enc M c)) :
    ∃ D : DataW Unit, w.ownsMap P K (fun _ => some (DataW.nil, [])) b M.length D ∧ (intKeys D).Perm (M.map fun x => (x.1 : Int)) ∧ Maps.size D = M.length := by
  have hc := h.count
  have hrd : ∀ x ∈ M, Go.WideElems.rd (H := Unit) P K (fun _ => some (DataW.nil, [])) (ment enc x) = some (Lit.int .i64 (x.1 : Int), DataW.nil) := fun x hx => rd_ment hK (by have := h.low x hx; omega)
  have hperm := WideShapes.sorted_perm ((M.map (ment enc)).toArray.toList.map (Go.WideElems.rg (H := Unit) P K (fun _ => some (DataW.nil, []))))
  have he : (M.map (ment enc)).toArray.toList.map (Go.WideElems.rg (H := Unit) P K (fun _ => some (DataW.nil, []))) = M.map fun x => (Lit.int .i64 (x.1 : Int), DataW.nil) := by
    rw [List.map_map]
    refine List.map_congr_left fun x hx => ?_
    simp [Go.WideElems.rg, hrd x hx]
  refine ⟨_, ⟨_, _, hb, ⟨by simp [maxLen]; omega, ⟨?_, ?_, ?_⟩, ?_⟩, by simp, rfl⟩, ?_, ?_⟩
  · intro e hx
    simp only [List.toList_toArray, List.mem_map] at hx
    obtain ⟨x, hx, rfl⟩ := hx
    exact h.born x hx
  · have : ((M.map (ment enc)).toArray.toList.map (·.born)) = M.map (·.2.2) := by rw [List.map_map]; rfl
    rw [this]; exact h.borns
  · have : ((M.map (ment enc)).toArray.toList.map (·.key)) = (M.map (·.1)).map fun (k : Nat) => Value.int .i64 (k : Int) := by rw [List.map_map, List.map_map]; rfl
    rw [this]
    exact List.Pairwise.map _ (fun a b hab e => hab (by simp at e; omega)) h.keys
  · intro e hx
    simp only [List.toList_toArray, List.mem_map] at hx
    obtain ⟨x, hx, rfl⟩ := hx
    exact ⟨_, hrd x hx⟩
  · have := hperm.map fun p => Go.intOf p.1
    rw [he, List.map_map] at this
    simp only [intKeys]
    rw [he]
    exact this
  · show (List.foldr DataW.insert [] _).length = _
    rw [hperm.length_eq]; simp
end
theorem gives_row {P : Program} {w w' : World} {v : Value} {T : TypeId} {m : Nat} {xs : List Value} (h : w'.ownsRow w.heap.size T 1 v m xs) (hb : Below w.heap.size w w') : Gives (NewRow id T 1 m xs) w (.returned v) w' := by
  obtain ⟨hl, ⟨rfl, rfl⟩ | ⟨g, cap, cur, rfl, hg, hc, h1, h2, h3, h4⟩⟩ := h
  · obtain rfl : xs = [] := List.eq_nil_of_length_eq_zero (by omega)
    exact ⟨_, _, rfl, ⟨none, 0, Nat.le_refl _, rfl, rfl⟩, ⟨Kept.of_below hb, fun x hx => by simp at hx; subst hx; exact .inl ⟨rfl, rfl⟩, by simp [HA.foot], fun x hx b hb => by simp at hx; subst hx; simp [HA.foot] at hb⟩⟩
  · refine ⟨_, _, rfl, ⟨some ⟨g, 0, none⟩, cap, h1, rfl, rfl⟩, ⟨Kept.of_below hb, fun x hx => ?_, ?_, fun x hx b hb => ?_⟩⟩
    · simp at hx; subst hx
      exact .inr ⟨g, cur, rfl, hc, h3, h2, by rw [h3]; have : m * 1 ≤ cap * 1 := Nat.mul_le_mul_right 1 h1; omega, by rw [hl]; exact h4⟩
    · simp only [List.filterMap_cons, List.filterMap_nil, HA.foot]; split <;> simp
    · simp at hx; subst hx
      simp only [HA.foot] at hb
      split at hb
      · cases hb
      · simp only [Option.map_some, Option.some.injEq] at hb; subst hb; exact .inr hg
def KeysV (mb : Nat) : Value → List HA → Prop := fun u B => ∃ bx, u = .func (.func 89) #[] #[.pointer (some ⟨bx, 0, none⟩)] ∧ B = [.blk bx (.cells #[.map (some mb)] 74 (0, 0))]
theorem keys_c (mb : Nat) (w : World) : Calls Tryz.prog 85 #[.map (some mb)] w (Gives (KeysV mb) w) := by
  have h : CallsIn Fence.wide 5 Tryz.prog 85 #[.map (some mb)] w fun e w' => e = .returned (.func (.func 89) #[] #[.pointer (some ⟨w.heap.size, 0, none⟩)]) ∧ w' = w.alloc (.cells #[.map (some mb)] 74) := AnyZI.keys_in keysL Fence.wide 5 trivial rfl (some mb) w
  refine ((callsIn_wide (n := 5)).1 h).mono ?_
  rintro e w' ⟨rfl, rfl⟩
  exact ⟨_, _, rfl, ⟨_, rfl, rfl⟩, (St.start w).alloc _⟩
theorem sorted_c {β : Type} {enc : β → Value} {n c : Nat} {F : Nat → Option β} {M : List (Nat × β × Nat)} (bx mb : Nat) (w : World) (h : MapIs n F M c) (hn : n ≤ 1000000)
    (hbx : w.heap[bx]? = some (.cells #[.map (some mb)] 74 (0, 0))) (hmb : w.heap[mb]? = some (mobj enc M c)) :
    Calls Tryz.prog 84 #[.func (.func 89) #[] #[.pointer (some ⟨bx, 0, none⟩)]] w (Gives (NewRow id 3 1 (dirtyOf n F).length (ncells (dirtyOf n F))) w) := by
  obtain ⟨D, hown, hperm, hsize⟩ := h.owns (P := Tryz.prog) (K := 3) Tryz.underlying3 hn hmb
  have hc := h.count
  have hseq : SeqGives Fence.wide 2 Tryz.prog 89 #[.pointer (some ⟨bx, 0, none⟩)] encZ (fun ss => ss.Perm (intKeys D)) (Maps.size D) w :=
    AnyZI.keys_gives (ρ := keysL_ren) { keysL with } Fence.wide _ trivial rfl (by omega) bx mb M.length D _ (lt_of_heap hbx) (by simp [World.cell?, hbx]) hown
  have cS := AnyZI.sorted_in sortedL Fence.wide 5 trivial trivial trivial trivial rfl (by omega) (sorts_all _) (enters_of Tryz.func88 (by kernel_rfl) rfl) 89 #[.pointer (some ⟨bx, 0, none⟩)] trivial (enters_of Tryz.func89 (by kernel_rfl) rfl) _ _ (by rw [hsize]; simp only [maxLen]; omega) (by rw [hsize]; omega) _ hseq
  refine ((callsIn_wide (n := 5)).1 cS).mono ?_
  rintro e w' ⟨v, ss, rfl, hS, hrow, _, hb⟩
  have hs := h.sorted (hS.trans hperm)
  have hl : ss.length = (dirtyOf n F).length := by
    have := congrArg List.length hs
    rwa [List.length_mergeSort, List.length_map] at this
  rw [hs, hl, List.map_map] at hrow
  exact gives_row (P := Tryz.prog) (T := 3) (xs := ncells (dirtyOf n F)) hrow hb
end Go.Proofs.YtmmpngigaodcgaaGreat
/- A slice as an array; arrays read off slices. -/
namespace Go.Proofs.YtmmpngigaodcgaaGreat
set_option linter.unusedVariables false
set_option linter.unusedSimpArgs false
open Go Go.RowKit
section
variable {X : Cx} {ρ : Env} {A : List HA} {ty : TypeId}
theorem Yl.s2a {x : Operand} {t e : TypeId} {n len cap : Nat} {a : Option Addr} (hu : X.P.underlying t = some (.array n e)) (hx : ev ρ x = some (.slice a len cap)) (h : n ≤ len) : Yl X (.sliceToArrayPointer t x) ty ρ A (.pointer a) := fun o ho _ ac w f _ => by
  have h2 : ¬ len < n := by omega
  simp [execOp, ho, f.ev hx, Instr.arrayAt, run_underlying hu, h2]
theorem Yl.loadArr {x : Operand} {T : TypeId} {k : Nat} {a : Option Addr} {vs : List Value} (hg : ∀ w, (isAgg T).run X.P w = .ok true w) (hk : ∀ w, (sizeOf T).run X.P w = .ok k w) (hx : ev ρ x = some (.pointer a)) (hr : Rd X A a vs) (hl : vs.length = k) (hne : vs ≠ []) :
    Yl X (.load T x) ty ρ A (.agg vs.toArray) := fun o ho _ ac w f s => by
  obtain ⟨ad, rfl⟩ := hr.some_ hne s
  have hc : ∀ i u, vs[i]? = some u → w.cell? (ad.add i) = some u := fun i u hu => by
    obtain ⟨ad2, h2, h3⟩ := hr.at_ hu s
    rw [el, Option.map_some] at h2
    rwa [← Option.some.inj h2] at h3
  have hl' := run_loadCells_list (P := X.P) w ad vs hc
  rw [hl] at hl'
  simp [execOp, ho, f.ev hx, Instr.loadAt, Instr.sureAddr, loadVar, hg, hk, hl']
end
end Go.Proofs.YtmmpngigaodcgaaGreat
/- Bytes: what the library's Clone and Equal give; the number of a number's bits. -/
namespace Go.Proofs.YtmmpngigaodcgaaGreat
set_option linter.unusedVariables false
set_option linter.unusedSimpArgs false
open Go Go.RowKit
set_option maxHeartbeats 4000000
set_option maxRecDepth 100000
attribute [local irreducible] WL WC WN Yl WH WQ WT
theorem elemU8 : ElemT Tryz.prog 5 (.int .u8 0) 1 1 := ElemT.of (by kernel_rfl) rfl (by decide)
theorem bequal_c (a b : Option Addr) (n m c1 c2 : Nat) (l k : List UInt8) (w : World) (hl : l.length = n) (hk : k.length = m) (hr : CellsAt w a (bs l)) (hr2 : CellsAt w b (bs k)) :
    Calls Tryz.prog 15 #[.slice a n c1, .slice b m c2] w (Gives (Val (.bool (decide (l = k)))) w) := by
  refine enter (args := [_, _]) Tryz.func15 Tryz.ntmps15 rfl rfl ?_
  (repeat (first | (refine WL.k_move ?_; first | refine WL.step (Yl.move rfl) rfl ?_) | (refine WL.k_assign ?_; first | refine WL.step (Yl.assign rfl) rfl ?_) | (refine WL.k_bin .eql ?_; first | refine WL.step (Yl.eqNil (t := 38) Tryz.underlying38 rfl) rfl ?_ | refine WL.step (Yl.strEql rfl rfl) rfl ?_ | refine WL.step (Yl.eql rfl rfl) rfl ?_) | refine WC.seq ?_ | refine WC.region ?_ | refine WL.nil ?_ | refine WN.then_normal ?_ | refine WC.skip ?_ | refine WC.ret ?_ | refine WN.then_ret ?_))
  refine WL.step (Yl.toStr (l := l) Tryz.underlying38 Tryz.underlying5 Tryz.underlying9 rfl (.old hr) hl) rfl ?_
  (repeat (first | (refine WL.k_move ?_; first | refine WL.step (Yl.move rfl) rfl ?_) | (refine WL.k_assign ?_; first | refine WL.step (Yl.assign rfl) rfl ?_) | (refine WL.k_bin .eql ?_; first | refine WL.step (Yl.eqNil (t := 38) Tryz.underlying38 rfl) rfl ?_ | refine WL.step (Yl.strEql rfl rfl) rfl ?_ | refine WL.step (Yl.eql rfl rfl) rfl ?_) | refine WC.seq ?_ | refine WC.region ?_ | refine WL.nil ?_ | refine WN.then_normal ?_ | refine WC.skip ?_ | refine WC.ret ?_ | refine WN.then_ret ?_))
  refine WL.step (Yl.toStr (l := k) Tryz.underlying38 Tryz.underlying5 Tryz.underlying9 rfl (.old hr2) hk) rfl ?_
  (repeat (first | (refine WL.k_move ?_; first | refine WL.step (Yl.move rfl) rfl ?_) | (refine WL.k_assign ?_; first | refine WL.step (Yl.assign rfl) rfl ?_) | (refine WL.k_bin .eql ?_; first | refine WL.step (Yl.eqNil (t := 38) Tryz.underlying38 rfl) rfl ?_ | refine WL.step (Yl.strEql rfl rfl) rfl ?_ | refine WL.step (Yl.eql rfl rfl) rfl ?_) | refine WC.seq ?_ | refine WC.region ?_ | refine WL.nil ?_ | refine WN.then_normal ?_ | refine WC.skip ?_ | refine WC.ret ?_ | refine WN.then_ret ?_))
  exact WN.ret1 rfl rfl ⟨rfl, rfl⟩ .nil
section
variable {X : Cx} {ρ : Env} {A : List HA} {ty : TypeId}
theorem Yl.indexStrF {x y : Operand} {t : TypeId} {l : List UInt8} {f : Nat → Nat} {b j : Nat} {ik : IntKind} (hu : X.P.underlying t = some .string) (hx : ev ρ x = some (.string ⟨l.toArray⟩)) (hy : ev ρ y = some (.int ik (j : Int)))
    (hf : ∀ i, i < b → (l.getD i 0).toNat = f i ∧ i < l.length) (hj : j < b) : Yl X (.index t x y) ty ρ A (.int .u8 ((f j : Nat) : Int)) := Yl.intro fun o ho _ ac w fr _ => by
  obtain ⟨h1, h2⟩ := hf j hj
  have hg : (⟨l.toArray⟩ : ByteArray)[j]? = some l[j] := by
    show (if h : j < (⟨l.toArray⟩ : ByteArray).size then some _ else none) = _
    rw [dif_pos (by simpa [ByteArray.size] using h2)]
    rfl
  rw [← h1]
  simp [execOp, ho, fr.ev hx, fr.ev hy, Instr.index, asIntOf, run_underlying hu, hg, List.getD, h2]
theorem Yl.mulC {x : Operand} {t u : TypeId} {k : IntKind} {m c : Nat} (hk : k.signed = false) (hx : ev ρ x = some (.int k (m : Int))) :
    Yl X (.binOp .mul t x (.const (.int k (OfNat.ofNat c))) u) ty ρ A (.int k (((m * (OfNat.ofNat c)) % 2 ^ k.bits : Nat) : Int)) := Yl.mulN hk hx rfl
theorem Yl.max2N {x y : Operand} {ts : Array TypeId} {k : IntKind} {m n : Nat} (hx : ev ρ x = some (.int k (m : Int))) (hy : ev ρ y = some (.int k (n : Int))) :
    Yl X (.call { callee := .builtin .max, args := #[x, y], argTypes := ts }) ty ρ A (.int k ((max m n : Nat) : Int)) := Yl.intro fun o ho _ a w f _ => by
  simp [execOp, ho, resolve, invoke, builtin, f.ev hx, f.ev hy, run_max_int2]
  split <;> omega
end
end Go.Proofs.YtmmpngigaodcgaaGreat
/- Banks of sectors: what they are in memory; which operations read them. -/
namespace Go.Proofs.YtmmpngigaodcgaaGreat
set_option linter.unusedVariables false
set_option linter.unusedSimpArgs false
open Go Go.RowKit
set_option maxRecDepth 100000
set_option maxHeartbeats 4000000
theorem fl76 : flatT Tryz.prog 76 = true := by kernel_rfl
def encB (v : List UInt8) : Value := .agg (bs v).toArray
def zblk : List UInt8 := List.replicate 128 0
theorem zeroBlk (w : World) : (zeroValue 83).run Tryz.prog w = .ok (encB zblk) w := by
  have h : (Tryz.prog.info? 83).map (fun i => i.zero) = some (some (.agg (bs zblk).toArray)) := by kernel_rfl
  exact zero_of h w
structure BkWf (d : List (List UInt8)) (F : Nat → Option (List UInt8)) : Prop where
  pos : 0 < d.length
  le : d.length ≤ 4096
  len : ∀ x ∈ d, x.length = 128
  val : ∀ k v, F k = some v → v.length = 128
structure BankAt (w : World) (bk : Nat) (da : Option Addr) (cap mb : Nat) (d : List (List UInt8)) (F : Nat → Option (List UInt8)) : Prop where
  wf : BkWf d F
  blk : w.heap[bk]? = some (.cells #[.slice da d.length cap, .map (some mb)] 76 (0, 0))
  row : CellsAt w da (bs d.flatten)
  cap : d.length ≤ cap
  map : ∃ M c, w.heap[mb]? = some (mobj encB M c) ∧ MapIs d.length F M c
def bptr (bk : Nat) : Value := .pointer (some ⟨bk, 0, none⟩)
theorem bchunk {α β : Type} {f : α → List β} {k : Nat} : ∀ {l : List α} {i : Nat} {x : α}, (∀ y ∈ l, (f y).length = k) → l[i]? = some x → ((l.flatMap f).drop (i * k)).take k = f x
  | [], _, _, _, h => by simp at h
  | y :: l, 0, x, hk, h => by
    obtain rfl : y = x := by simpa using h
    rw [Nat.zero_mul, List.drop_zero, List.flatMap_cons, ← hk y (.head _), List.take_left]
  | y :: l, i + 1, x, hk, h => by
    have e : (i + 1) * k = (f y).length + i * k := by rw [hk y (.head _), Nat.add_mul]; omega
    rw [List.flatMap_cons, e, ← List.drop_drop, List.drop_left]
    exact bchunk (fun z hz => hk z (.tail _ hz)) (by simpa using h)
theorem ball (l : List UInt8) : (bs l).toArray.toList.all Value.oneCell' = true := List.all_eq_true.2 fun u hu => bs_one l u (by simpa using hu)
theorem bsize {l : List UInt8} {n : Nat} (h : l.length = n) : Nat.beq (bs l).toArray.size n = true := by rw [List.size_toArray, bs_length, h]; exact Nat.beq_refl n
theorem flat_get {d : List (List UInt8)} (hd : ∀ x ∈ d, x.length = 128) {i : Nat} (h : i < d.length) : ((bs d.flatten).drop (i * 128)).take (bs (d.getD i [])).length = bs (d.getD i []) := by
  have e : d[i]? = some (d.getD i []) := by simp [List.getD, h]
  have hl := hd _ (List.mem_of_getElem? e)
  have := bchunk (f := fun x : List UInt8 => bs x) (k := 128) (l := d) (fun x hx => by rw [bs_length]; exact hd x hx) e
  rw [bs_length, hl]
  rw [show bs d.flatten = d.flatMap fun x => bs x by simp [bs, List.map_flatten, List.flatMap]]
  exact this
theorem blk_mem {d : List (List UInt8)} {i : Nat} (h : i < d.length) : d.getD i [] ∈ d := List.mem_of_getElem? (by simp [List.getD, h] : d[i]? = some (d.getD i []))
theorem flat_len128 {d : List (List UInt8)} (hd : ∀ x ∈ d, x.length = 128) : (bs d.flatten).length = d.length * 128 := by
  rw [bs_length, List.length_flatten, List.map_congr_left (g := fun _ => 128) (fun x hx => hd x hx)]
  induction d with
  | nil => rfl
  | cons x d ih => simp only [List.map_cons, List.sum_cons, List.length_cons, ih (fun y hy => hd y (.tail _ hy))]; omega
theorem flat_ne {d : List (List UInt8)} (hd : ∀ x ∈ d, x.length = 128) (h : 0 < d.length) : bs d.flatten ≠ [] := fun e => by
  have := flat_len128 hd
  rw [e] at this; simp at this; omega
attribute [local irreducible] WL WC WN Yl WH WQ WT WE WU
/-- No bank, or one that was not made by New. -/
inductive BadAt (w : World) : Value → Prop
  | none : BadAt w (.pointer none)
  | zero (bk : Nat) : w.heap[bk]? = some (.cells #[.slice none 0 0, .map none] 76 (0, 0)) → BadAt w (bptr bk)
theorem valid_c {bk n cap : Nat} {da : Option Addr} {mv : Value} (w : World) (hb : w.heap[bk]? = some (.cells #[.slice da n cap, mv] 76 (0, 0))) :
    Calls Tryz.prog 72 #[bptr bk] w (Gives (Val (.bool (decide (0 < n)))) w) := by
  refine enter (args := [.pointer (some ⟨bk, 0, none⟩)]) Tryz.func72 Tryz.ntmps72 rfl rfl ?_
  (repeat (first | refine WL.want rfl rfl rfl ?_ | refine WL.step (Yl.move rfl) rfl ?_ | refine WL.step (Yl.assign rfl) rfl ?_ | refine WL.step (Yl.loadH Tryz.isAgg73 rfl (Has.old hb) rfl) rfl ?_ | refine WL.step (Yl.fld0 (t := 76) Tryz.underlying76 fl76 rfl rfl) rfl ?_ | refine WL.step (Yl.pick_t rfl rfl rfl) rfl ?_ | (refine WL.k_bin .neq ?_; refine WL.step (Yl.neqPN (by kernel_rfl) rfl) rfl ?_) | refine WL.step (Yl.nilCheck rfl) rfl ?_ | refine WL.step (Yl.len (t := 73) Tryz.underlying73 rfl) rfl ?_ | refine WL.step (Yl.gtr rfl rfl) rfl ?_ | refine WC.seq ?_ | refine WC.region ?_ | refine WL.nil ?_ | refine WN.then_normal ?_ | refine WC.ret ?_))
  exact WN.ret1 rfl rfl ⟨by rw [show decide (0 < n) = decide ((0 : Int) < (n : Int)) from decide_eq_decide.2 (by omega)], rfl⟩ .nil
theorem valid_n (w : World) : Calls Tryz.prog 72 #[.pointer none] w (Gives (Val (.bool false)) w) := by
  refine enter (args := [.pointer none]) Tryz.func72 Tryz.ntmps72 rfl rfl ?_
  (repeat (first | refine WL.pass rfl rfl rfl rfl ?_ | refine WL.step (Yl.move rfl) rfl ?_ | refine WL.step (Yl.assign rfl) rfl ?_ | refine WL.step (Yl.pick_f rfl rfl rfl) rfl ?_ | (refine WL.k_bin .neq ?_; refine WL.step (Yl.neqPN (by kernel_rfl) rfl) rfl ?_) | refine WC.seq ?_ | refine WC.region ?_ | refine WL.nil ?_ | refine WN.then_normal ?_ | refine WC.ret ?_))
  exact WN.ret1 rfl rfl ⟨rfl, rfl⟩ .nil
theorem valid_bad {v : Value} (w : World) (h : BadAt w v) : Calls Tryz.prog 72 #[v] w (Gives (Val (.bool false)) w) := by
  cases h with
  | none => exact valid_n w
  | zero bk hb => exact valid_c (n := 0) w hb
theorem valid_ok {bk cap mb : Nat} {da : Option Addr} {d : List (List UInt8)} {F : Nat → Option (List UInt8)} (w : World) (h : BankAt w bk da cap mb d F) : Calls Tryz.prog 72 #[bptr bk] w (Gives (Val (.bool true)) w) := by
  have := valid_c w h.blk
  rwa [decide_eq_true h.wf.pos] at this
theorem BankAt.keep {w w' : World} {bk cap mb : Nat} {da : Option Addr} {d : List (List UInt8)} {F : Nat → Option (List UInt8)} (h : BankAt w bk da cap mb d F) (k : Kept w [] w') : BankAt w' bk da cap mb d F := by
  obtain ⟨M, c, hm, hM⟩ := h.map
  exact ⟨h.wf, (k.block bk (lt_of_heap h.blk) (by simp)).trans h.blk, h.row.keep k, h.cap, M, c, (k.block mb (lt_of_heap hm) (by simp)).trans hm, hM⟩
theorem BadAt.keep {w w' : World} {v : Value} (h : BadAt w v) (k : Kept w [] w') : BadAt w' v := by
  cases h with
  | none => exact .none
  | zero bk hb => exact .zero bk ((k.block bk (lt_of_heap hb) (by simp)).trans hb)
section
variable {bk cap mb : Nat} {da : Option Addr} {d : List (List UInt8)} {F : Nat → Option (List UInt8)}
theorem len_c (w : World) (h : BankAt w bk da cap mb d F) : Calls Tryz.prog 65 #[bptr bk] w (Gives (Val (.int .i64 (d.length : Int))) w) := by
  refine enter (args := [.pointer (some ⟨bk, 0, none⟩)]) Tryz.func65 Tryz.ntmps65 rfl rfl ?_
  (repeat (first | refine WL.step (Yl.move rfl) rfl ?_ | refine WL.step (Yl.assign rfl) rfl ?_ | (refine WL.k_call 72 ?_; refine WL.callV (g := 72) (v := .bool true) Tryz.call72 rfl (fun w s => valid_ok w (h.keep s.kept)) rfl ?_) | refine WL.step (Yl.not rfl) rfl ?_ | refine WC.seq ?_ | refine WC.region ?_ | refine WL.nil ?_ | refine WN.then_normal ?_))
  refine WC.cond_false rfl rfl ?_
  (repeat (first | refine WL.step (Yl.move rfl) rfl ?_ | refine WL.step (Yl.assign rfl) rfl ?_ | refine WL.step (Yl.loadH Tryz.isAgg73 rfl (Has.old h.blk) rfl) rfl ?_ | refine WL.step (Yl.fld0 (t := 76) Tryz.underlying76 fl76 rfl rfl) rfl ?_ | refine WL.step (Yl.nilCheck rfl) rfl ?_ | refine WL.step (Yl.len (t := 73) Tryz.underlying73 rfl) rfl ?_ | refine WC.seq ?_ | refine WC.region ?_ | refine WL.nil ?_ | refine WN.then_normal ?_ | refine WC.skip ?_ | refine WC.ret ?_))
  exact WN.ret1 rfl rfl ⟨rfl, rfl⟩ .nil
theorem len_bad (v : Value) (w : World) (h : BadAt w v) : Calls Tryz.prog 65 #[v] w (Gives (Val (.int .i64 0)) w) := by
  refine enter (args := [v]) Tryz.func65 Tryz.ntmps65 rfl rfl ?_
  (repeat (first | refine WL.step (Yl.move rfl) rfl ?_ | refine WL.step (Yl.assign rfl) rfl ?_ | (refine WL.k_call 72 ?_; refine WL.callV (g := 72) (v := .bool false) Tryz.call72 rfl (fun w s => valid_bad w (h.keep s.kept)) rfl ?_) | refine WL.step (Yl.not rfl) rfl ?_ | refine WC.seq ?_ | refine WC.region ?_ | refine WL.nil ?_ | refine WN.then_normal ?_))
  refine WC.cond_true rfl rfl ?_
  (repeat (first | refine WL.step (Yl.assign rfl) rfl ?_ | refine WC.seq ?_ | refine WC.region ?_ | refine WL.nil ?_ | refine WN.then_normal ?_ | refine WC.ret ?_ | refine WN.then_ret ?_))
  exact WN.ret1 rfl rfl ⟨rfl, rfl⟩ .nil
def bchk (n : Nat) (s : Int) : Nat := if s < 0 ∨ (n : Int) ≤ s then 3 else 0
theorem bcheck_c (s : Int) (w : World) (h : BankAt w bk da cap mb d F) : Calls Tryz.prog 57 #[bptr bk, .int .i64 s] w (Gives (Val (.int .i64 (bchk d.length s : Nat))) w) := by
  refine enter (args := [.pointer (some ⟨bk, 0, none⟩), _]) Tryz.func57 Tryz.ntmps57 rfl rfl ?_
  (repeat (first | refine WL.step (Yl.move rfl) rfl ?_ | refine WL.step (Yl.assign rfl) rfl ?_ | (refine WL.k_call 72 ?_; refine WL.callV (g := 72) (v := .bool true) Tryz.call72 rfl (fun w s => valid_ok w (h.keep s.kept)) rfl ?_) | refine WL.step (Yl.not rfl) rfl ?_ | refine WC.seq ?_ | refine WC.region ?_ | refine WL.nil ?_ | refine WN.then_normal ?_ | refine WC.block ?_))
  refine WC.cond_false rfl rfl ?_
  unfold bchk
  by_cases h1 : s < 0
  · rw [if_pos (.inl h1)]
    (repeat (first | refine WL.pass rfl rfl rfl rfl ?_ | refine WL.step (Yl.move rfl) rfl ?_ | refine WL.step (Yl.assign rfl) rfl ?_ | refine WL.step (Yl.pick_t rfl rfl rfl) rfl ?_ | refine WL.step (Yl.lssT rfl rfl h1) rfl ?_ | refine WC.seq ?_ | refine WC.region ?_ | refine WL.nil ?_ | refine WN.then_normal ?_))
    refine WC.cond_true rfl rfl ?_
    (repeat (first | refine WL.step (Yl.assign rfl) rfl ?_ | refine WC.seq ?_ | refine WC.region ?_ | refine WL.nil ?_ | refine WN.then_normal ?_ | refine WC.ret ?_ | refine WN.then_ret ?_ | refine WN.block_ret ?_))
    exact WN.ret1 rfl rfl ⟨rfl, rfl⟩ .nil
  · by_cases h2 : (d.length : Int) ≤ s
    · rw [if_pos (.inr h2)]
      (repeat (first | refine WL.want rfl rfl rfl ?_ | refine WL.step (Yl.move rfl) rfl ?_ | refine WL.step (Yl.assign rfl) rfl ?_ | refine WL.step (Yl.loadH Tryz.isAgg73 rfl (Has.old h.blk) rfl) rfl ?_ | refine WL.step (Yl.fld0 (t := 76) Tryz.underlying76 fl76 rfl rfl) rfl ?_ | refine WL.step (Yl.pick_f rfl rfl rfl) rfl ?_ | refine WL.step (Yl.lssF rfl rfl h1) rfl ?_ | refine WL.step (Yl.nilCheck rfl) rfl ?_ | refine WL.step (Yl.len (t := 73) Tryz.underlying73 rfl) rfl ?_ | refine WL.step (Yl.geqT rfl rfl h2) rfl ?_ | refine WC.seq ?_ | refine WC.region ?_ | refine WL.nil ?_ | refine WN.then_normal ?_))
      refine WC.cond_true rfl rfl ?_
      (repeat (first | refine WL.step (Yl.assign rfl) rfl ?_ | refine WC.seq ?_ | refine WC.region ?_ | refine WL.nil ?_ | refine WN.then_normal ?_ | refine WC.ret ?_ | refine WN.then_ret ?_ | refine WN.block_ret ?_))
      exact WN.ret1 rfl rfl ⟨rfl, rfl⟩ .nil
    · rw [if_neg (by omega)]
      (repeat (first | refine WL.want rfl rfl rfl ?_ | refine WL.step (Yl.move rfl) rfl ?_ | refine WL.step (Yl.assign rfl) rfl ?_ | refine WL.step (Yl.loadH Tryz.isAgg73 rfl (Has.old h.blk) rfl) rfl ?_ | refine WL.step (Yl.fld0 (t := 76) Tryz.underlying76 fl76 rfl rfl) rfl ?_ | refine WL.step (Yl.pick_f rfl rfl rfl) rfl ?_ | refine WL.step (Yl.lssF rfl rfl h1) rfl ?_ | refine WL.step (Yl.nilCheck rfl) rfl ?_ | refine WL.step (Yl.len (t := 73) Tryz.underlying73 rfl) rfl ?_ | refine WL.step (Yl.geqF rfl rfl h2) rfl ?_ | refine WC.seq ?_ | refine WC.region ?_ | refine WL.nil ?_ | refine WN.then_normal ?_))
      refine WC.cond_false rfl rfl ?_
      (repeat (first | refine WL.step (Yl.assign rfl) rfl ?_ | refine WC.seq ?_ | refine WC.region ?_ | refine WL.nil ?_ | refine WN.then_normal ?_ | refine WC.skip ?_ | refine WC.ret ?_ | refine WN.block_normal ?_))
      exact WN.ret1 rfl rfl ⟨rfl, rfl⟩ .nil
theorem bcheck_bad (s : Int) (v : Value) (w : World) (h : BadAt w v) : Calls Tryz.prog 57 #[v, .int .i64 s] w (Gives (Val (.int .i64 1)) w) := by
  refine enter (args := [v, _]) Tryz.func57 Tryz.ntmps57 rfl rfl ?_
  (repeat (first | refine WL.step (Yl.move rfl) rfl ?_ | refine WL.step (Yl.assign rfl) rfl ?_ | (refine WL.k_call 72 ?_; refine WL.callV (g := 72) (v := .bool false) Tryz.call72 rfl (fun w s => valid_bad w (h.keep s.kept)) rfl ?_) | refine WL.step (Yl.not rfl) rfl ?_ | refine WC.seq ?_ | refine WC.region ?_ | refine WL.nil ?_ | refine WN.then_normal ?_ | refine WC.block ?_))
  refine WC.cond_true rfl rfl ?_
  (repeat (first | refine WL.step (Yl.assign rfl) rfl ?_ | refine WC.seq ?_ | refine WC.region ?_ | refine WL.nil ?_ | refine WN.then_normal ?_ | refine WC.ret ?_ | refine WN.then_ret ?_ | refine WN.block_ret ?_))
  exact WN.ret1 rfl rfl ⟨rfl, rfl⟩ .nil
theorem bchk_ok {n : Nat} {s : Int} (h : bchk n s = 0) : ∃ k : Nat, s = (k : Int) ∧ k < n := by
  unfold bchk at h
  split at h
  · cases h
  · exact ⟨s.toNat, by omega, by omega⟩
theorem bchk_cases (n : Nat) (s : Int) : (bchk n s = 3 ∧ (s < 0 ∨ (n : Int) ≤ s)) ∨ (bchk n s = 0 ∧ ∃ k : Nat, s = (k : Int) ∧ k < n) := by
  by_cases h : s < 0 ∨ (n : Int) ≤ s
  · exact .inl ⟨if_pos h, h⟩
  · exact .inr ⟨if_neg h, s.toNat, by omega, by omega⟩
/-- Bytes of a sector and an error number. -/
def BOut (r : List UInt8 × Nat) : Value → List HA → Prop := NewRow (fun s => .tuple #[s, .int .i64 (r.2 : Int)]) 83 1 r.1.length (bs r.1)
def readR (d : List (List UInt8)) (F : Nat → Option (List UInt8)) (s : Int) : List UInt8 × Nat := if bchk d.length s = 0 then ((F s.toNat).getD (d.getD s.toNat []), 0) else ([], 3)
def durR (d : List (List UInt8)) (s : Int) : List UInt8 × Nat := if bchk d.length s = 0 then (d.getD s.toNat [], 0) else ([], 3)
theorem bdur_c (s : Int) (w : World) (h : BankAt w bk da cap mb d F) : Calls Tryz.prog 68 #[bptr bk, .int .i64 s] w (Gives (BOut (durR d s)) w) := by
  refine enter (args := [.pointer (some ⟨bk, 0, none⟩), _]) Tryz.func68 Tryz.ntmps68 rfl rfl ?_
  rcases bchk_cases d.length s with ⟨hc, hs⟩ | ⟨hc, k, rfl, hk⟩
  · rw [durR, if_neg (by rw [hc]; decide)]
    (repeat (first | refine WL.step (Yl.move rfl) rfl ?_ | refine WL.step (Yl.assign rfl) rfl ?_ | (refine WL.k_call 57 ?_; refine WL.callV (g := 57) (v := .int .i64 3) Tryz.call57 rfl (fun w s0 => by have := bcheck_c s w (h.keep s0.kept); rwa [hc] at this) rfl ?_) | (refine WL.k_bin .neq ?_; refine WL.step (Yl.neqT rfl rfl (by decide)) rfl ?_) | refine WC.seq ?_ | refine WC.region ?_ | refine WL.nil ?_ | refine WN.then_normal ?_))
    refine WC.cond_true rfl rfl ?_
    (repeat (first | refine WL.step (Yl.move rfl) rfl ?_ | refine WL.step (Yl.assign rfl) rfl ?_ | refine WC.seq ?_ | refine WC.region ?_ | refine WL.nil ?_ | refine WN.then_normal ?_ | refine WC.ret ?_ | refine WN.then_ret ?_))
    exact WN.ret2 rfl rfl rfl ⟨none, 0, Nat.le_refl _, rfl, rfl⟩ (.free .nil)
  · rw [durR, if_pos hc]
    have hmem := blk_mem hk
    have hlen := h.wf.len _ hmem
    have hne := flat_ne h.wf.len h.wf.pos
    have hb := bsize hlen
    (repeat (first | refine WL.step (Yl.move rfl) rfl ?_ | refine WL.step (Yl.assign rfl) rfl ?_ | (refine WL.k_call 57 ?_; refine WL.callV (g := 57) (v := .int .i64 0) Tryz.call57 rfl (fun w s0 => by have := bcheck_c (k : Int) w (h.keep s0.kept); rwa [hc] at this) rfl ?_) | (refine WL.k_bin .neq ?_; refine WL.step (Yl.neqF rfl rfl (by decide)) rfl ?_) | refine WC.seq ?_ | refine WC.region ?_ | refine WL.nil ?_ | refine WN.then_normal ?_))
    refine WC.cond_false rfl rfl ?_
    (repeat (first | refine WL.step (Yl.move rfl) rfl ?_ | (refine WL.k_load ?_; first | refine WL.step (Yl.loadH Tryz.isAgg73 rfl (Has.old h.blk) rfl) rfl ?_ | refine WL.step (Yl.loadEl (bs (d.getD k [])) Tryz.isAgg83 Tryz.sizeOf83 rfl (Rd.old h.row) (by rw [bs_length]; exact hlen) (bs_ne (i := 0) (by omega)) (flat_get h.wf.len hk)) rfl ?_) | refine WL.step (Yl.fld0 (t := 76) Tryz.underlying76 fl76 rfl rfl) rfl ?_ | refine WL.step (Yl.nilCheck rfl) rfl ?_ | refine WL.step (Yl.indexAddr (t := 73) (j := k) Tryz.underlying73 Tryz.sizeOf83 rfl rfl (Rd.old h.row) hne hk) rfl ?_ | refine WC.seq ?_ | refine WC.region ?_ | refine WN.then_normal ?_ | refine WC.skip ?_))
    refine WL.allocA zeroBlk rfl fun b => ?_
    refine WL.storeWhole (k := 128) (us := (bs (d.getD k [])).toArray) Tryz.sizeOf83 rfl rfl (ball _) .here hb rfl ?_
    (repeat (first | refine WL.step (Yl.assign rfl) rfl ?_ | refine WL.step (Yl.arrAll (t := 83) Tryz.underlying83 Tryz.sizeOf5 rfl) rfl ?_ | refine WC.seq ?_ | refine WC.region ?_ | refine WL.nil ?_ | refine WN.then_normal ?_ | refine WC.ret ?_))
    refine WN.asRow (n := 128) .here (by rw [bs_length]; exact hlen) (by decide) ?_
    exact WN.ret2 rfl rfl rfl ⟨some ⟨b, 0, none⟩, 128, by show (d.getD k []).length ≤ 128; omega, by show _ = Value.tuple #[.slice _ (d.getD k []).length 128, _]; rw [hlen]; rfl, rfl⟩ (.cons .here .nil)
theorem bdur_bad (s : Int) (v : Value) (w : World) (h : BadAt w v) : Calls Tryz.prog 68 #[v, .int .i64 s] w (Gives (BOut ([], 1)) w) := by
  refine enter (args := [v, _]) Tryz.func68 Tryz.ntmps68 rfl rfl ?_
  (repeat (first | refine WL.step (Yl.move rfl) rfl ?_ | refine WL.step (Yl.assign rfl) rfl ?_ | (refine WL.k_call 57 ?_; refine WL.callV (g := 57) (v := .int .i64 1) Tryz.call57 rfl (fun w s0 => bcheck_bad s v w (h.keep s0.kept)) rfl ?_) | (refine WL.k_bin .neq ?_; refine WL.step (Yl.neqT rfl rfl (by decide)) rfl ?_) | refine WC.seq ?_ | refine WC.region ?_ | refine WL.nil ?_ | refine WN.then_normal ?_))
  refine WC.cond_true rfl rfl ?_
  (repeat (first | refine WL.step (Yl.move rfl) rfl ?_ | refine WL.step (Yl.assign rfl) rfl ?_ | refine WC.seq ?_ | refine WC.region ?_ | refine WL.nil ?_ | refine WN.then_normal ?_ | refine WC.ret ?_ | refine WN.then_ret ?_))
  exact WN.ret2 rfl rfl rfl ⟨none, 0, Nat.le_refl _, rfl, rfl⟩ (.free .nil)
theorem bread_c (s : Int) (w : World) (h : BankAt w bk da cap mb d F) : Calls Tryz.prog 41 #[bptr bk, .int .i64 s] w (Gives (BOut (readR d F s)) w) := by
  refine enter (args := [.pointer (some ⟨bk, 0, none⟩), _]) Tryz.func41 Tryz.ntmps41 rfl rfl ?_
  rcases bchk_cases d.length s with ⟨hc, hs⟩ | ⟨hc, k, rfl, hk⟩
  · rw [readR, if_neg (by rw [hc]; decide)]
    (repeat (first | refine WL.step (Yl.move rfl) rfl ?_ | refine WL.step (Yl.assign rfl) rfl ?_ | (refine WL.k_call 57 ?_; refine WL.callV (g := 57) (v := .int .i64 3) Tryz.call57 rfl (fun w s0 => by have := bcheck_c s w (h.keep s0.kept); rwa [hc] at this) rfl ?_) | (refine WL.k_bin .neq ?_; refine WL.step (Yl.neqT rfl rfl (by decide)) rfl ?_) | refine WC.seq ?_ | refine WC.region ?_ | refine WL.nil ?_ | refine WN.then_normal ?_))
    refine WC.cond_true rfl rfl ?_
    (repeat (first | refine WL.step (Yl.move rfl) rfl ?_ | refine WL.step (Yl.assign rfl) rfl ?_ | refine WC.seq ?_ | refine WC.region ?_ | refine WL.nil ?_ | refine WN.then_normal ?_ | refine WC.ret ?_ | refine WN.then_ret ?_))
    exact WN.ret2 rfl rfl rfl ⟨none, 0, Nat.le_refl _, rfl, rfl⟩ (.free .nil)
  · rw [readR, if_pos hc]
    obtain ⟨M, c, hm, hM⟩ := h.map
    have hmem := blk_mem hk
    have hlen := h.wf.len _ hmem
    have hne := flat_ne h.wf.len h.wf.pos
    (repeat (first | refine WL.step (Yl.move rfl) rfl ?_ | refine WL.step (Yl.assign rfl) rfl ?_ | (refine WL.k_call 57 ?_; refine WL.callV (g := 57) (v := .int .i64 0) Tryz.call57 rfl (fun w s0 => by have := bcheck_c (k : Int) w (h.keep s0.kept); rwa [hc] at this) rfl ?_) | (refine WL.k_bin .neq ?_; refine WL.step (Yl.neqF rfl rfl (by decide)) rfl ?_) | refine WC.seq ?_ | refine WC.region ?_ | refine WL.nil ?_ | refine WN.then_normal ?_))
    refine WC.cond_false rfl rfl ?_
    rw [Int.toNat_natCast]
    cases hF : F k with
    | none =>
      have hb := bsize hlen
      simp only [Option.getD_none]
      (repeat (first | refine WL.step (Yl.lookupF (k := k) (enc := encB) Tryz.underlying74 Tryz.underlying3 zeroBlk rfl rfl hM hF (Has.old hm)) rfl ?_ | refine WL.step (Yl.move rfl) rfl ?_ | refine WL.step (Yl.extract rfl rfl) rfl ?_ | refine WL.step (Yl.loadH Tryz.isAgg74 rfl (Has.old h.blk) rfl) rfl ?_ | refine WL.step (Yl.fld0 (t := 76) Tryz.underlying76 fl76 rfl rfl) rfl ?_ | refine WL.step (Yl.nilCheck rfl) rfl ?_ | refine WC.seq ?_ | refine WC.region ?_ | refine WN.then_normal ?_ | refine WC.skip ?_))
      refine WL.allocA zeroBlk rfl fun b => ?_
      refine WL.storeWhole (T := 83) (k := 128) (us := (bs zblk).toArray) Tryz.sizeOf83 rfl rfl (ball _) .here rfl rfl ?_
      (repeat (first | refine WL.step (Yl.move rfl) rfl ?_ | refine WL.step (Yl.assign rfl) rfl ?_ | refine WL.step (Yl.not rfl) rfl ?_ | refine WC.seq ?_ | refine WC.region ?_ | refine WL.nil ?_ | refine WN.then_normal ?_))
      refine WC.join (α := Unit) (fun _ => [(7, .pointer (some ⟨b, 0, none⟩))]) (fun _ => [.blk b (.cells (bs (d.getD k [])).toArray 83 (0, 0))]) (fun _ => True) ?_ ?_
      · refine WC.cond_true rfl rfl ?_
        (repeat (first | refine WL.step (Yl.move rfl) rfl ?_ | (refine WL.k_load ?_; first | refine WL.step (Yl.loadH Tryz.isAgg73 rfl (Has.old h.blk) rfl) rfl ?_ | refine WL.step (Yl.loadEl (bs (d.getD k [])) Tryz.isAgg83 Tryz.sizeOf83 rfl (Rd.old h.row) (by rw [bs_length]; exact hlen) (bs_ne (i := 0) (by omega)) (flat_get h.wf.len hk)) rfl ?_) | refine WL.step (Yl.fld0 (t := 76) Tryz.underlying76 fl76 rfl rfl) rfl ?_ | refine WL.step (Yl.nilCheck rfl) rfl ?_ | refine WL.step (Yl.indexAddr (t := 73) (j := k) Tryz.underlying73 Tryz.sizeOf83 rfl rfl (Rd.old h.row) hne hk) rfl ?_ | refine WC.region ?_))
        refine WL.storeWhole (k := 128) (us := (bs (d.getD k [])).toArray) Tryz.sizeOf83 rfl rfl (ball _) .here hb rfl ?_
        (repeat (first | refine WL.nil ?_))
        exact WN.join () trivial (by repeat (first | exact Sub.nil | refine Sub.cons rfl rfl ?_)) (by repeat (first | exact Part.nil | refine Part.cons (by repeat (first | exact Pick.here | apply Pick.there)) ?_ | refine Part.free ?_))
      · intro _ _
        (repeat (first | refine WL.step (Yl.assign rfl) rfl ?_ | refine WL.step (Yl.arrAll (t := 83) Tryz.underlying83 Tryz.sizeOf5 rfl) rfl ?_ | refine WC.seq ?_ | refine WC.region ?_ | refine WL.nil ?_ | refine WN.then_normal ?_ | refine WC.ret ?_))
        refine WN.asRow (n := 128) .here (by rw [bs_length]; exact hlen) (by decide) ?_
        exact WN.ret2 rfl rfl rfl ⟨some ⟨b, 0, none⟩, 128, by show (d.getD k []).length ≤ 128; omega, by show _ = Value.tuple #[.slice _ (d.getD k []).length 128, _]; rw [hlen]; rfl, rfl⟩ (.cons .here .nil)
    | some u =>
      have hul := h.wf.val k u hF
      have hb := bsize hul
      simp only [Option.getD_some]
      (repeat (first | refine WL.step (Yl.lookupT (k := k) (enc := encB) (u := u) Tryz.underlying74 Tryz.underlying3 zeroBlk rfl rfl hM hF (Has.old hm)) rfl ?_ | refine WL.step (Yl.move rfl) rfl ?_ | refine WL.step (Yl.extract rfl rfl) rfl ?_ | refine WL.step (Yl.loadH Tryz.isAgg74 rfl (Has.old h.blk) rfl) rfl ?_ | refine WL.step (Yl.fld0 (t := 76) Tryz.underlying76 fl76 rfl rfl) rfl ?_ | refine WL.step (Yl.nilCheck rfl) rfl ?_ | refine WC.seq ?_ | refine WC.region ?_ | refine WN.then_normal ?_ | refine WC.skip ?_))
      refine WL.allocA zeroBlk rfl fun b => ?_
      refine WL.storeWhole (T := 83) (k := 128) (us := (bs u).toArray) Tryz.sizeOf83 rfl rfl (ball _) .here hb rfl ?_
      (repeat (first | refine WL.step (Yl.move rfl) rfl ?_ | refine WL.step (Yl.assign rfl) rfl ?_ | refine WL.step (Yl.not rfl) rfl ?_ | refine WC.seq ?_ | refine WC.region ?_ | refine WL.nil ?_ | refine WN.then_normal ?_))
      refine WC.cond_false rfl rfl ?_
      (repeat (first | refine WL.step (Yl.assign rfl) rfl ?_ | refine WL.step (Yl.arrAll (t := 83) Tryz.underlying83 Tryz.sizeOf5 rfl) rfl ?_ | refine WC.seq ?_ | refine WC.region ?_ | refine WL.nil ?_ | refine WN.then_normal ?_ | refine WC.skip ?_ | refine WC.ret ?_))
      refine WN.asRow (n := 128) .here (by rw [bs_length]; exact hul) (by decide) ?_
      exact WN.ret2 rfl rfl rfl ⟨some ⟨b, 0, none⟩, 128, by show u.length ≤ 128; omega, by show _ = Value.tuple #[.slice _ u.length 128, _]; rw [hul]; rfl, rfl⟩ (.cons .here .nil)
theorem bread_bad (s : Int) (v : Value) (w : World) (h : BadAt w v) : Calls Tryz.prog 41 #[v, .int .i64 s] w (Gives (BOut ([], 1)) w) := by
  refine enter (args := [v, _]) Tryz.func41 Tryz.ntmps41 rfl rfl ?_
  (repeat (first | refine WL.step (Yl.move rfl) rfl ?_ | refine WL.step (Yl.assign rfl) rfl ?_ | (refine WL.k_call 57 ?_; refine WL.callV (g := 57) (v := .int .i64 1) Tryz.call57 rfl (fun w s0 => bcheck_bad s v w (h.keep s0.kept)) rfl ?_) | (refine WL.k_bin .neq ?_; refine WL.step (Yl.neqT rfl rfl (by decide)) rfl ?_) | refine WC.seq ?_ | refine WC.region ?_ | refine WL.nil ?_ | refine WN.then_normal ?_))
  refine WC.cond_true rfl rfl ?_
  (repeat (first | refine WL.step (Yl.move rfl) rfl ?_ | refine WL.step (Yl.assign rfl) rfl ?_ | refine WC.seq ?_ | refine WC.region ?_ | refine WL.nil ?_ | refine WN.then_normal ?_ | refine WC.ret ?_ | refine WN.then_ret ?_))
  exact WN.ret2 rfl rfl rfl ⟨none, 0, Nat.le_refl _, rfl, rfl⟩ (.free .nil)
def DirtyV (v : Value) : Value → List HA → Prop := fun u B => ∃ bx, u = .func (.func 83) #[] #[.pointer (some ⟨bx, 0, none⟩)] ∧ B = [.blk bx (.cells #[v] 52 (0, 0))]
theorem bdirty_c (p : Option Addr) (w : World) : Calls Tryz.prog 77 #[.pointer p] w (Gives (DirtyV (.pointer p)) w) := by
  refine enter (args := [.pointer p]) Tryz.func77 Tryz.ntmps77 rfl rfl ?_
  (repeat (first | refine WC.seq ?_ | refine WC.region ?_))
  refine WL.box rfl rfl fun bx => ?_
  (repeat (first | refine WL.step (Yl.assign rfl) rfl ?_ | refine WL.step (Yl.makeFunc (xs := [.tmp 1]) rfl) rfl ?_ | refine WC.seq ?_ | refine WC.region ?_ | refine WL.nil ?_ | refine WN.then_normal ?_ | refine WC.ret ?_))
  exact WN.ret1 rfl rfl ⟨bx, rfl, rfl⟩ (.cons .here .nil)
end
end Go.Proofs.YtmmpngigaodcgaaGreat
