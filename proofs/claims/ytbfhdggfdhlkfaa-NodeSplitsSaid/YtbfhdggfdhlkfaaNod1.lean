/- Keys and nodes as values and in memory; what the comparisons of keys compute. -/
import Derived.Test.YtbfhdggfdhlkfaaNodLaw
import Derived.Test.YtbfhdggfdhlkfaaPtr
import Derived.Test.YtbfhdggfdhlkfaaBig5
namespace Go.Proofs.Ytbfhdggfdhlkfaa
set_option linter.unusedVariables false
set_option linter.unusedSimpArgs false
open Go Go.RowKit
set_option maxRecDepth 100000
set_option maxHeartbeats 4000000
def kv (k : Nod.K) : List Value := .int .u64 (k.n : Int) :: bs k.d
def kval (k : Nod.K) : Value := .agg (kv k).toArray
def kcells (l : List Nod.K) : List Value := l.flatMap kv
def vcells (l : List (List UInt8)) : List Value := l.flatMap bs
def icells (l : List Int) : List Value := l.map fun c => .int .i64 c
theorem kv_len {k : Nod.K} (h : k.Wf) : (kv k).length = 33 := by rw [kv, List.length_cons, bs_length, h.2]
theorem kv_ne (k : Nod.K) : kv k ≠ [] := by simp [kv]
theorem kv_one (k : Nod.K) : ∀ u ∈ kv k, u.oneCell' = true := by
  intro u hu
  rcases List.mem_cons.1 hu with rfl | hu
  · rfl
  · exact bs_one _ u hu
theorem kv_get {k : Nod.K} {i : Nat} (h : i < k.d.length) : (kv k).toArray[1 + i]? = some (bv (k.d.getD i 0)) := by
  have := bs_get h
  simp only [kv, List.getElem?_toArray, Nat.add_comm 1 i, List.getElem?_cons_succ, this]
theorem kv_size {k : Nod.K} (h : k.Wf) : Nat.beq (kv k).toArray.size 33 = true := by
  have := kv_len h
  rw [List.size_toArray, this]; rfl
theorem chunk {α β : Type} {f : α → List β} {k : Nat} : ∀ {l : List α} {i : Nat} {x : α}, (∀ y ∈ l, (f y).length = k) → l[i]? = some x → ((l.flatMap f).drop (i * k)).take k = f x
  | [], _, _, _, h => by simp at h
  | y :: l, 0, x, hk, h => by
    obtain rfl : y = x := by simpa using h
    rw [Nat.zero_mul, List.drop_zero, List.flatMap_cons, ← hk y (.head _), List.take_left]
  | y :: l, i + 1, x, hk, h => by
    have e : (i + 1) * k = (f y).length + i * k := by rw [hk y (.head _), Nat.add_mul]; omega
    rw [List.flatMap_cons, e, ← List.drop_drop, List.drop_left]
    exact chunk (fun z hz => hk z (.tail _ hz)) (by simpa using h)
theorem flat_len {α β : Type} {f : α → List β} {k : Nat} : ∀ {l : List α}, (∀ x ∈ l, (f x).length = k) → (l.flatMap f).length = l.length * k
  | [], _ => by simp
  | x :: l, h => by
    rw [List.flatMap_cons, List.length_append, h x (.head _), flat_len (fun y hy => h y (.tail _ hy)), List.length_cons, Nat.add_mul]; omega
theorem kcells_len {l : List Nod.K} (h : ∀ k ∈ l, k.Wf) : (kcells l).length = l.length * 33 := flat_len fun k hk => kv_len (h k hk)
theorem key_at {l : List Nod.K} {i : Nat} (h : i < l.length) : l[i]? = some (Nod.key l i) := by simp [Nod.key, List.getD, h]
theorem key_mem {l : List Nod.K} {i : Nat} (h : i < l.length) : Nod.key l i ∈ l := List.mem_of_getElem? (key_at h)
theorem kcells_at {l : List Nod.K} {i : Nat} (hl : ∀ k ∈ l, k.Wf) (h : i < l.length) : ((kcells l).drop (i * 33)).take (kv (Nod.key l i)).length = kv (Nod.key l i) := by
  rw [kv_len (hl _ (key_mem h))]
  exact chunk (fun k hk => kv_len (hl k hk)) (key_at h)
theorem kcells_ne {l : List Nod.K} {i : Nat} (h : i < l.length) : kcells l ≠ [] := by
  match l, h with
  | k :: l, _ => simp [kcells, kv]
theorem vcells_len {l : List (List UInt8)} (h : ∀ v ∈ l, v.length = 20) : (vcells l).length = l.length * 20 := flat_len fun v hv => by rw [bs_length, h v hv]
theorem vcells_at {l : List (List UInt8)} {i : Nat} (hl : ∀ v ∈ l, v.length = 20) (h : i < l.length) : ((vcells l).drop (i * 20)).take (bs (l.getD i [])).length = bs (l.getD i []) := by
  have e : l[i]? = some (l.getD i []) := by simp [List.getD, h]
  rw [bs_length, hl _ (List.mem_of_getElem? e)]
  exact chunk (fun v hv => by rw [bs_length, hl v hv]) e
theorem val_len {l : List (List UInt8)} {i : Nat} (hl : ∀ v ∈ l, v.length = 20) (h : i < l.length) : (l.getD i []).length = 20 := hl _ (List.mem_of_getElem? (by simp [List.getD, h] : l[i]? = some (l.getD i [])))
theorem vcells_ne {l : List (List UInt8)} {i : Nat} (hl : ∀ v ∈ l, v.length = 20) (h : i < l.length) : vcells l ≠ [] := fun e => by
  have := vcells_len hl
  rw [e] at this; simp at this; omega
theorem icells_len (l : List Int) : (icells l).length = l.length := List.length_map _
theorem icells_at {l : List Int} {i : Nat} (h : i < l.length) : (icells l)[i]? = some (.int .i64 (l.getD i 0)) := by simp [icells, List.getD, h]
theorem icells_ne {l : List Int} {i : Nat} (h : i < l.length) : icells l ≠ [] := ne_nil_of (icells_at h)
theorem icells_one (l : List Int) : ∀ u ∈ icells l, u.oneCell' = true := by
  intro u hu; obtain ⟨c, _, rfl⟩ := List.mem_map.1 hu; rfl
theorem keyT : KeyT Try.prog 42 := KeyT.of (a := 40) (e := 5) (by kernel_rfl) (by kernel_rfl) (by kernel_rfl) (by kernel_rfl) (by kernel_rfl)
theorem rkeyT : KeyT Try.prog 45 := KeyT.of (a := 40) (e := 5) (by kernel_rfl) (by kernel_rfl) (by kernel_rfl) (by kernel_rfl) (by kernel_rfl)
theorem rvalT : ArrT Try.prog 78 20 := ArrT.of (e := 5) (by kernel_rfl) (by kernel_rfl) (by kernel_rfl) (by kernel_rfl)
theorem kN : fieldB Try.prog 42 0 0 = true := by kernel_rfl
theorem kD : fieldB Try.prog 42 1 1 = true := by kernel_rfl
theorem rkN : fieldB Try.prog 45 0 0 = true := by kernel_rfl
theorem rkD : fieldB Try.prog 45 1 1 = true := by kernel_rfl
theorem elemInt : ElemT Try.prog 3 (.int .i64 0) 1 8 := ElemT.of (by kernel_rfl) rfl (by decide)
attribute [local irreducible] WL WC WN Yl WH WQ WT
/-- The first that is not zero. -/
def orL : List Int → Int
  | [] => 0
  | c :: l => if c ≠ 0 then c else orL l
theorem orL_at {l : List Int} {i : Nat} (h : i < l.length) : orL (l.drop i) = if l.getD i 0 ≠ 0 then l.getD i 0 else orL (l.drop (i + 1)) := by
  rw [List.drop_eq_getElem_cons h, orL]
  simp [List.getD, h]
theorem cor_c (a : Option Addr) (n cap : Nat) (l : List Int) (w : World) (hl : l.length = n) (hn : n ≤ 9223372036854775807) (hr : CellsAt w a (icells l)) :
    Calls Try.prog 50 #[.slice a n cap] w (Gives (Val (.int .i64 (orL l))) w) := by
  refine enter (args := [_]) Try.func50 Try.ntmps50 rfl rfl ?_
  (repeat (first | refine WL.step (Yl.move rfl) rfl ?_ | refine WL.step (Yl.assign rfl) rfl ?_ | refine WL.step (Yl.len (t := 24) Try.underlying24 rfl) rfl ?_ | refine WC.seq ?_ | refine WC.region ?_ | refine WL.nil ?_ | refine WN.then_normal ?_ | refine WC.block ?_))
  refine WC.loop (α := Nat) (fun i => [(3, .int .i64 0), (6, .slice a n cap), (7, .int .i64 (n : Int)), (8, .int .i64 (i : Int))]) (fun _ => []) (fun i => i ≤ n ∧ orL l = orL (l.drop i)) (fun i => n - i) 0 (by repeat (first | exact Sub.nil | refine Sub.cons rfl rfl ?_)) .nil ⟨by omega, rfl⟩ ?_
  intro i ⟨hi, he⟩
  rw [he]
  (repeat (first | refine WL.step (Yl.lss rfl rfl) rfl ?_ | refine WC.seq ?_ | refine WC.region ?_ | refine WL.nil ?_ | refine WN.then_normal ?_))
  refine WC.ite rfl (fun h1 => ?_) (fun h1 => ?_)
  · have hil : i < l.length := by omega
    rw [orL_at hil]
    (repeat (first | refine WL.step (Yl.move rfl) rfl ?_ | refine WL.step (Yl.assign rfl) rfl ?_ | refine WL.step (Yl.load (T := 3) Try.isAgg3 rfl (.old hr) (icells_at hil)) rfl ?_ | (refine WL.k_idxa ?_; refine WL.step (Yl.indexAddr1 (t := 24) Try.underlying24 Try.sizeOf3 rfl rfl (.old hr) (icells_ne hil) (by omega)) rfl ?_) | refine WL.step (Yl.neq rfl rfl) rfl ?_ | refine WC.seq ?_ | refine WC.region ?_ | refine WL.nil ?_ | refine WN.then_normal ?_ | refine WC.block ?_ | refine WC.skip ?_))
    refine WC.ite rfl (fun h2 => ?_) (fun h2 => ?_)
    · rw [if_pos h2]
      (repeat (first | refine WL.step (Yl.move rfl) rfl ?_ | refine WL.step (Yl.assign rfl) rfl ?_ | refine WC.seq ?_ | refine WC.region ?_ | refine WL.nil ?_ | refine WN.then_normal ?_ | refine WC.ret ?_ | refine WN.then_ret ?_ | refine WN.block_ret ?_))
      exact WN.ret1 rfl rfl ⟨rfl, rfl⟩ .nil
    · rw [if_neg h2]
      (repeat (first | refine WL.step (Yl.move rfl) rfl ?_ | (refine WL.k_bin .add ?_; refine WL.step (Yl.add64C rfl (by omega)) rfl ?_) | refine WC.region ?_ | refine WL.nil ?_ | refine WN.then_normal ?_ | refine WC.skip ?_ | refine WN.block_normal ?_))
      exact WN.next (i + 1) ⟨by omega, rfl⟩ (by omega) (by repeat (first | exact Sub.nil | refine Sub.cons rfl rfl ?_)) .nil
  · obtain rfl : i = n := by omega
    rw [List.drop_eq_nil_of_le (by omega)]
    (repeat (first | refine WL.step (Yl.move rfl) rfl ?_ | refine WL.step (Yl.assign rfl) rfl ?_ | refine WC.seq ?_ | refine WC.region ?_ | refine WL.nil ?_ | refine WN.then_normal ?_ | refine WC.exit ?_ | refine WC.ret ?_ | refine WN.then_exit ?_ | refine WN.block_here ?_))
    exact WN.ret1 rfl rfl ⟨rfl, rfl⟩ .nil
theorem orL_two (x y : Int) : orL [x, y] = if x ≠ 0 then x else y := by
  show (if x ≠ 0 then x else if y ≠ 0 then y else 0) = _
  by_cases h : x = 0
  · subst h
    by_cases h2 : y = 0
    · subst h2; rfl
    · simp [h2]
  · simp [h]
theorem or_two (a b : Nod.K) : orL [cmp3 (a.n : Int) (b.n : Int), Big.cmpL a.d b.d] = Nod.cmp a b := by
  rw [orL_two]
  by_cases h1 : a.n < b.n
  · rw [show cmp3 (a.n : Int) (b.n : Int) = -1 from if_pos (by omega), show Nod.cmp a b = -1 from if_pos h1]; rfl
  · by_cases h2 : b.n < a.n
    · rw [show cmp3 (a.n : Int) (b.n : Int) = 1 by unfold cmp3; rw [if_neg (by omega), if_pos (by omega)], show Nod.cmp a b = 1 by unfold Nod.cmp; rw [if_neg h1, if_pos h2]]; rfl
    · rw [show cmp3 (a.n : Int) (b.n : Int) = 0 by unfold cmp3; rw [if_neg (by omega), if_neg (by omega)], show Nod.cmp a b = Big.cmpL a.d b.d by unfold Nod.cmp; rw [if_neg h1, if_neg h2]]; rfl
theorem kv_tail {k : Nod.K} : ∀ i v, (bs k.d)[i]? = some v → (kv k).toArray[1 + i]? = some v := fun i v h => by
  simp only [kv, List.getElem?_toArray, Nat.add_comm 1 i, List.getElem?_cons_succ, h]
theorem ncmp_c (a b : Nod.K) (w : World) (ha : a.Wf) (hb : b.Wf) : Calls Try.prog 27 #[kval a, kval b] w (Gives (Val (.int .i64 (Nod.cmp a b))) w) := by
  refine enter (args := [_, _]) Try.func27 Try.ntmps27 rfl rfl ?_
  (repeat (first | refine WL.boxA (cs := (kv a).toArray) rfl rfl fun b1 => ?_ | refine WC.seq ?_ | refine WC.region ?_))
  refine WL.boxA (cs := (kv b).toArray) rfl rfl fun b2 => ?_
  (repeat (first | refine WL.step (Yl.assign rfl) rfl ?_ | (refine WL.k_load ?_; first | refine WL.step (Yl.loadAll (T := 42) (T' := 42) (cs := (kv a).toArray) Try.isAgg42 Try.sizeOf42 rfl (.tail _ (.head _)) (kv_size ha)) rfl ?_ | refine WL.step (Yl.loadAll (T := 42) (T' := 42) (cs := (kv b).toArray) Try.isAgg42 Try.sizeOf42 rfl (.head _) (kv_size hb)) rfl ?_) | refine WL.step (Yl.eqlK keyT rfl rfl ha.2 hb.2) rfl ?_ | refine WC.seq ?_ | refine WC.region ?_ | refine WL.nil ?_ | refine WN.then_normal ?_))
  refine WC.ite rfl (fun h1 => ?_) (fun h1 => ?_)
  · obtain rfl : a = b := by
      cases a; cases b; simp only [Nod.K.mk.injEq]; exact ⟨Int.ofNat.inj h1.1, h1.2⟩
    rw [Nod.cmp_self]
    (repeat (first | refine WL.step (Yl.assign rfl) rfl ?_ | refine WC.seq ?_ | refine WC.region ?_ | refine WL.nil ?_ | refine WN.then_normal ?_ | refine WC.ret ?_ | refine WN.then_ret ?_))
    exact WN.ret1 rfl rfl ⟨rfl, rfl⟩ .nil
  · (repeat (first | refine WC.seq ?_ | refine WN.then_normal ?_ | refine WC.skip ?_))
    refine WC.regionH [.blk b2 (.cells (kv b).toArray 42 (0, 0)), .blk b1 (.cells (kv a).toArray 42 (0, 0))] (by kernel_rfl) ?_
    (refine WH.order [0, 1, 2, 3, 5, 6, 7, 8] (by repeat (first | exact Part.nil | refine Part.cons (by repeat (first | exact Pick.here | apply Pick.there)) ?_ | refine Part.free ?_)) (by kernel_rfl) ?_; (repeat (first | (refine WT.k_load rfl ?_; first | refine WT.take rfl rfl (fun _ _ _ h => h) (Yl.loadBlk (T := 39) (T' := 42) (cs := (kv a).toArray) Try.isAgg39 rfl (.tail _ (.head _)) rfl) rfl (by kernel_rfl) (by kernel_rfl) ?_ | refine WT.take rfl rfl (fun _ _ _ h => h) (Yl.loadBlk (T := 39) (T' := 42) (cs := (kv b).toArray) Try.isAgg39 rfl (.head _) rfl) rfl (by kernel_rfl) (by kernel_rfl) ?_) | (refine WT.k_fld rfl ?_; first | refine WT.take rfl rfl (fun _ _ _ h => h) (Yl.fldN0 kN rfl) rfl (by kernel_rfl) (by kernel_rfl) ?_ | refine WT.take rfl rfl (fun _ _ _ h => h) (Yl.fldN0 kD rfl) rfl (by kernel_rfl) (by kernel_rfl) ?_) | (refine WT.k_slice rfl ?_; refine WT.take rfl rfl (fun _ _ _ h => h) (Yl.arrAll (t := 40) Try.underlying40 Try.sizeOf5 rfl) rfl (by kernel_rfl) (by kernel_rfl) ?_))); refine WT.nil ?_)
    refine WH.only (i := 4) (by kernel_rfl) rfl ?_
    refine WL.callV (g := 51) Try.call51 rfl (fun w _ => c64_c (a.n : Int) (b.n : Int) w) rfl ?_
    refine WL.nil (WN.nextH (by repeat (first | exact Part.nil | refine Part.cons (by repeat (first | exact Pick.here | apply Pick.there)) ?_ | refine Part.free ?_)) ?_)
    refine WH.only (i := 9) (by kernel_rfl) rfl ?_
    refine WL.callV (g := 52) Try.call52 rfl (fun w s => compare_c (some ⟨b1, 1, none⟩) (some ⟨b2, 1, none⟩) 32 32 32 32 a.d b.d w ha.2 hb.2 (by decide) (Rd.blk (.tail _ (.head _)) kv_tail w s) (Rd.blk (.head _) kv_tail w s)) rfl ?_
    refine WL.nil (WN.nextH (by repeat (first | exact Part.nil | refine Part.cons (by repeat (first | exact Pick.here | apply Pick.there)) ?_ | refine Part.free ?_)) ?_)
    refine WH.only (i := 10) (by kernel_rfl) rfl ?_
    refine WL.lit (t := 24) Try.underlying24 elemInt rfl rfl rfl (by simp [Value.cells]) rfl fun q => ?_
    refine WL.nil (WN.nextH (by repeat (first | exact Part.nil | refine Part.cons (by repeat (first | exact Pick.here | apply Pick.there)) ?_ | refine Part.free ?_)) ?_)
    refine WH.only (i := 11) (by kernel_rfl) rfl ?_
    refine WL.callV (g := 50) Try.call50 rfl (fun w s => cor_c (some ⟨q, 0, none⟩) 2 2 [cmp3 (a.n : Int) (b.n : Int), Big.cmpL a.d b.d] w rfl (by decide) (Rd.row (.head _) w s)) rfl ?_
    rw [or_two]
    refine WL.nil (WN.nextH (by repeat (first | exact Part.nil | refine Part.cons (by repeat (first | exact Pick.here | apply Pick.there)) ?_ | refine Part.free ?_)) ?_)
    refine WH.only (i := 12) (by kernel_rfl) rfl ?_
    (repeat (first | refine WL.step (Yl.assign rfl) rfl ?_ | refine WL.nil ?_))
    refine WN.nextH (by repeat (first | exact Part.nil | refine Part.cons (by repeat (first | exact Pick.here | apply Pick.there)) ?_ | refine Part.free ?_)) ?_
    refine WH.done (by kernel_rfl) ?_
    (repeat (first | refine WN.then_normal ?_ | refine WC.ret ?_))
    exact WN.ret1 rfl rfl ⟨rfl, rfl⟩ .nil
theorem rcmp_c (a b : Nod.K) (w : World) (ha : a.Wf) (hb : b.Wf) : Calls Try.prog 28 #[kval a, kval b] w (Gives (Val (.int .i64 (Nod.cmp a b))) w) := by
  refine enter (args := [_, _]) Try.func28 Try.ntmps28 rfl rfl ?_
  (repeat (first | refine WL.boxA (cs := (kv a).toArray) rfl rfl fun b1 => ?_ | refine WC.seq ?_ | refine WC.region ?_))
  refine WL.boxA (cs := (kv b).toArray) rfl rfl fun b2 => ?_
  (repeat (first | refine WL.step (Yl.assign rfl) rfl ?_ | (refine WL.k_load ?_; first | refine WL.step (Yl.loadBlk (T := 39) (T' := 45) (cs := (kv a).toArray) Try.isAgg39 rfl (.tail _ (.head _)) rfl) rfl ?_ | refine WL.step (Yl.loadBlk (T := 39) (T' := 45) (cs := (kv b).toArray) Try.isAgg39 rfl (.head _) rfl) rfl ?_) | refine WL.step (Yl.fldN0 rkN rfl) rfl ?_ | refine WL.step (Yl.lss rfl rfl) rfl ?_ | refine WC.seq ?_ | refine WC.region ?_ | refine WL.nil ?_ | refine WN.then_normal ?_))
  unfold Nod.cmp
  refine WC.ite rfl (fun h1 => ?_) (fun h1 => ?_)
  · rw [if_pos (by omega)]
    (repeat (first | refine WL.step (Yl.assign rfl) rfl ?_ | refine WC.seq ?_ | refine WC.region ?_ | refine WL.nil ?_ | refine WN.then_normal ?_ | refine WC.ret ?_ | refine WN.then_ret ?_))
    exact WN.ret1 rfl rfl ⟨rfl, rfl⟩ .nil
  · rw [if_neg (by omega)]
    (repeat (first | (refine WL.k_load ?_; first | refine WL.step (Yl.loadBlk (T := 39) (T' := 45) (cs := (kv a).toArray) Try.isAgg39 rfl (.tail _ (.head _)) rfl) rfl ?_ | refine WL.step (Yl.loadBlk (T := 39) (T' := 45) (cs := (kv b).toArray) Try.isAgg39 rfl (.head _) rfl) rfl ?_) | refine WL.step (Yl.fldN0 rkN rfl) rfl ?_ | refine WL.step (Yl.gtr rfl rfl) rfl ?_ | refine WC.seq ?_ | refine WC.region ?_ | refine WL.nil ?_ | refine WN.then_normal ?_ | refine WC.skip ?_))
    refine WC.ite rfl (fun h2 => ?_) (fun h2 => ?_)
    · rw [if_pos (by omega)]
      (repeat (first | refine WL.step (Yl.assign rfl) rfl ?_ | refine WC.seq ?_ | refine WC.region ?_ | refine WL.nil ?_ | refine WN.then_normal ?_ | refine WC.ret ?_ | refine WN.then_ret ?_))
      exact WN.ret1 rfl rfl ⟨rfl, rfl⟩ .nil
    · rw [if_neg (by omega)]
      (repeat (first | refine WL.step (Yl.assign rfl) rfl ?_ | refine WC.seq ?_ | refine WC.region ?_ | refine WL.nil ?_ | refine WN.then_normal ?_ | refine WC.block ?_ | refine WC.skip ?_))
      refine WC.loop (α := Nat) (fun i => [(2, .pointer (some ⟨b1, 0, none⟩)), (3, .pointer (some ⟨b2, 0, none⟩)), (5, .int .i64 (i : Int))]) (fun _ => [.blk b2 (.cells (kv b).toArray 45 (0, 0)), .blk b1 (.cells (kv a).toArray 45 (0, 0))]) (fun i => i ≤ 32 ∧ Big.cmpL a.d b.d = Big.cmpL (a.d.drop i) (b.d.drop i)) (fun i => 32 - i) 0 (by repeat (first | exact Sub.nil | refine Sub.cons rfl rfl ?_)) (by repeat (first | exact Part.nil | refine Part.cons (by repeat (first | exact Pick.here | apply Pick.there)) ?_ | refine Part.free ?_)) ⟨by omega, rfl⟩ ?_
      intro i ⟨hi, he⟩
      rw [he]
      (repeat (first | refine WL.step (Yl.move rfl) rfl ?_ | refine WL.step (Yl.lss rfl rfl) rfl ?_ | refine WC.seq ?_ | refine WC.region ?_ | refine WL.nil ?_ | refine WN.then_normal ?_))
      refine WC.ite rfl (fun h3 => ?_) (fun h3 => ?_)
      · have h3 : i < 32 := by omega
        have hia : i < a.d.length := by rw [ha.2]; exact h3
        have hib : i < b.d.length := by rw [hb.2]; exact h3
        have hga : (kv a).toArray[1 + i * 1]? = some (bv (a.d.getD i 0)) := by rw [Nat.mul_one]; exact kv_get hia
        have hgb : (kv b).toArray[1 + i * 1]? = some (bv (b.d.getD i 0)) := by rw [Nat.mul_one]; exact kv_get hib
        rw [Big.cmpL_drop _ _ _ hia hib]
        (repeat (first | refine WC.seq ?_ | refine WN.then_normal ?_ | refine WC.block ?_ | refine WC.skip ?_))
        refine WC.regionQ (by kernel_rfl) (by kernel_rfl) ?_
        (repeat (first | refine WQ.step (Yl.fldN0 rkD rfl) rfl ?_ | refine WQ.step (Yl.indexArr (t := 40) Try.underlying40 Try.sizeOf5 rfl rfl h3) rfl ?_ | refine WQ.step (Yl.loadBlk (T := 5) (T' := 45) (cs := (kv a).toArray) Try.isAgg5 rfl (.tail _ (.head _)) hga) rfl ?_ | refine WQ.step (Yl.loadBlk (T := 5) (T' := 45) (cs := (kv b).toArray) Try.isAgg5 rfl (.head _) hgb) rfl ?_ | refine WQ.step (Yl.move rfl) rfl ?_ | refine WQ.step (Yl.lss rfl rfl) rfl ?_ | refine WQ.nil ?_))
        (repeat (first | refine WN.then_normal ?_))
        refine WC.ite rfl (fun h4 => ?_) (fun h4 => ?_)
        · rw [if_pos (by omega)]
          (repeat (first | refine WL.step (Yl.assign rfl) rfl ?_ | refine WC.seq ?_ | refine WC.region ?_ | refine WL.nil ?_ | refine WN.then_normal ?_ | refine WC.ret ?_ | refine WN.then_ret ?_ | refine WN.block_ret ?_))
          exact WN.ret1 rfl rfl ⟨rfl, rfl⟩ .nil
        · rw [if_neg (by omega)]
          (repeat (first | refine WC.seq ?_ | refine WN.then_normal ?_ | refine WC.skip ?_))
          refine WC.regionQ (by kernel_rfl) (by kernel_rfl) ?_
          (repeat (first | refine WQ.step (Yl.fldN0 rkD rfl) rfl ?_ | refine WQ.step (Yl.indexArr (t := 40) Try.underlying40 Try.sizeOf5 rfl rfl h3) rfl ?_ | refine WQ.step (Yl.loadBlk (T := 5) (T' := 45) (cs := (kv a).toArray) Try.isAgg5 rfl (.tail _ (.head _)) hga) rfl ?_ | refine WQ.step (Yl.loadBlk (T := 5) (T' := 45) (cs := (kv b).toArray) Try.isAgg5 rfl (.head _) hgb) rfl ?_ | refine WQ.step (Yl.move rfl) rfl ?_ | refine WQ.step (Yl.gtr rfl rfl) rfl ?_ | refine WQ.nil ?_))
          (repeat (first | refine WN.then_normal ?_))
          refine WC.ite rfl (fun h5 => ?_) (fun h5 => ?_)
          · rw [if_pos (by omega)]
            (repeat (first | refine WL.step (Yl.assign rfl) rfl ?_ | refine WC.seq ?_ | refine WC.region ?_ | refine WL.nil ?_ | refine WN.then_normal ?_ | refine WC.ret ?_ | refine WN.then_ret ?_ | refine WN.block_ret ?_))
            exact WN.ret1 rfl rfl ⟨rfl, rfl⟩ .nil
          · rw [if_neg (by omega)]
            (repeat (first | refine WL.step (Yl.move rfl) rfl ?_ | refine WL.step (Yl.assign rfl) rfl ?_ | (refine WL.k_bin .add ?_; refine WL.step (Yl.add64C rfl (by omega)) rfl ?_) | refine WC.region ?_ | refine WL.nil ?_ | refine WN.then_normal ?_ | refine WC.skip ?_ | refine WN.block_normal ?_))
            exact WN.next (i + 1) ⟨by omega, rfl⟩ (by omega) (by repeat (first | exact Sub.nil | refine Sub.cons rfl rfl ?_)) (by repeat (first | exact Part.nil | refine Part.cons (by repeat (first | exact Pick.here | apply Pick.there)) ?_ | refine Part.free ?_))
      · obtain rfl : i = 32 := by omega
        rw [Big.cmpL_nil (by simp [ha.2]) (by simp [hb.2])]
        (repeat (first | refine WL.step (Yl.assign rfl) rfl ?_ | refine WC.seq ?_ | refine WC.region ?_ | refine WL.nil ?_ | refine WN.then_normal ?_ | refine WC.exit ?_ | refine WC.ret ?_ | refine WN.then_exit ?_ | refine WN.block_here ?_))
        exact WN.ret1 rfl rfl ⟨rfl, rfl⟩ .nil
end Go.Proofs.Ytbfhdggfdhlkfaa
