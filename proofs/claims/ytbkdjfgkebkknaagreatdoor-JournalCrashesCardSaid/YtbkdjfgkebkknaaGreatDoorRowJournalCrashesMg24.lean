import Derived.Test.YtbkdjfgkebkknaaGreatDoorRowJournalCrashesMg8
import Derived.Test.YtbkdjfgkebkknaaGreatDoorRowJournalCrashesMg6
import Derived.Test.YtbkdjfgkebkknaaGreatDoorRowJournalCrashesMg23
namespace Go.Proofs.YtbkdjfgkebkknaaGreatDoor
set_option linter.unusedVariables false
set_option linter.unusedSimpArgs false
open Go Go.RowKit Go.Shelf
set_option maxRecDepth 100000
set_option maxHeartbeats 4000000
def encQ (x : Sl) : Value := x.v
def keysLB_ren : Go.Shelf.Ren := ⟨fun | 7 => 42 | 10 => 94 | n => n, fun | 23 => 33 | 26 => 3 | 3 => 23 | 28 => 94 | 0 => 0 | 27 => 93 | 33 => 68 | 4 => 4 | n => n, fun | n => n⟩
theorem keysLB : Go.Proofs.SlLaysZI.n7 Tryz.prog keysLB_ren := {
  mixed := by kernel_rfl,
  f7 := ⟨Tryz.f42.name, by decide, Tryz.func42.trans (congrArg some (by kernel_rfl))⟩,
  f10 := ⟨Tryz.f94.name, by decide, Tryz.func94.trans (congrArg some (by kernel_rfl))⟩,
  t0 := Tryz.underlying0,
  a0 := Tryz.isAgg0,
  z0 := Tryz.sizeOf0,
  v0 := Tryz.zeroValue0,
  t4 := Tryz.underlying4,
  a4 := Tryz.isAgg4,
  z4 := Tryz.sizeOf4,
  v4 := Tryz.zeroValue4,
  t23 := Tryz.underlying33,
  a23 := Tryz.isAgg33,
  z23 := Tryz.sizeOf33,
  v23 := Tryz.zeroValue33,
  t26 := Tryz.underlying3,
  a26 := Tryz.isAgg3,
  z26 := Tryz.sizeOf3,
  v26 := Tryz.zeroValue3,
  t27 := Tryz.underlying93,
  a27 := Tryz.isAgg93,
  z27 := Tryz.sizeOf93,
  v27 := Tryz.zeroValue93,
  t28 := Tryz.underlying94,
  a28 := Tryz.isAgg94,
  z28 := Tryz.sizeOf94,
  v28 := Tryz.zeroValue94,
  t33 := Tryz.underlying68,
  a33 := Tryz.isAgg68,
  z33 := Tryz.sizeOf68,
  v33 := Tryz.zeroValue68 }
def cloneLB_ren : Go.Shelf.Ren := ⟨fun | 5 => 65 | 7 => 113 | n => n, fun | 23 => 33 | 25 => 3 | 3 => 23 | 4 => 4 | 20 => 20 | n => n, fun | n => n⟩
theorem cloneLB : Go.Proofs.SlLaysW.n5 Tryz.prog cloneLB_ren := {
  mixed := by kernel_rfl,
  f5 := ⟨Tryz.f65.name, by decide, Tryz.func65.trans (congrArg some (by kernel_rfl))⟩,
  f7 := Tryz.func113.trans (congrArg some (by kernel_rfl)),
  t4 := Tryz.underlying4,
  a4 := Tryz.isAgg4,
  z4 := Tryz.sizeOf4,
  v4 := Tryz.zeroValue4,
  t20 := Tryz.underlying20,
  a20 := Tryz.isAgg20,
  z20 := Tryz.sizeOf20,
  v20 := Tryz.zeroValue20,
  t23 := Tryz.underlying33,
  a23 := Tryz.isAgg33,
  z23 := Tryz.sizeOf33,
  v23 := Tryz.zeroValue33 }
def KeysVB (mb : Nat) : Value → List HA → Prop := fun u B => ∃ bx, u = .func (.func 94) #[] #[.pointer (some ⟨bx, 0, none⟩)] ∧ B = [.blk bx (.cells #[.map (some mb)] 33 (0, 0))]
theorem keysB_c (mb : Nat) (w : World) : Calls Tryz.prog 42 #[.map (some mb)] w (Gives (KeysVB mb) w) := by
  have h : CallsIn Fence.wide 5 Tryz.prog 42 #[.map (some mb)] w fun e w' => e = .returned (.func (.func 94) #[] #[.pointer (some ⟨w.heap.size, 0, none⟩)]) ∧ w' = w.alloc (.cells #[.map (some mb)] 33) := AnyZI.keys_in keysLB Fence.wide 5 trivial rfl (some mb) w
  refine ((callsIn_wide (n := 5)).1 h).mono ?_
  rintro e w' ⟨rfl, rfl⟩
  exact ⟨_, _, rfl, ⟨_, rfl, rfl⟩, (St.start w).alloc _⟩
theorem sortedB_c {β : Type} {enc : β → Value} {n c : Nat} {F : Nat → Option β} {M : List (Nat × β × Nat)} (bx mb : Nat) (w : World) (h : MapIs n F M c) (hn : n ≤ 1000000)
    (hbx : w.heap[bx]? = some (.cells #[.map (some mb)] 33 (0, 0))) (hmb : w.heap[mb]? = some (mobj enc M c)) :
    Calls Tryz.prog 41 #[.func (.func 94) #[] #[.pointer (some ⟨bx, 0, none⟩)]] w (Gives (NewRow id 3 1 (dirtyOf n F).length (ncells (dirtyOf n F))) w) := by
  obtain ⟨D, hown, hperm, hsize⟩ := h.owns (P := Tryz.prog) (K := 3) Tryz.underlying3 hn hmb
  have hc := h.count
  have hseq : SeqGives Fence.wide 2 Tryz.prog 94 #[.pointer (some ⟨bx, 0, none⟩)] encZ (fun ss => ss.Perm (intKeys D)) (Maps.size D) w :=
    AnyZI.keys_gives (ρ := keysLB_ren) { keysLB with } Fence.wide _ trivial rfl (by omega) bx mb M.length D _ (lt_of_heap hbx) (by simp [World.cell?, hbx]) hown
  have cS := AnyZI.sorted_in sortedL Fence.wide 5 trivial trivial trivial trivial rfl (by omega) (sorts_all _) (enters_of Tryz.func57 (by kernel_rfl) rfl) 94 #[.pointer (some ⟨bx, 0, none⟩)] trivial (enters_of Tryz.func94 (by kernel_rfl) rfl) _ _ (by rw [hsize]; simp only [maxLen]; omega) (by rw [hsize]; omega) _ hseq
  refine ((callsIn_wide (n := 5)).1 cS).mono ?_
  rintro e w' ⟨v, ss, rfl, hS, hrow, _, hb⟩
  have hs := h.sorted (hS.trans hperm)
  have hl : ss.length = (dirtyOf n F).length := by
    have := congrArg List.length hs
    rwa [List.length_mergeSort, List.length_map] at this
  rw [hs, hl, List.map_map] at hrow
  exact gives_row (P := Tryz.prog) (T := 3) (xs := ncells (dirtyOf n F)) hrow hb
def MapVB (M : List (Nat × Sl × Nat)) (c : Nat) : Value → List HA → Prop := fun u B => ∃ b, u = .map (some b) ∧ B = [.blk b (mobj encQ M c)]
theorem clmB_c (mb : Nat) (M : List (Nat × Sl × Nat)) (c : Nat) (w : World) (h : w.heap[mb]? = some (mobj encQ M c)) :
    Calls Tryz.prog 65 #[.map (some mb)] w (Gives (MapVB M c) w) := by
  refine (AnyW.maps_Clone cloneLB mb _ _ w h).mono ?_
  rintro e w' ⟨rfl, rfl⟩
  exact ⟨_, _, rfl, ⟨_, rfl, rfl⟩, (St.start w).alloc _⟩
end Go.Proofs.YtbkdjfgkebkknaaGreatDoor
namespace Go.Proofs.YtbkdjfgkebkknaaGreatDoor
set_option linter.unusedVariables false
set_option linter.unusedSimpArgs false
open Go Go.RowKit
set_option maxRecDepth 100000
set_option maxHeartbeats 8000000
theorem blk_out {w0 w : World} {S : List Nat} {A A0 B : List HA} {b : Nat} {o : Obj} (s : St w0 S A w) (hp : A.Perm (A0 ++ B)) (hm : HA.blk b o ∈ B) : b ∉ A0.filterMap HA.foot ∧ w.heap[b]? = some o := by
  have s1 := s.perm hp
  refine ⟨fun h => ?_, s1.holds _ (List.mem_append_right _ hm)⟩
  have := s1.apart
  rw [List.filterMap_append, List.nodup_append] at this
  exact this.2.2 b h b (List.mem_filterMap.2 ⟨_, hm, rfl⟩) rfl
theorem Has.out {P : Program} {n : Nat} {w0 : World} {S : List Nat} {A : List HA} {b : Nat} {o : Obj} (h : b ∉ S ∧ w0.heap[b]? = some o) : Has ⟨P, n, w0, S⟩ A b o := fun _ s => (s.kept.block b (lt_of_heap h.2) h.1).trans h.2
abbrev SM := Nat → Option Sl
def noS : SM := fun _ => none
def byS (T : List Pg) (F : SM) : SM := T.foldl (fun F q => setF F q.no.toNat (some q.s)) F
def SM.c (F : SM) : CM := fun k => (F k).map (·.l)
theorem byS_c : ∀ (T : List Pg) (F : SM), (byS T F).c = byNo T F.c
  | [], _ => rfl
  | q :: T, F => by
    show (byS T (setF F q.no.toNat (some q.s))).c = byNo T (setF F.c q.no.toNat (some q.s.l))
    rw [byS_c T]
    congr 1
    funext k
    simp only [SM.c, setF]
    split <;> rfl
theorem byS_in {Z : List HA} : ∀ (T : List Pg) (F : SM), (∀ q ∈ T, InF Z q.s) → (∀ k s, F k = some s → InF Z s) → ∀ k s, byS T F k = some s → InF Z s
  | [], _, _, h => h
  | q :: T, F, hT, h => byS_in T _ (fun x hx => hT x (.tail _ hx)) fun k s hk => by
    simp only [setF] at hk
    split at hk
    · cases hk; exact hT q (.head _)
    · exact h k s hk
theorem dirty_c (n : Nat) (F : SM) : dirtyOf n F = dirtyOf n F.c := by
  simp only [dirtyOf]
  congr 1
  funext k
  simp only [SM.c]
  cases F k <;> rfl
def stV (b used tx : Nat) : Value := .agg #[.map (some b), .int .i64 (used : Int), .int .i64 (tx : Int)]
def WithV (F : SM) (used tx : Nat) : Value → List HA → Prop := fun u B => ∃ b M c, MapIs 4096 F M c ∧ u = stV b used tx ∧ B = [.blk b (mobj encQ M c)]
theorem buildSt (b : Nat) (w : World) : (Instr.build 35 [(0, .map (some b))].toArray).run Tryz.prog w = .ok (stV b 0 0) w := by
  simp [Instr.build, Tryz.zeroValue35, run_underlying Tryz.underlying35, Tryz.sizeOf33, Value.cells, Instr.fill, stV]
def HasV (dp : DP) (p : JP) (s : JS) (v : DV) (r : Bool) : Value → List HA → Prop := fun u B => u = .bool r ∧ ∃ (ds' : DS) (m : Nat), ds'.Ok dp ∧ ds'.v = { v with rd := v.rd + m } ∧ m ≤ 100 ∧ B = jI dp.bd p s ++ drI dp ds'
attribute [local irreducible] WL WC WN Yl WH WQ WT WE WU WG WV
theorem fresh_c (w : World) : Calls Tryz.prog 13 #[] w (Gives (WithV noS 0 0) w) := by
  refine enter (args := []) Tryz.func13 Tryz.ntmps13 rfl rfl ?_
  (repeat (first | refine WC.seq ?_ | refine WC.region ?_))
  refine WL.allocA Tryz.zeroValue35 rfl fun b0 => ?_
  (repeat (first | refine WC.seq ?_ | refine WC.region ?_ | refine WL.nil ?_ | refine WN.then_normal ?_))
  refine WL.makeMap (enc := encQ) rfl fun b => ?_
  (repeat (first | refine WL.step (Yl.build (ps := [(0, .tmp 1)]) (vs := [(0, .map (some b))]) rfl (buildSt b)) rfl ?_))
  refine WL.storeWhole (T := 35) (k := 3) Tryz.sizeOf35 rfl rfl rfl (.there .here) rfl rfl ?_
  (repeat (first | refine WL.nil ?_ | refine WN.then_normal ?_ | refine WC.ret ?_))
  exact WN.ret1C (us := #[.map (some b), .int .i64 0, .int .i64 0]) rfl Tryz.isAgg35 Tryz.sizeOf35 rfl (.head _) rfl ⟨b, [], 0, MapIs.empty _, rfl, rfl⟩ (.cons (.there .here) .nil)
theorem with_c (b used tx : Nat) (F : SM) (M : List (Nat × Sl × Nat)) (c : Nat) (a : Option Addr) (n cap : Nat) (T : List Pg) (w : World) (hu : used ≤ 100000) (ht : tx ≤ 100000) (hl : T.length = n) (hn : n ≤ 4096) (hp : PgOk T) (hM : MapIs 4096 F M c) (hb : w.heap[b]? = some (mobj encQ M c)) (hr : CellsAt w a (pgs T)) :
    Calls Tryz.prog 17 #[stV b used tx, .slice a n cap] w (Gives (WithV (byS T F) (used + 5 * n + 1) (tx + 1)) w) := by
  refine enter (args := [.agg #[.map (some b), .int .i64 (used : Int), .int .i64 (tx : Int)], _]) Tryz.func17 Tryz.ntmps17 rfl rfl ?_
  (repeat (first | refine WC.seq ?_ | refine WC.region ?_))
  refine WL.boxA rfl rfl fun b2 => ?_
  refine WL.allocA Tryz.zeroValue35 rfl fun b4 => ?_
  (repeat (first | (refine WL.k_load ?_; refine WL.step (Yl.loadBlk (T := 33) Tryz.isAgg33 rfl (by repeat (first | exact .head _ | refine .tail _ ?_)) (by rfl)) rfl ?_) | (refine WL.k_fld ?_; refine WL.step (Yl.fldN0 (i := 0) (o := 0) (by kernel_rfl) rfl) rfl ?_) | refine WC.seq ?_ | refine WC.region ?_ | refine WL.nil ?_ | refine WN.then_normal ?_))
  refine WL.call (g := 65) Tryz.call65 rfl (fun w0 st => clmB_c b M c w0 ((st.kept.block b (lt_of_heap hb) (by simp)).trans hb)) rfl fun v1 B1 hv1 => ?_
  obtain ⟨bn, rfl, rfl⟩ := hv1
  simp only [List.cons_append, List.nil_append]
  (repeat (first | (refine WL.k_fld ?_; refine WL.step (Yl.fldN0 (i := 0) (o := 0) (by kernel_rfl) rfl) rfl ?_)))
  refine WL.storeAt (T := 33) Tryz.sizeOf33 rfl rfl rfl (.there (.there .here)) rfl ?_
  simp only [List.setIfInBounds_toArray, List.set_cons_zero]
  (repeat (first | refine WL.step (Yl.move rfl) rfl ?_ | refine WL.step (Yl.len (t := 37) Tryz.underlying37 rfl) rfl ?_ | refine WC.seq ?_ | refine WC.region ?_ | refine WL.nil ?_ | refine WN.then_normal ?_ | refine WC.block ?_))
  refine WC.loop (α := Nat × List (Nat × Sl × Nat) × Nat) (fun g => [(1, .slice a n cap), (2, .pointer (some ⟨b2, 0, none⟩)), (4, .pointer (some ⟨b4, 0, none⟩)), (11, .slice a n cap), (12, .int .i64 (n : Int)), (13, .int .i64 (g.1 : Int))])
    (fun g => [.blk bn (mobj encQ g.2.1 g.2.2), .blk b2 (.cells #[.map (some bn), .int .i64 (used : Int), .int .i64 (tx : Int)] 35 (0, 0)), .blk b4 (.cells #[.map none, .int .i64 0, .int .i64 0] 35 (0, 0))])
    (fun g => g.1 ≤ n ∧ MapIs 4096 (byS (T.take g.1) F) g.2.1 g.2.2) (fun g => n - g.1) (0, M, c) (by repeat (first | exact Sub.nil | refine Sub.cons rfl rfl ?_)) (.cons (.there .here) (.cons .here (.cons .here .nil))) ⟨Nat.zero_le _, hM⟩ ?_
  rintro ⟨i, M1, c1⟩ ⟨hi, hM1⟩
  simp only at hi hM1 ⊢
  (repeat (first | refine WL.step (Yl.lss rfl rfl) rfl ?_ | refine WC.seq ?_ | refine WC.region ?_ | refine WL.nil ?_ | refine WN.then_normal ?_))
  refine WC.ite rfl (fun h1 => ?_) (fun h1 => ?_)
  · have hin : i < n := by omega
    obtain ⟨q, hq⟩ : ∃ q, T[i]? = some q := ⟨T[i]'(by omega), List.getElem?_eq_getElem (by omega)⟩
    have hqm := List.mem_of_getElem? hq
    have q0 := hp.low q hqm
    have q1 := hp.high q hqm
    have hqn : q.no = ((q.no.toNat : Nat) : Int) := by omega
    (repeat (first | (refine WL.k_load ?_; refine WL.step (Yl.loadEl q.cs Tryz.isAgg106 Tryz.sizeOf106 rfl (Rd.old hr) rfl (by simp [Pg.cs]) (pg_at hq)) rfl ?_) | refine WL.step (Yl.indexAddr (t := 37) (j := i) Tryz.underlying37 Tryz.sizeOf106 rfl rfl (Rd.old hr) (pgs_ne hq) hin) rfl ?_ | refine WC.seq ?_ | refine WC.region ?_ | refine WN.then_normal ?_ | refine WC.block ?_ | refine WC.skip ?_))
    refine WL.allocA Tryz.zeroValue106 rfl fun b6 => ?_
    skip
    refine WL.storeWhole (T := 106) (k := 2) Tryz.sizeOf106 rfl rfl rfl .here rfl rfl ?_
    rw [show q.cs.toArray = #[.int .i64 q.no, q.s.v] from rfl]
    (repeat (first | (refine WL.k_load ?_; first | refine WL.step (Yl.loadBlk (T := 33) Tryz.isAgg33 rfl (by repeat (first | exact .head _ | refine .tail _ ?_)) (by rfl)) rfl ?_ | refine WL.step (Yl.loadBlk (T := 3) Tryz.isAgg3 rfl (by repeat (first | exact .head _ | refine .tail _ ?_)) (by rfl)) rfl ?_ | refine WL.step (Yl.loadBlk (T := 23) Tryz.isAgg23 rfl (by repeat (first | exact .head _ | refine .tail _ ?_)) (by rfl)) rfl ?_) | (refine WL.k_fld ?_; first | refine WL.step (Yl.fldN0 (i := 0) (o := 0) (by kernel_rfl) rfl) rfl ?_ | refine WL.step (Yl.fldN0 (i := 1) (o := 1) (by kernel_rfl) rfl) rfl ?_) | refine WC.region ?_ | refine WL.nil ?_ | refine WN.then_normal ?_))
    refine WL.mapUpdate (u := q.s) (k := q.no.toNat) Tryz.underlying33 Tryz.underlying3 rfl (by rw [← hqn]; rfl) rfl hM1 (by omega) (.there .here) fun M2 c2 hM2 => ?_
    (repeat (first | refine WL.step (Yl.move rfl) rfl ?_ | (refine WL.k_bin .add ?_; refine WL.step (Yl.add64C rfl (by omega)) rfl ?_) | refine WC.region ?_ | refine WL.nil ?_ | refine WN.then_normal ?_ | refine WN.block_normal ?_))
    refine WN.next (i + 1, M2, c2) ⟨hin, ?_⟩ (by simp only; omega) (by repeat (first | exact Sub.nil | refine Sub.cons rfl rfl ?_)) (.cons .here (.cons (.there .here) (.cons (.there .here) .nil)))
    show MapIs 4096 (byS (T.take (i + 1)) F) M2 c2
    rw [take_one hq, byS, List.foldl_append]
    exact hM2
  · have hin : i = n := by omega
    subst hin
    rw [List.take_of_length_le (by omega)] at hM1
    (repeat (first | refine WL.step (Yl.move rfl) rfl ?_ | (refine WL.k_load ?_; refine WL.step (Yl.loadBlk (T := 3) Tryz.isAgg3 rfl (by repeat (first | exact .head _ | refine .tail _ ?_)) (by rfl)) rfl ?_) | (refine WL.k_fld ?_; refine WL.step (Yl.fldN0 (i := 1) (o := 1) (by kernel_rfl) rfl) rfl ?_) | refine WL.step (Yl.len (t := 37) Tryz.underlying37 rfl) rfl ?_ | (refine WL.k_bin .mul ?_; refine WL.step (Yl.mulC64 (m := i) rfl (by omega)) rfl ?_) | (refine WL.k_bin .add ?_; first | refine WL.step (Yl.add64C (m := 5 * i) rfl (by omega)) rfl ?_ | refine WL.step (Yl.add64N (m := used) (n := 5 * i + 1) rfl rfl (by omega)) rfl ?_) | refine WC.seq ?_ | refine WC.region ?_ | refine WN.then_normal ?_ | refine WC.exit ?_ | refine WN.then_exit ?_ | refine WN.block_here ?_))
    refine WL.storeAt (T := 3) Tryz.sizeOf3 rfl rfl rfl (.there .here) rfl ?_
    simp only [List.setIfInBounds_toArray, List.set_cons_succ, List.set_cons_zero]
    (repeat (first | (refine WL.k_load ?_; refine WL.step (Yl.loadBlk (T := 3) Tryz.isAgg3 rfl (by repeat (first | exact .head _ | refine .tail _ ?_)) (by rfl)) rfl ?_) | (refine WL.k_fld ?_; refine WL.step (Yl.fldN0 (i := 2) (o := 2) (by kernel_rfl) rfl) rfl ?_) | (refine WL.k_bin .add ?_; refine WL.step (Yl.add64C (m := tx) rfl (by omega)) rfl ?_) | refine WC.seq ?_ | refine WC.region ?_ | refine WL.nil ?_ | refine WN.then_normal ?_))
    refine WL.storeAt (T := 3) Tryz.sizeOf3 rfl rfl rfl .here rfl ?_
    simp only [List.setIfInBounds_toArray, List.set_cons_succ, List.set_cons_zero]
    (repeat (first | (refine WL.k_load ?_; refine WL.step (Yl.loadAll (T := 35) (T' := 35) Tryz.isAgg35 Tryz.sizeOf35 rfl (by repeat (first | exact .head _ | refine .tail _ ?_)) rfl) rfl ?_) | refine WC.seq ?_ | refine WC.region ?_ | refine WL.nil ?_ | refine WN.then_normal ?_))
    refine WL.storeWhole (T := 35) (k := 3) Tryz.sizeOf35 rfl rfl rfl (.there (.there .here)) rfl rfl ?_
    (repeat (first | refine WL.nil ?_ | refine WN.then_normal ?_ | refine WC.ret ?_))
    exact WN.ret1C (us := #[.map (some bn), .int .i64 ((used + 5 * i + 1 : Nat) : Int), .int .i64 ((tx + 1 : Nat) : Int)]) rfl Tryz.isAgg35 Tryz.sizeOf35 rfl (.head _) rfl ⟨bn, M1, c1, hM1, rfl, rfl⟩ (.cons (.there (.there .here)) .nil)
def getR (C : CM) (no : Nat) : List UInt8 × Bool × Nat := match C no with | none => ([], false, 0) | some b => (b, true, 0)
theorem has_r {dp : DP} {ds : DS} {p : JP} {s : JS} {S : List Nat} (b : Nat) (F : SM) (M : List (Nat × Sl × Nat)) (c : Nat) (w : World) (dok : ds.Ok dp) (jok : s.Ok) (hrow : s.v.first + s.v.n ≤ ds.v.d.length) (hF : ∀ k q, s.v.F k = some q → q.at_ ≤ s.v.n) (hrd : ds.v.rd < 576460752303423488) (hT : TabO w S)
    (hM : MapIs 4096 F M c) (hb : b ∉ S ∧ w.heap[b]? = some (mobj encQ M c)) (hO : ∀ k q, F k = some q → CellsOut w S q.a (bs q.l)) (hd : dirtyOf 4096 s.v.F = dirtyOf 4096 F) (hg : ∀ no : Nat, no < 20 → ∀ r, jget { ds.v with rd := r } s.v (no : Int) = getR F.c no) (st : St w S (jI dp.bd p s ++ drI dp ds) w) :
    Calls Tryz.prog 21 #[stV b s.v.used s.v.tx, bptr p.bj] w (GivesS S (HasV dp p s ds.v true) w) := by
  refine enterS (args := [.agg #[.map (some b), .int .i64 (s.v.used : Int), .int .i64 (s.v.tx : Int)], .pointer (some ⟨p.bj, 0, none⟩)]) Tryz.func21 Tryz.ntmps21 rfl rfl st ?_
  (repeat (first | refine WC.seq ?_ | refine WC.region ?_))
  refine WL.boxA rfl rfl fun b2 => ?_
  (repeat (first | refine WL.step (Yl.assign rfl) rfl ?_ | refine WC.seq ?_ | refine WL.nil ?_ | refine WN.then_normal ?_))
  have hmj : ∀ {x : HA}, x ∈ jI dp.bd p s → x ∈ (HA.blk b2 (.cells #[.map (some b), .int .i64 (s.v.used : Int), .int .i64 (s.v.tx : Int)] 35 (0, 0)) :: (jI dp.bd p s ++ drI dp ds)) := fun h => .tail _ (List.mem_append_left _ h)
  refine WC.regionH [.blk b2 (.cells #[.map (some b), .int .i64 (s.v.used : Int), .int .i64 (s.v.tx : Int)] 35 (0, 0))] (by kernel_rfl) ?_
  (refine WH.order [0, 1, 2, 3, 5, 6] (by repeat (first | exact Part.nil | refine Part.cons (by repeat (first | exact Pick.here | apply Pick.there)) ?_ | refine Part.free ?_)) (by kernel_rfl) ?_; (repeat (first | (refine WT.k_move rfl ?_; first | (refine WT.kn rfl ?_; refine WT.take rfl rfl (fun _ _ _ h => h) (Yl.move rfl) rfl (by kernel_rfl) (by kernel_rfl) ?_) | (refine WT.kg rfl ?_; refine WT.takeG rfl rfl rfl rfl (fun _ _ _ h => h) (Yl.move rfl) rfl (by kernel_rfl) (by kernel_rfl) ?_)) | (refine WT.k_load rfl ?_; (refine WT.kg rfl ?_; refine WT.takeG rfl rfl rfl rfl (fun _ _ _ h => h) (Yl.loadBlk (T := 3) Tryz.isAgg3 rfl (by repeat (first | exact .head _ | refine .tail _ ?_)) (by rfl)) rfl (by kernel_rfl) (by kernel_rfl) ?_)) | (refine WT.k_fld rfl ?_; (refine WT.kg rfl ?_; refine WT.takeG rfl rfl rfl rfl (fun _ _ _ h => h) (Yl.fldN0 (i := 1) (o := 1) (by kernel_rfl) rfl) rfl (by kernel_rfl) (by kernel_rfl) ?_)) | (refine WT.k_bin .eql rfl ?_; (refine WT.kn rfl ?_; refine WT.take rfl rfl (fun _ _ _ h => h) (Yl.eqlPN (by kernel_rfl) rfl) rfl (by kernel_rfl) (by kernel_rfl) ?_)))); refine WT.nil ?_)
  refine WH.only (i := 4) (by kernel_rfl) rfl ?_
  refine WL.want rfl rfl rfl ?_
  refine WL.callV (g := 36) (v := .int .i64 (s.v.used : Int)) Tryz.call36 rfl (fun w0 st2 => jused_c w0 (jok.at_ st2 fun _ h => hmj h)) rfl ?_
  refine WL.nil (WN.nextH (.cons .here .nil) ?_)
  (refine WH.order [7, 8, 9, 10, 12, 13] (by repeat (first | exact Part.nil | refine Part.cons (by repeat (first | exact Pick.here | apply Pick.there)) ?_ | refine Part.free ?_)) (by kernel_rfl) ?_; (repeat (first | (refine WT.k_move rfl ?_; first | (refine WT.kn rfl ?_; refine WT.take rfl rfl (fun _ _ _ h => h) (Yl.move rfl) rfl (by kernel_rfl) (by kernel_rfl) ?_) | (refine WT.kg rfl ?_; refine WT.takeG rfl rfl rfl rfl (fun _ _ _ h => h) (Yl.move rfl) rfl (by kernel_rfl) (by kernel_rfl) ?_)) | (refine WT.k_load rfl ?_; (refine WT.kg rfl ?_; refine WT.takeG rfl rfl rfl rfl (fun _ _ _ h => h) (Yl.loadBlk (T := 3) Tryz.isAgg3 rfl (by repeat (first | exact .head _ | refine .tail _ ?_)) (by rfl)) rfl (by kernel_rfl) (by kernel_rfl) ?_)) | (refine WT.k_fld rfl ?_; (refine WT.kg rfl ?_; refine WT.takeG rfl rfl rfl rfl (fun _ _ _ h => h) (Yl.fldN0 (i := 2) (o := 2) (by kernel_rfl) rfl) rfl (by kernel_rfl) (by kernel_rfl) ?_)) | (refine WT.k_pick rfl ?_; (refine WT.kn rfl ?_; refine WT.take rfl rfl (fun _ _ _ h => h) (Yl.pick_f rfl rfl rfl) rfl (by kernel_rfl) (by kernel_rfl) ?_)) | (refine WT.k_bin .neq rfl ?_; (refine WT.kg rfl ?_; refine WT.takeG rfl rfl rfl rfl (fun _ _ _ h => h) (Yl.neqF (m := (s.v.used : Int)) (n := (s.v.used : Int)) rfl rfl rfl) rfl (by kernel_rfl) (by kernel_rfl) ?_)))); refine WT.nil ?_)
  refine WH.only (i := 11) (by kernel_rfl) rfl ?_
  refine WL.want rfl rfl rfl ?_
  refine WL.callV (g := 35) (v := .int .i64 (s.v.tx : Int)) Tryz.call35 rfl (fun w0 st2 => jtx_c w0 (jok.at_ st2 fun _ h => hmj h)) rfl ?_
  refine WL.nil (WN.nextH (.cons .here .nil) ?_)
  (refine WH.order [14, 15, 16, 17, 19, 20] (by repeat (first | exact Part.nil | refine Part.cons (by repeat (first | exact Pick.here | apply Pick.there)) ?_ | refine Part.free ?_)) (by kernel_rfl) ?_; (repeat (first | (refine WT.k_move rfl ?_; first | (refine WT.kn rfl ?_; refine WT.take rfl rfl (fun _ _ _ h => h) (Yl.move rfl) rfl (by kernel_rfl) (by kernel_rfl) ?_) | (refine WT.kg rfl ?_; refine WT.takeG rfl rfl rfl rfl (fun _ _ _ h => h) (Yl.move rfl) rfl (by kernel_rfl) (by kernel_rfl) ?_)) | (refine WT.k_load rfl ?_; (refine WT.kg rfl ?_; refine WT.takeG rfl rfl rfl rfl (fun _ _ _ h => h) (Yl.loadBlk (T := 33) Tryz.isAgg33 rfl (by repeat (first | exact .head _ | refine .tail _ ?_)) (by rfl)) rfl (by kernel_rfl) (by kernel_rfl) ?_)) | (refine WT.k_fld rfl ?_; (refine WT.kg rfl ?_; refine WT.takeG rfl rfl rfl rfl (fun _ _ _ h => h) (Yl.fldN0 (i := 0) (o := 0) (by kernel_rfl) rfl) rfl (by kernel_rfl) (by kernel_rfl) ?_)) | (refine WT.k_pick rfl ?_; (refine WT.kn rfl ?_; refine WT.take rfl rfl (fun _ _ _ h => h) (Yl.pick_f rfl rfl rfl) rfl (by kernel_rfl) (by kernel_rfl) ?_)) | (refine WT.k_bin .neq rfl ?_; (refine WT.kg rfl ?_; refine WT.takeG rfl rfl rfl rfl (fun _ _ _ h => h) (Yl.neqF (m := (s.v.tx : Int)) (n := (s.v.tx : Int)) rfl rfl rfl) rfl (by kernel_rfl) (by kernel_rfl) ?_)))); refine WT.nil ?_)
  refine WH.only (i := 18) (by kernel_rfl) rfl ?_
  refine WL.want rfl rfl rfl ?_
  refine WL.callR (g := 34) Tryz.call34 rfl (fun w0 st2 => jpages_c w0 (jok.at_ st2 fun _ h => hmj h)) rfl fun q1 hq1 => ?_
  refine WL.nil (WN.nextH (.cons (.there .here) .nil) ?_)
  refine WH.only (i := 21) (by kernel_rfl) rfl ?_
  refine WL.want rfl rfl rfl ?_
  refine WL.call (g := 42) Tryz.call42 rfl (fun w0 st2 => keysB_c b w0) rfl fun v1 B1 hv1 => ?_
  obtain ⟨bk, rfl, rfl⟩ := hv1
  simp only [List.cons_append, List.nil_append]
  refine WL.nil (WN.nextH (.cons (.there (.there .here)) .nil) ?_)
  refine WH.only (i := 22) (by kernel_rfl) rfl ?_
  refine WL.want rfl rfl rfl ?_
  refine WL.callR (g := 41) Tryz.call41 rfl (fun w0 st2 => sortedB_c bk b w0 hM (by decide) (st2.holds _ (.head _)) (Has.out hb w0 st2)) rfl fun q2 hq2 => ?_
  refine WL.nil (WN.nextH (.cons (.there (.there (.there .here))) .nil) ?_)
  refine WH.only (i := 23) (by kernel_rfl) rfl ?_
  refine WL.want rfl rfl rfl ?_
  rw [hd, ncells_z]
  have hdl : (dirtyOf 4096 F).length ≤ 4096 := dirty_len 4096 F
  refine WL.callV (g := 40) (v := .bool true) Tryz.call40 rfl (fun w0 st2 => by have := iequal_c q1.1 q2.1 (dirtyOf 4096 F).length (dirtyOf 4096 F).length q1.2 q2.2 ((dirtyOf 4096 F).map fun (k : Nat) => (k : Int)) ((dirtyOf 4096 F).map fun (k : Nat) => (k : Int)) w0 (List.length_map _) (List.length_map _) (by omega) (Rd.row (.tail _ (.tail _ (.head _))) w0 st2) (Rd.row (.head _) w0 st2); rw [decide_eq_true rfl] at this; exact this) rfl ?_
  refine WL.nil (WN.nextH (.cons (.there (.there (.there .here))) .nil) ?_)
  (refine WH.order [24, 25] (by repeat (first | exact Part.nil | refine Part.cons (by repeat (first | exact Pick.here | apply Pick.there)) ?_ | refine Part.free ?_)) (by kernel_rfl) ?_; (repeat (first | (refine WT.k_pick rfl ?_; (refine WT.kn rfl ?_; refine WT.take rfl rfl (fun _ _ _ h => h) (Yl.pick_f rfl rfl rfl) rfl (by kernel_rfl) (by kernel_rfl) ?_)) | (refine WT.k_unop rfl ?_; (refine WT.kg rfl ?_; refine WT.takeG rfl rfl rfl rfl (fun _ _ _ h => h) (Yl.not rfl) rfl (by kernel_rfl) (by kernel_rfl) ?_)))); refine WT.nil ?_)
  refine WH.done (by kernel_rfl) ?_
  (repeat (first | refine WN.then_normal ?_))
  refine WC.cond_false rfl rfl ?_
  (repeat (first | refine WL.step (Yl.move rfl) rfl ?_ | refine WC.seq ?_ | refine WC.region ?_ | refine WL.nil ?_ | refine WN.then_normal ?_ | refine WC.block ?_ | refine WC.skip ?_))
  refine WC.loop (α := Nat × DS) (fun g => [(1, .pointer (some ⟨p.bj, 0, none⟩)), (2, .pointer (some ⟨b2, 0, none⟩)), (37, .int .i64 (g.1 : Int))]) (fun g => .blk b2 (.cells #[.map (some b), .int .i64 (s.v.used : Int), .int .i64 (s.v.tx : Int)] 35 (0, 0)) :: (jI dp.bd p s ++ drI dp g.2))
    (fun g => g.1 ≤ 20 ∧ g.2.Ok dp ∧ ∃ m, m ≤ 5 * g.1 ∧ g.2.v = { ds.v with rd := ds.v.rd + m }) (fun g => 20 - g.1) (0, ds) (by repeat (first | exact Sub.nil | refine Sub.cons rfl rfl ?_)) (.cons (.there (.there (.there .here))) (.more (.more (.more (Part.refl _))))) ⟨Nat.zero_le _, dok, 0, Nat.le_refl _, rfl⟩ ?_
  rintro ⟨i, d1⟩ ⟨hi, d1ok, m, hm, hd1⟩
  simp only at hi d1ok hm hd1 ⊢
  (repeat (first | refine WL.step (Yl.lss rfl rfl) rfl ?_ | refine WC.seq ?_ | refine WC.region ?_ | refine WL.nil ?_ | refine WN.then_normal ?_))
  refine WC.ite rfl (fun h1 => ?_) (fun h1 => ?_)
  · have hi20 : i < 20 := by omega
    (repeat (first | refine WL.step (Yl.move rfl) rfl ?_ | refine WL.step (Yl.assign rfl) rfl ?_ | refine WC.seq ?_ | refine WC.region ?_ | refine WL.nil ?_ | refine WN.then_normal ?_ | refine WC.block ?_ | refine WC.skip ?_))
    refine WL.callS (g := 33) (A0 := jI dp.bd p s ++ drI dp d1) (B := [_]) (vs := [.pointer (some ⟨p.bj, 0, none⟩), .int .i64 (i : Int)]) (R := JGetV dp p s { ds.v with rd := ds.v.rd + m } (getR F.c i)) Tryz.call33 rfl (permA1 _ _) (fun w0 st2 s1 => jget_v (i : Int) w0 (getR F.c i) d1ok hd1 jok rfl (hg i hi20 _) hrow hF (by show ds.v.rd + m < _; omega) (old_out st2 (permA1 _ _) hT) s1) rfl fun v C hv => ?_
    obtain ⟨z, uu, d2, m2, hz1, hz2, rfl, d2ok, hd2, hm2, rfl⟩ := hv
    refine WL.part (Part.perm (permA1 _ _).symm) ?_
    have hd2' : d2.v = { ds.v with rd := ds.v.rd + (m + m2) } := by rw [hd2]; simp only [Nat.add_assoc]
    have hrz : ∀ {X : Cx} {A : List HA}, HA.row z.1 z.2 5 1 (bs uu) ∈ A → ∀ w, St X.w0 X.S A w → CellsAt w (cutA z.1 11 z.2 1) (bs (getR F.c i).1) := fun {X A} hm w st => by
      have h9 := (CellsOut.cutd (CellsAt.out (Rd.row (X := X) hm w st)) 11 hz2).at_
      rwa [hz1] at h9
    cases hf : F i with
    | none =>
      have hgr : getR F.c i = ([], false, 0) := by simp [getR, SM.c, hf]
      rw [hgr] at hrz ⊢
      (repeat (first | refine WL.want rfl rfl rfl ?_ | refine WL.step (Yl.lookupF (k := i) (enc := encQ) Tryz.underlying33 Tryz.underlying3 Tryz.zeroValue23 rfl rfl hM hf (Has.out hb)) rfl ?_ | refine WL.step (Yl.move rfl) rfl ?_ | refine WL.step (Yl.assign rfl) rfl ?_ | refine WL.step (Yl.extract rfl rfl) rfl ?_ | (refine WL.k_load ?_; refine WL.step (Yl.loadBlk (T := 33) Tryz.isAgg33 rfl (by repeat (first | exact .head _ | refine .tail _ ?_)) (by rfl)) rfl ?_) | (refine WL.k_fld ?_; refine WL.step (Yl.fldN0 (i := 0) (o := 0) (by kernel_rfl) rfl) rfl ?_) | refine WL.step (Yl.pick_f rfl rfl rfl) rfl ?_ | (refine WL.k_bin .neq ?_; first | refine WL.step (Yl.neqB (t := 4) (p := false) (q := false) Tryz.underlying4 rfl rfl) rfl ?_ | refine WL.step (Yl.neqF rfl rfl rfl) rfl ?_) | (refine WL.k_call 47 ?_; refine WL.callV (g := 47) (v := .bool true) Tryz.call47 rfl (fun w0 st2 => by have := bequal_c (cutA z.1 11 z.2 1) none 0 0 (z.2 - 11) 0 [] [] w0 rfl rfl (.inl rfl) (.inl rfl); exact this) rfl ?_) | refine WL.step (Yl.not rfl) rfl ?_ | refine WC.seq ?_ | refine WC.region ?_ | refine WL.nil ?_ | refine WN.then_normal ?_))
      refine WC.cond_false rfl rfl ?_
      (repeat (first | refine WL.step (Yl.move rfl) rfl ?_ | (refine WL.k_bin .add ?_; refine WL.step (Yl.add64C rfl (by omega)) rfl ?_) | refine WC.region ?_ | refine WL.nil ?_ | refine WN.then_normal ?_ | refine WC.skip ?_ | refine WN.block_normal ?_))
      exact WN.next (i + 1, d2) ⟨by simp only; omega, d2ok, m + m2, by simp only; omega, hd2'⟩ (by simp only; omega) (by repeat (first | exact Sub.nil | refine Sub.cons rfl rfl ?_)) (.cons .here (.more (Part.refl _)))
    | some q =>
      have hgr : getR F.c i = (q.l, true, 0) := by simp [getR, SM.c, hf]
      rw [hgr] at hrz ⊢
      (repeat (first | refine WL.want rfl rfl rfl ?_ | refine WL.step (Yl.lookupT (k := i) (u := q) (enc := encQ) Tryz.underlying33 Tryz.underlying3 Tryz.zeroValue23 rfl rfl hM hf (Has.out hb)) rfl ?_ | refine WL.step (Yl.move rfl) rfl ?_ | refine WL.step (Yl.assign rfl) rfl ?_ | refine WL.step (Yl.extract rfl rfl) rfl ?_ | (refine WL.k_load ?_; refine WL.step (Yl.loadBlk (T := 33) Tryz.isAgg33 rfl (by repeat (first | exact .head _ | refine .tail _ ?_)) (by rfl)) rfl ?_) | (refine WL.k_fld ?_; refine WL.step (Yl.fldN0 (i := 0) (o := 0) (by kernel_rfl) rfl) rfl ?_) | refine WL.step (Yl.pick_f rfl rfl rfl) rfl ?_ | (refine WL.k_bin .neq ?_; first | refine WL.step (Yl.neqB (t := 4) (p := true) (q := true) Tryz.underlying4 rfl rfl) rfl ?_ | refine WL.step (Yl.neqF rfl rfl rfl) rfl ?_) | (refine WL.k_call 47 ?_; refine WL.callV (g := 47) (v := .bool true) Tryz.call47 rfl (fun w0 st2 => by have := bequal_c (cutA z.1 11 z.2 1) q.a q.l.length q.l.length (z.2 - 11) q.c q.l q.l w0 rfl rfl (hrz (.tail _ (.head _)) w0 st2) (Rd.out (hO i q hf) w0 st2); rw [decide_eq_true rfl] at this; exact this) rfl ?_) | refine WL.step (Yl.not rfl) rfl ?_ | refine WC.seq ?_ | refine WC.region ?_ | refine WL.nil ?_ | refine WN.then_normal ?_))
      refine WC.cond_false rfl rfl ?_
      (repeat (first | refine WL.step (Yl.move rfl) rfl ?_ | (refine WL.k_bin .add ?_; refine WL.step (Yl.add64C rfl (by omega)) rfl ?_) | refine WC.region ?_ | refine WL.nil ?_ | refine WN.then_normal ?_ | refine WC.skip ?_ | refine WN.block_normal ?_))
      exact WN.next (i + 1, d2) ⟨by simp only; omega, d2ok, m + m2, by simp only; omega, hd2'⟩ (by simp only; omega) (by repeat (first | exact Sub.nil | refine Sub.cons rfl rfl ?_)) (.cons .here (.more (Part.refl _)))
  · (repeat (first | refine WL.step (Yl.assign rfl) rfl ?_ | refine WC.seq ?_ | refine WC.region ?_ | refine WL.nil ?_ | refine WN.then_normal ?_ | refine WC.exit ?_ | refine WC.ret ?_ | refine WN.then_exit ?_ | refine WN.block_here ?_))
    exact WN.ret1S rfl rfl ⟨rfl, d1, m, d1ok, hd1, by omega, rfl⟩ (.more (Part.refl _))
theorem hasno_r {dp : DP} {ds : DS} {p : JP} {s : JS} {S : List Nat} (b used tx : Nat) (w : World) (dok : ds.Ok dp) (jok : s.Ok) (hne : s.v.used ≠ used) (st : St w S (jI dp.bd p s ++ drI dp ds) w) :
    Calls Tryz.prog 21 #[stV b used tx, bptr p.bj] w (GivesS S (HasV dp p s ds.v false) w) := by
  refine enterS (args := [.agg #[.map (some b), .int .i64 (used : Int), .int .i64 (tx : Int)], .pointer (some ⟨p.bj, 0, none⟩)]) Tryz.func21 Tryz.ntmps21 rfl rfl st ?_
  (repeat (first | refine WC.seq ?_ | refine WC.region ?_))
  refine WL.boxA rfl rfl fun b2 => ?_
  (repeat (first | refine WL.step (Yl.assign rfl) rfl ?_ | refine WC.seq ?_ | refine WL.nil ?_ | refine WN.then_normal ?_))
  have hmj : ∀ {x : HA}, x ∈ jI dp.bd p s → x ∈ (HA.blk b2 (.cells #[.map (some b), .int .i64 (used : Int), .int .i64 (tx : Int)] 35 (0, 0)) :: (jI dp.bd p s ++ drI dp ds)) := fun h => .tail _ (List.mem_append_left _ h)
  refine WC.regionH [.blk b2 (.cells #[.map (some b), .int .i64 (used : Int), .int .i64 (tx : Int)] 35 (0, 0))] (by kernel_rfl) ?_
  (refine WH.order [0, 1, 2, 3, 5, 6] (by repeat (first | exact Part.nil | refine Part.cons (by repeat (first | exact Pick.here | apply Pick.there)) ?_ | refine Part.free ?_)) (by kernel_rfl) ?_; (repeat (first | (refine WT.k_move rfl ?_; first | (refine WT.kn rfl ?_; refine WT.take rfl rfl (fun _ _ _ h => h) (Yl.move rfl) rfl (by kernel_rfl) (by kernel_rfl) ?_) | (refine WT.kg rfl ?_; refine WT.takeG rfl rfl rfl rfl (fun _ _ _ h => h) (Yl.move rfl) rfl (by kernel_rfl) (by kernel_rfl) ?_)) | (refine WT.k_load rfl ?_; (refine WT.kg rfl ?_; refine WT.takeG rfl rfl rfl rfl (fun _ _ _ h => h) (Yl.loadBlk (T := 3) Tryz.isAgg3 rfl (by repeat (first | exact .head _ | refine .tail _ ?_)) (by rfl)) rfl (by kernel_rfl) (by kernel_rfl) ?_)) | (refine WT.k_fld rfl ?_; (refine WT.kg rfl ?_; refine WT.takeG rfl rfl rfl rfl (fun _ _ _ h => h) (Yl.fldN0 (i := 1) (o := 1) (by kernel_rfl) rfl) rfl (by kernel_rfl) (by kernel_rfl) ?_)) | (refine WT.k_bin .eql rfl ?_; (refine WT.kn rfl ?_; refine WT.take rfl rfl (fun _ _ _ h => h) (Yl.eqlPN (by kernel_rfl) rfl) rfl (by kernel_rfl) (by kernel_rfl) ?_)))); refine WT.nil ?_)
  refine WH.only (i := 4) (by kernel_rfl) rfl ?_
  refine WL.want rfl rfl rfl ?_
  refine WL.callV (g := 36) (v := .int .i64 (s.v.used : Int)) Tryz.call36 rfl (fun w0 st2 => jused_c w0 (jok.at_ st2 fun _ h => hmj h)) rfl ?_
  refine WL.nil (WN.nextH (.cons .here .nil) ?_)
  (refine WH.order [7, 8, 9, 10, 11, 12, 13, 14, 15, 16, 17, 18, 19, 20, 21, 22, 23, 24, 25] (by repeat (first | exact Part.nil | refine Part.cons (by repeat (first | exact Pick.here | apply Pick.there)) ?_ | refine Part.free ?_)) (by kernel_rfl) ?_; (repeat (first | refine WT.passG rfl rfl rfl rfl (fun _ _ _ h => h) rfl (by kernel_rfl) (by kernel_rfl) ?_ | (refine WT.k_move rfl ?_; (refine WT.kn rfl ?_; refine WT.take rfl rfl (fun _ _ _ h => h) (Yl.move rfl) rfl (by kernel_rfl) (by kernel_rfl) ?_)) | (refine WT.k_pick rfl ?_; (refine WT.kn rfl ?_; first | refine WT.take rfl rfl (fun _ _ _ h => h) (Yl.pick_t rfl rfl rfl) rfl (by kernel_rfl) (by kernel_rfl) ?_ | refine WT.take rfl rfl (fun _ _ _ h => h) (Yl.pick_f rfl rfl rfl) rfl (by kernel_rfl) (by kernel_rfl) ?_)) | (refine WT.k_bin .neq rfl ?_; (refine WT.kg rfl ?_; refine WT.takeG rfl rfl rfl rfl (fun _ _ _ h => h) (Yl.neqT (m := (s.v.used : Int)) (n := (used : Int)) rfl rfl (by omega)) rfl (by kernel_rfl) (by kernel_rfl) ?_)))); refine WT.nil ?_)
  refine WH.done (by kernel_rfl) ?_
  (repeat (first | refine WN.then_normal ?_))
  refine WC.cond_true rfl rfl ?_
  (repeat (first | refine WL.step (Yl.assign rfl) rfl ?_ | refine WC.seq ?_ | refine WC.region ?_ | refine WL.nil ?_ | refine WN.then_normal ?_ | refine WC.ret ?_ | refine WN.then_ret ?_))
  exact WN.ret1S rfl rfl ⟨rfl, ds, 0, dok, rfl, Nat.zero_le _, rfl⟩ (.more (Part.refl _))
end Go.Proofs.YtbkdjfgkebkknaaGreatDoor
