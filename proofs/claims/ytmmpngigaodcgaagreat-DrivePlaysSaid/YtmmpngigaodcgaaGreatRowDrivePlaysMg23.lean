import Derived.Test.YtmmpngigaodcgaaGreatRowDrivePlaysMg10
import Derived.Test.YtmmpngigaodcgaaGreatRowDrivePlaysMg22
import Derived.OpenShut
import Derived.ProofKit
import Derived.Deep.Slices
import Derived.Test.YtmmpngigaodcgaaGreatRowDrivePlaysMg9
import Derived.Test.YtmmpngigaodcgaaGreatRowDrivePlaysMg17
import Derived.Test.YtmmpngigaodcgaaGreatRowDrivePlaysMg5
/- What the rows of chapter 33 know of their arguments. -/
namespace Go.Proofs.YtmmpngigaodcgaaGreat
set_option linter.unusedVariables false
set_option linter.unusedSimpArgs false
open Go Go.RowKit Go.ChangeShapes Go.WideShapes Go.ChangeAt
set_option maxRecDepth 100000
theorem cU8 : Tryz.prog.cellsOf 5 = 1 := by kernel_rfl
theorem cInt : Tryz.prog.cellsOf 3 = 1 := by kernel_rfl
/-- A step by numbers. -/
structure Mv where
  k : UInt8
  s : UInt8
  f : UInt8
def Mv.cs (m : Mv) : List Value := [bv m.k, bv m.s, bv m.f]
theorem Mv.len (m : Mv) : m.cs.length = 3 := rfl
instance : Inhabited Mv := ⟨⟨0, 0, 0⟩⟩
section
variable {H : Type} {enc : TypeId × Value → H} {W : World} {base : Nat} {held : Bool}
theorem slice_in {α : Type} [Inhabited α] {G : α → Prop} {f : α → List Value} {k : Nat} {t e : TypeId} {v : Value} {x : DataW H × List MemPlace} {fuel : Nat} (ht : Tryz.prog.underlying t = some (.slice e)) (hce : Tryz.prog.cellsOf e = k) (hk : 0 < k) (hfl : ∀ y, G y → (f y).length = k)
    (hel : ∀ n cs y, DataW.trod enc Tryz.prog W base (fun _ => true) held n e cs = some y → ∃ a, G a ∧ cs = f a) (h : DataW.trod enc Tryz.prog W base (fun _ => true) held fuel t [v] = some x) :
    ∃ (a : Option Addr) (n cap : Nat) (l : List α), v = .slice a n cap ∧ l.length = n ∧ n ≤ cap ∧ cap ≤ 9223372036854775807 ∧ (∀ y ∈ l, G y) ∧ CellsAt W a (l.flatMap f) := by
  rcases Go.Deep.open_slice ht h with ⟨hcs, _⟩ | ⟨a, len, cap, m, n, D, Pl, hcs, hb, hl, hm, hmm, _, hx⟩
  · obtain rfl : v = .slice none 0 0 := by injection hcs
    exact ⟨none, 0, 0, [], rfl, rfl, Nat.le_refl _, by decide, fun y hy => (by cases hy), .nil _ _⟩
  · obtain rfl : v = .slice (some a) len cap := by injection hcs
    have hlm : len ≤ m := by rw [hmm]; split <;> omega
    obtain ⟨g, hg⟩ := Go.Deep.choose_lt (p := fun i y => G y ∧ W.cells? base (a.add (i * k)) k = some (f y)) (n := len) (fun i hi => by
      obtain ⟨cs', h1, h2⟩ := hx i (by omega)
      obtain ⟨y, hy, rfl⟩ := hel _ _ _ h2
      rw [hce] at h1
      exact ⟨y, hy, h1⟩)
    have hG : ∀ y ∈ (List.range len).map g, G y := fun y hy => by
      obtain ⟨i, hi, rfl⟩ := List.mem_map.1 hy; exact (hg i (List.mem_range.1 hi)).1
    refine ⟨some a, len, cap, (List.range len).map g, rfl, by simp, hl, by simpa [maxLen] using hm, hG, ?_⟩
    by_cases h0 : len = 0
    · subst h0; exact .nil _ _
    · obtain ⟨b, off, spot⟩ := a
      have hcell : ∀ i r, i < len → r < k → W.cell? ((⟨b, off, spot⟩ : Addr).add (i * k + r)) = (f (g i))[r]? := fun i r hi hr => by
        have := (World.cells?_some (hg i hi).2).2.2 r hr
        rwa [Go.Deep.add_add] at this
      have hspot : spot = none := by
        have h1 := hcell 0 0 (by omega) hk
        obtain ⟨v0, hv0⟩ : ∃ v, (f (g 0))[0]? = some v := ⟨_, List.getElem?_eq_getElem (by rw [hfl _ (hg 0 (by omega)).1]; exact hk)⟩
        rw [hv0] at h1
        simpa [Addr.add] using World.cell?_spot h1
      subst hspot
      refine .inr ⟨b, off, rfl, fun i v hv => ?_⟩
      have hlen : (((List.range len).map g).flatMap f).length = len * k := by rw [flat_len (k := k) (fun y hy => hfl y (hG y hy))]; simp
      have hi : i < len * k := by have := (List.getElem?_eq_some_iff.1 hv).1; omega
      have hq : i / k < len := Nat.div_lt_of_lt_mul (by rw [Nat.mul_comm]; exact hi)
      have hr : i % k < k := Nat.mod_lt _ hk
      have e : i / k * k + i % k = i := by rw [Nat.mul_comm]; exact Nat.div_add_mod i k
      have h1 := hcell (i / k) (i % k) hq hr
      rw [e] at h1
      have ea : (⟨b, off, none⟩ : Addr).add i = ⟨b, off + i, none⟩ := by unfold Addr.add; split <;> simp_all
      rw [ea] at h1
      rw [h1, ← hv]
      have hch := chunk (f := f) (k := k) (l := (List.range len).map g) (i := i / k) (x := g (i / k)) (fun y hy => hfl y (hG y hy)) (by simp [hq])
      rw [← hch, List.getElem?_take, if_pos hr, List.getElem?_drop, e]
theorem int_el {n : Nat} {cs : List Value} {y : DataW H × List MemPlace} (h : DataW.trod enc Tryz.prog W base (fun _ => true) held n 3 cs = some y) : ∃ c : Int, True ∧ cs = [.int .i64 c] := by
  obtain ⟨z, e0, _, w0⟩ := DataW.trod_int Tryz.underlying3 h
  exact ⟨z, trivial, e0⟩
theorem u8_el {n : Nat} {cs : List Value} {y : DataW H × List MemPlace} (h : DataW.trod enc Tryz.prog W base (fun _ => true) held n 5 cs = some y) : ∃ c : UInt8, True ∧ cs = [bv c] := by
  obtain ⟨z, e0, _, w0⟩ := DataW.trod_int Tryz.underlying5 h
  obtain ⟨c, rfl⟩ := wf_byte w0
  exact ⟨c, trivial, e0⟩
theorem plan_el {n : Nat} {cs : List Value} {y : DataW H × List MemPlace} (h : DataW.trod enc Tryz.prog W base (fun _ => true) held n 33 cs = some y) :
    ∃ (z : Int) (a : Option Addr) (m c : Nat) (K : List Int), cs = [.int .i64 z, .slice a m c] ∧ K.length = m ∧ m ≤ c ∧ c ≤ 9223372036854775807 ∧ CellsAt W a (K.map fun k => Value.int .i64 k) := by
  obtain ⟨xs, k, _, _, hsz, hxs, hf⟩ := DataW.trod_struct Tryz.underlying33 h
  have hl4 : cs.length = 2 := by rw [hsz]; kernel_rfl
  match cs, hl4, xs, hxs, hf with
  | [v0, v1], _, [x0, x1], _, hf =>
    have f0 := hf 0 _ rfl
    have f1 := hf 1 _ rfl
    obtain ⟨z0, _, e0⟩ := int_el (show DataW.trod enc Tryz.prog W base _ held k 3 [v0] = some x0 from f0)
    obtain rfl : v0 = .int .i64 z0 := by injection e0
    obtain ⟨a2, n2, c2, K, rfl, m1, m2, m3, m4, m5⟩ := slice_in (G := fun _ : Int => True) (f := fun c : Int => [Value.int .i64 c]) Tryz.underlying31 cInt (by decide) (fun y hy => rfl) (fun n cs y => int_el) (show DataW.trod enc Tryz.prog W base _ held k 31 [v1] = some x1 from f1)
    simp only [← List.map_eq_flatMap] at m5
    exact ⟨z0, a2, n2, c2, K, rfl, m1, m2, m3, m5⟩
theorem plan_in {x : DataW H × List MemPlace} {cs : Array Value} (h : ∃ m, DataW.trod enc Tryz.prog W base (fun _ => true) held m 33 (Value.agg cs).cells.toList = some x) :
    ∃ (z : Int) (a : Option Addr) (m c : Nat) (K : List Int), cs = #[.int .i64 z, .slice a m c] ∧ K.length = m ∧ m ≤ c ∧ c ≤ 9223372036854775807 ∧ CellsAt W a (K.map fun k => Value.int .i64 k) := by
  obtain ⟨m, h⟩ := h
  obtain ⟨z, a, m2, c, K, e, h2⟩ := plan_el (show DataW.trod enc Tryz.prog W base (fun _ => true) held m 33 cs.toList = some x from h)
  exact ⟨z, a, m2, c, K, by rw [← Array.toArray_toList (xs := cs), e], h2⟩
end
end Go.Proofs.YtmmpngigaodcgaaGreat
/- What a crash leaves in each sector. -/
namespace Go.Proofs.YtmmpngigaodcgaaGreat
set_option linter.unusedVariables false
set_option linter.unusedSimpArgs false
open Go Go.RowKit
set_option maxRecDepth 100000
theorem cf_atK (K : List Int) (d : List (List UInt8)) (F : Nat → Option (List UInt8)) : ∀ m, m ≤ d.length →
    (cfold K (d, F) (dpre F m)).1.length = d.length ∧
    (∀ j, m ≤ j → (cfold K (d, F) (dpre F m)).2 j = F j ∧ (cfold K (d, F) (dpre F m)).1.getD j [] = d.getD j []) ∧
    (∀ j, j < m → (cfold K (d, F) (dpre F m)).2 j = none ∧ (F j = none → (cfold K (d, F) (dpre F m)).1.getD j [] = d.getD j []) ∧ ∀ u, F j = some u → (cfold K (d, F) (dpre F m)).1.getD j [] = u.take (keepAt K (dpre F j).length) ++ (d.getD j []).drop (keepAt K (dpre F j).length)) := by
  intro m
  induction m with
  | zero => intro _; exact ⟨rfl, fun j _ => ⟨rfl, rfl⟩, fun j hj => by omega⟩
  | succ m ih =>
    intro hm
    obtain ⟨h1, h2, h3⟩ := ih (by omega)
    cases e : F m with
    | none =>
      rw [dpre_none e]
      refine ⟨h1, fun j hj => h2 j (by omega), fun j hj => ?_⟩
      by_cases ej : j = m
      · subst ej
        have := h2 j (Nat.le_refl _)
        exact ⟨by rw [this.1, e], fun _ => this.2, fun u hu => by rw [e] at hu; cases hu⟩
      · exact h3 j (by omega)
    | some u =>
      rw [dpre_some e, cfold_snoc]
      have hm2 := h2 m (Nat.le_refl _)
      generalize cfold K (d, F) (dpre F m) = s at *
      have hl : m < s.1.length := by omega
      have hset : ∀ j, (cstep K s (dpre F m).length m).1.getD j [] = if j = m then u.take (keepAt K (dpre F m).length) ++ (d.getD m []).drop (keepAt K (dpre F m).length) else s.1.getD j [] := fun j => by
        by_cases ej : j = m
        · subst ej
          rw [if_pos rfl]
          simp only [cstep, hm2.1, e, hm2.2]
          simp [List.getD, hl]
        · rw [if_neg ej]
          simp [cstep, List.getD, List.getElem?_set_ne (Ne.symm ej)]
      have hsf : ∀ j, (cstep K s (dpre F m).length m).2 j = if j = m then none else s.2 j := fun j => rfl
      refine ⟨by rw [cstep_len]; exact h1, fun j hj => ?_, fun j hj => ?_⟩
      · rw [hset, hsf, if_neg (by omega), if_neg (by omega)]
        exact h2 j (by omega)
      · rw [hset, hsf]
        by_cases ej : j = m
        · subst ej
          rw [if_pos rfl, if_pos rfl]
          exact ⟨rfl, fun h => (by rw [e] at h; cases h), fun u' hu => by rw [e] at hu; cases hu; rfl⟩
        · rw [if_neg ej, if_neg ej]
          exact h3 j (by omega)
theorem crashK {K : List Int} (hK : keepOk K) (d : List (List UInt8)) (F : Nat → Option (List UInt8)) : (crashR K d F).1.1.length = d.length ∧ ∀ i, i < d.length →
    (crashR K d F).1.2 i = none ∧ (F i = none → (crashR K d F).1.1.getD i [] = d.getD i []) ∧ ∀ u, F i = some u → (crashR K d F).1.1.getD i [] = u.take (keepAt K (dpre F i).length) ++ (d.getD i []).drop (keepAt K (dpre F i).length) := by
  rw [crashR, if_pos hK]
  obtain ⟨h1, _, h3⟩ := cf_atK K d F d.length (Nat.le_refl _)
  rw [dpre_all] at h1 h3
  exact ⟨h1, h3⟩
end Go.Proofs.YtmmpngigaodcgaaGreat
/- A drive behind some moves. -/
namespace Go.Proofs.YtmmpngigaodcgaaGreat
set_option linter.unusedVariables false
set_option linter.unusedSimpArgs false
open Go Go.RowKit
set_option maxRecDepth 100000
set_option maxHeartbeats 8000000
/-- The bytes lie in a row of the caller's that is listed; the slice may have less room than the row. -/
def InG (Z : List HA) (s : Sl) : Prop := ∃ c T, HA.row s.a c T 1 (bs s.l) ∈ Z
theorem InG.mono {Z Z' : List HA} {s : Sl} (h : InG Z s) (hz : ∀ x ∈ Z, x ∈ Z') : InG Z' s := by
  obtain ⟨c, T, h⟩ := h; exact ⟨c, T, hz _ h⟩
theorem InG.rd {X : Cx} {A Z : List HA} {s : Sl} (h : InG Z s) (hz : ∀ x ∈ Z, x ∈ A) : Rd X A s.a (bs s.l) := by
  obtain ⟨c, T, h⟩ := h; exact .row (hz _ h)
theorem InG.out {w0 w : World} {S : List Nat} {A A0 B Z : List HA} {s : Sl} (h : InG Z s) (st : St w0 S A w) (hp : A.Perm (A0 ++ B)) (hz : ∀ x ∈ Z, x ∈ B) : CellsOut w (A0.filterMap HA.foot) s.a (bs s.l) := by
  obtain ⟨c, T, h⟩ := h; exact row_out st hp (hz _ h)
theorem svs_setA (L : List Sl) (i : Nat) (s : Sl) : (svs L).toArray.setIfInBounds i s.v = (svs (L.set i s)).toArray := by
  rw [← svs_set, List.setIfInBounds_toArray]
theorem lt_blt {a b : Nat} (h : a < b) : Nat.blt a b = true := by simpa using h
theorem rep6 {k : Nat} (hk : k < 6) : (List.replicate 6 zblk).getD k [] = zblk := by rw [List.getD_eq_getElem?_getD, List.getElem?_replicate, if_pos hk]; rfl
theorem svs_size (L : List Sl) : (svs L).toArray.size = L.length := by simp [svs]
theorem Yl.indexArr1 {X : Cx} {A : List HA} {ρ : Env} {ty : TypeId} {x y : Operand} {t e : TypeId} {n j b : Nat} {ik : IntKind} (hu : X.P.underlying t = some (.array n e)) (hs : ∀ w, (sizeOf e).run X.P w = .ok 1 w)
    (hx : ev ρ x = some (.pointer (some ⟨b, 0, none⟩))) (hy : ev ρ y = some (.int ik (j : Int))) (hj : j < n) : Yl X (.indexAddr t x y) ty ρ A (.pointer (some ⟨b, j, none⟩)) := by
  have := Yl.indexArr (ty := ty) (A := A) hu hs hx hy hj
  rwa [Nat.mul_one, Nat.zero_add] at this
section
variable {P : Program} {fn : Func} {R : Value → List HA → Prop} {ρ : Env} {A B : List HA} {n : Nat} {w0 : World}
/-- Three results, two of them in variables of several cells. -/
theorem WN.ret3V {t1 t2 t3 : Tmp} {T2 T3 U2 U3 : TypeId} {b2 b3 k2 k3 : Nat} {u2 u3 : Array Value} {f2 f3 : Nat × Nat} {v1 : Value} (hr : fn.results = #[.tmp t1, .cell t2 T2, .cell t3 T3])
    (hg2 : ∀ w, (isAgg T2).run P w = .ok true w) (hk2 : ∀ w, (sizeOf T2).run P w = .ok k2 w) (hg3 : ∀ w, (isAgg T3).run P w = .ok true w) (hk3 : ∀ w, (sizeOf T3).run P w = .ok k3 w)
    (hv1 : lk ρ t1 = some v1) (hv2 : lk ρ t2 = some (.pointer (some ⟨b2, 0, none⟩))) (hv3 : lk ρ t3 = some (.pointer (some ⟨b3, 0, none⟩)))
    (hm2 : HA.blk b2 (.cells u2 U2 f2) ∈ A) (hm3 : HA.blk b3 (.cells u3 U3 f3) ∈ A) (hl2 : Nat.beq u2.size k2 = true) (hl3 : Nat.beq u3.size k3 = true)
    (hR : R (.tuple #[v1, .agg u2, .agg u3]) B) (hp : Part A B) : WN ⟨P, n, w0, []⟩ (bodyPost P fn (Gives R w0)) .ret ρ A :=
  fun a w f s => by
    have c2 := cell_run hg2 hk2 hm2 hl2 s
    have c3 := cell_run hg3 hk3 hm3 hl3 s
    have h1 := f.get t1 _ hv1
    have h2 := f.get t2 _ hv2
    have h3 := f.get t3 _ hv3
    refine bodyPost_ret (v := .tuple #[v1, .agg u2, .agg u3]) ?_ f.defers ⟨_, B, rfl, hR, s.part hp⟩
    rw [Array.getD_eq_getD_getElem?] at h1 h2 h3
    simp [results, hr, h1, h2, h3, asAddr, c2, c3]
end
/-! ### What is now in a sector -/
def nowV (v : DV) (k : Nat) : List UInt8 := (v.F k).getD (v.d.getD k [])
def dirtyM (T : List Mv) : Nat → Bool := T.foldl (fun f m => if 224 ≤ m.k.toNat then fun _ => false else fun j => if j = m.s.toNat % 6 then true else f j) (fun _ => false)
theorem dirtyM_snoc (T : List Mv) (m : Mv) : dirtyM (T ++ [m]) = if 224 ≤ m.k.toNat then fun _ => false else fun j => if j = m.s.toNat % 6 then true else dirtyM T j := by
  simp only [dirtyM, List.foldl_append, List.foldl_cons, List.foldl_nil]
structure MadeOk (s : DS) (p : DP) (La Du : List Sl) (T : List Mv) (Z : List HA) : Prop where
  ok : s.Ok p
  sh : DSx s.v false none T.length 0 6
  la : La.length = 6
  du : Du.length = 6
  now : ∀ k, k < 6 → (La.getD k Sl.nil).l = nowV s.v k
  dur : ∀ k, k < 6 → (Du.getD k Sl.nil).l = s.v.d.getD k []
  dirty : ∀ k, k < 6 → (s.v.F k).isSome = dirtyM T k
  inl : ∀ x ∈ La ++ Du, InG Z x ∧ x.c = 128
def MadeV (T : List Mv) : Value → List HA → Prop := fun u B => ∃ p s La Du Z, MadeOk s p La Du T Z ∧ u = .tuple #[bptr p.bd, .agg (svs La).toArray, .agg (svs Du).toArray] ∧ B = drI p s ++ Z
theorem sync_mem {v : DV} {o r : Nat} (hw : BkWf v.d v.F) (h : DSx v false none o r 6) : v.sync.2 = 0 ∧ DSx v.sync.1 false none (o + 1) r 6 ∧ ∀ k, k < 6 → v.sync.1.d.getD k [] = nowV v k ∧ v.sync.1.F k = none := by
  have h1 := sync_sh0 h.sh
  have e : v.sync = v.op DV.done := by rw [DV.sync, if_neg (by rw [h.sh.down]; decide)]
  have h2 := op_x hw h.rd h.len DV.done done_x
  refine ⟨h1.1, ⟨h1.2, by rw [e]; exact h2.1, by rw [e]; exact h2.2⟩, fun k hk => ?_⟩
  have e2 : v.sync.1 = ({ v with ops := v.ops + 1 } : DV).done := by rw [e, DV.op, h.sh.pl]
  rw [e2]
  have hk2 : k < v.d.length := by rw [h.len]; exact hk
  obtain ⟨c1, c2, c3⟩ := (crashK keepOne v.d v.F).2 k hk2
  have hka : keepAt [128] (dpre v.F k).length = 128 := by simp [keepAt, Nat.mod_one]
  simp only [DV.done]
  refine ⟨?_, c1⟩
  cases e9 : v.F k with
  | none => rw [c2 e9, nowV, e9]; rfl
  | some u =>
    have hu := hw.val k u e9
    have hd := hw.len _ (blk_mem hk2)
    rw [c3 u e9, nowV, e9, Option.getD_some, hka, List.take_of_length_le (by omega), List.drop_of_length_le (by omega), List.append_nil]
theorem write_mem {v : DV} {o r i : Nat} {x : List UInt8} (hw : BkWf v.d v.F) (h : DSx v false none o r 6) (hi : i < 6) (hx : x.length = 128) :
    (v.write (i : Int) x).2 = 0 ∧ DSx (v.write (i : Int) x).1 false none (o + 1) r 6 ∧ (v.write (i : Int) x).1.d = v.d ∧ (v.write (i : Int) x).1.F = setF v.F i (some x) := by
  have he : writeE v.d.length (i : Int) x = 0 := by rw [h.len]; exact writeE_ok hi hx
  have e := write_ok h.sh.down he
  have e2 : (v.write (i : Int) x) = ({ v with F := writeF v.d.length v.F (i : Int) x, ops := v.ops + 1 }, 0) := by
    rw [e, DV.op]
    simp only [h.sh.pl]
    rfl
  rw [e2]
  refine ⟨rfl, ⟨⟨h.sh.down, h.sh.pl, by simp only [h.sh.ops]⟩, h.rd, h.len⟩, rfl, ?_⟩
  simp only [writeF]
  rw [if_pos ⟨by rw [h.len]; exact bchk_lt hi, hx⟩, Int.toNat_natCast]
attribute [local irreducible] WL WC WN Yl WH WQ WT WE WU WG WV
theorem perm22 (a b c d : HA) (L : List HA) : (b :: a :: (L ++ [d, c])).Perm (L ++ [a, b, c, d]) := by
  classical
  rw [List.perm_iff_count]; intro u; simp only [List.count_append, List.count_cons, List.count_nil]; omega
theorem svs_all (L : List Sl) : (svs L).toArray.toList.all Value.oneCell' = true := List.all_eq_true.2 fun u hu => svs_one L u (by simpa using hu)
def DrV2 (p : DP) (v : DV) : Value → List HA → Prop := fun u B => u = .bool true ∧ ∃ s : DS, s.Ok p ∧ s.v = v ∧ B = drI p s
end Go.Proofs.YtmmpngigaodcgaaGreat
/- 'clear' of a row, and of a map. -/
namespace Go.Proofs.YtmmpngigaodcgaaGreat
set_option linter.unusedVariables false
set_option linter.unusedSimpArgs false
open Go Go.RowKit
set_option maxRecDepth 100000
set_option maxHeartbeats 8000000
section
variable {X : Cx} {ops : Array Oper} {Q : Exit → Act → World → Prop} {rest : List Oper} {ρ : Env} {A B : List HA} {d : Tmp} {ty : TypeId} {ps : String} {af : Array Edge}
theorem WL.clearRow {x : Operand} {t e T' : TypeId} {cap n c0 : Nat} {a : Option Addr} {vs : List Value} {z : Value} (hu : X.P.underlying t = some (.slice e)) (hz : ∀ w, (zeroValue e).run X.P w = .ok z w) (h1 : z.oneCell' = true)
    (hx : ev ρ x = some (.slice a n c0)) (hp : Pick (.row a cap T' 1 vs) A B) (hn0 : 0 < n) (hn : n ≤ vs.length)
    (h : WL X ops Q rest ρ (.row a cap T' 1 (List.replicate n z ++ vs.drop n) :: B)) :
    WL X ops Q (⟨none, .call { callee := .builtin .clear, args := #[x], argTypes := #[t] }, ty, ps, af, none⟩ :: rest) ρ A :=
  WL.step0 (fun o ho _ ac w f s => by
    have s1 := s.pick hp
    rcases s1.holds _ (.head _) with ⟨_, h0⟩ | ⟨b, cs, rfl, hb, hsz, hcm, hvl, htk⟩
    · subst h0; simp at hn; omega
    · have hc0 : cap ≠ 0 := by intro h0; rw [h0, Nat.zero_mul] at hsz; omega
      have hzc : (Builtin.zeroCells z.cells n).toList = List.replicate n z := by
        rw [one_cells h1]
        simp [Builtin.zeroCells]
        apply List.ext_getElem
        · simp
        · intro i h1 h2
          simp [Nat.mod_one]
      have hr := run_splice X.P (o := 0) (List.replicate n z) hb (by rw [List.length_replicate]; omega) (fun u hu => by rw [List.eq_of_mem_replicate hu]; exact h1)
      rw [List.length_replicate, Nat.zero_add, List.take_zero, List.nil_append] at hr
      refine ⟨.value (.tuple #[]), w.setRow b (List.replicate n z ++ cs.toList.drop n).toArray, ?_, .inr ⟨_, rfl⟩, s1.put (x := .row _ _ _ _ _) (y := .row (some ⟨b, 0, none⟩) cap T' 1 (List.replicate n z ++ vs.drop n)) (by simp [HA.foot, hc0]) (by simp [HA.foot, hc0]) (Kept.setRow w b _)
        (.inr ⟨b, (List.replicate n z ++ cs.toList.drop n).toArray, rfl, setRow_heap w b cs _ T' _ hb, ?_, hcm, ?_, ?_⟩)⟩
      · obtain ⟨m, rfl⟩ : ∃ m, n = m + 1 := ⟨n - 1, by omega⟩
        have hx' := f.ev hx
        simp only [execOp, ho, resolve, invoke, builtin, Sem.run_bind, Sem.run_pure, Result.andThen_ok, List.map_toArray, List.map_cons, List.map_nil, hx']
        simp [Builtin.clear_, run_underlying hu, hz, hzc, hr]
      · simp only [List.size_toArray, List.length_append, List.length_replicate, List.length_drop, Array.length_toList]; omega
      · simp only [List.size_toArray, List.length_append, List.length_replicate, List.length_drop, Array.length_toList]; omega
      · show List.take (List.replicate n z ++ vs.drop n).length (List.replicate n z ++ cs.toList.drop n) = _
        rw [List.length_append, List.length_replicate, List.length_drop, List.take_append, List.length_replicate, List.take_of_length_le (by rw [List.length_replicate]; omega), Nat.add_sub_cancel_left]
        congr 1
        rw [← htk, List.drop_take, List.length_take]
        congr 1
        have h9 := Array.length_toList (xs := cs)
        omega) h
/-- 'clear' of a map. -/
theorem WL.clearMap {β : Type} {x : Operand} {t K E : TypeId} {b : Nat} {M : List (Nat × β × Nat)} {c : Nat} {enc : β → Value} (hu : X.P.underlying t = some (.map K E)) (hx : ev ρ x = some (.map (some b))) (hp : Pick (.blk b (mobj enc M c)) A B)
    (h : WL X ops Q rest ρ (.blk b (mobj enc ([] : List (Nat × β × Nat)) c) :: B)) :
    WL X ops Q (⟨none, .call { callee := .builtin .clear, args := #[x], argTypes := #[t] }, ty, ps, af, none⟩ :: rest) ρ A :=
  WL.step0 (fun o ho _ a w f s => by
    have s1 := s.pick hp
    have hb : w.heap[b]? = some (mobj enc M c) := s1.holds _ (.head _)
    refine ⟨.value (.tuple #[]), mset w b (mobj enc ([] : List (Nat × β × Nat)) c), ?_, .inr ⟨_, rfl⟩, s1.put (x := .blk b _) (y := .blk b (mobj enc ([] : List (Nat × β × Nat)) c)) rfl rfl (Kept.mset w b _) ?_⟩
    · have hx' := f.ev hx
      simp only [execOp, ho, resolve, invoke, builtin, Sem.run_bind, Sem.run_pure, Result.andThen_ok, List.map_toArray, List.map_cons, List.map_nil, hx']
      simp [Builtin.clear_, run_underlying hu, run_getObj_map hb, run_setObj_map _ hb]
      rfl
    · show (mset w b _).heap[b]? = _
      have := (Array.getElem?_eq_some_iff.1 hb).1
      simp [mset, this]) h
end
end Go.Proofs.YtmmpngigaodcgaaGreat
/- Drives that are not valid. -/
namespace Go.Proofs.YtmmpngigaodcgaaGreat
set_option linter.unusedVariables false
set_option linter.unusedSimpArgs false
open Go Go.RowKit
set_option maxRecDepth 100000
set_option maxHeartbeats 8000000
theorem DBad.ptr {w : World} {v : Value} (h : DBad w v) : ∃ q, v = .pointer q := by
  cases h with
  | none => exact ⟨_, rfl⟩
  | zero bd _ => exact ⟨_, rfl⟩
attribute [local irreducible] WL WC WN Yl WH WQ WT WE WU WG WV
theorem dwrite_bad (sec : Int) (a : Option Addr) (n c2 : Nat) (v : Value) (w : World) (h : DBad w v) : Calls Tryz.prog 8 #[v, .int .i64 sec, .slice a n c2] w (Gives (Val (.int .i64 1)) w) := by
  obtain ⟨q, rfl⟩ := h.ptr
  refine enter (args := [.pointer q, _, _]) Tryz.func8 Tryz.ntmps8 rfl rfl ?_
  (repeat (first | (refine WL.k_move ?_; first | refine WL.step (Yl.move rfl) rfl ?_) | (refine WL.k_assign ?_; first | refine WL.step (Yl.assign rfl) rfl ?_) | (refine WL.k_bin .neq ?_; first | refine WL.step (Yl.strNeq rfl rfl) rfl ?_ | refine WL.step (Yl.neq rfl rfl) rfl ?_) | refine WC.seq ?_ | refine WC.region ?_ | refine WL.nil ?_ | refine WN.then_normal ?_ | refine WC.skip ?_ | refine WC.ret ?_ | refine WN.then_ret ?_))
  refine WL.box rfl rfl fun b3 => ?_
  refine WL.box rfl rfl fun b4 => ?_
  refine WL.box rfl rfl fun b5 => ?_
  rw [show (Value.pointer q).cells = #[.pointer q] from rfl]
  (repeat (first | (refine WL.k_move ?_; first | refine WL.step (Yl.move rfl) rfl ?_) | (refine WL.k_assign ?_; first | refine WL.step (Yl.assign rfl) rfl ?_) | (refine WL.k_load ?_; first | refine WL.step (Yl.loadBlk (T := 24) Tryz.isAgg24 rfl (by repeat (first | exact .head _ | refine .tail _ ?_)) (by rfl)) rfl ?_) | (refine WL.k_call 30 ?_; first | refine WL.callV (g := 30) (v := .int .i64 1) Tryz.call30 rfl (fun w0 st => dcheck_bad _ w0 (h.keep st.kept)) rfl ?_) | (refine WL.k_bin .neq ?_; first | refine WL.step (Yl.strNeq rfl rfl) rfl ?_ | refine WL.step (Yl.neq rfl rfl) rfl ?_) | refine WC.seq ?_ | refine WC.region ?_ | refine WL.nil ?_ | refine WN.then_normal ?_ | refine WC.skip ?_ | refine WC.ret ?_ | refine WN.then_ret ?_))
  (repeat (first | (refine WL.k_move ?_; first | refine WL.step (Yl.move rfl) rfl ?_) | (refine WL.k_assign ?_; first | refine WL.step (Yl.assign rfl) rfl ?_) | (refine WL.k_bin .neq ?_; first | refine WL.step (Yl.neqT rfl rfl (by decide)) rfl ?_ | refine WL.step (Yl.strNeq rfl rfl) rfl ?_ | refine WL.step (Yl.neq rfl rfl) rfl ?_) | refine WC.seq ?_ | refine WC.region ?_ | refine WL.nil ?_ | refine WN.then_normal ?_ | refine WC.skip ?_ | refine WC.ret ?_ | refine WN.then_ret ?_))
  refine WC.cond_true rfl rfl ?_
  (repeat (first | (refine WL.k_move ?_; first | refine WL.step (Yl.move rfl) rfl ?_) | (refine WL.k_assign ?_; first | refine WL.step (Yl.assign rfl) rfl ?_) | (refine WL.k_bin .neq ?_; first | refine WL.step (Yl.strNeq rfl rfl) rfl ?_ | refine WL.step (Yl.neq rfl rfl) rfl ?_) | refine WC.seq ?_ | refine WC.region ?_ | refine WL.nil ?_ | refine WN.then_normal ?_ | refine WC.skip ?_ | refine WC.ret ?_ | refine WN.then_ret ?_))
  exact WN.ret1 rfl rfl ⟨rfl, rfl⟩ .nil
theorem dsync_bad (v : Value) (w : World) (h : DBad w v) : Calls Tryz.prog 11 #[v] w (Gives (Val (.int .i64 1)) w) := by
  refine enter (args := [v]) Tryz.func11 Tryz.ntmps11 rfl rfl ?_
  (repeat (first | (refine WL.k_move ?_; first | refine WL.step (Yl.move rfl) rfl ?_) | (refine WL.k_assign ?_; first | refine WL.step (Yl.assign rfl) rfl ?_) | (refine WL.k_call 30 ?_; first | refine WL.callV (g := 30) (v := .int .i64 1) Tryz.call30 rfl (fun w0 st => dcheck_bad _ w0 (h.keep st.kept)) rfl ?_) | (refine WL.k_bin .neq ?_; first | refine WL.step (Yl.neqT rfl rfl (by decide)) rfl ?_ | refine WL.step (Yl.strNeq rfl rfl) rfl ?_ | refine WL.step (Yl.neq rfl rfl) rfl ?_) | refine WC.seq ?_ | refine WC.region ?_ | refine WL.nil ?_ | refine WN.then_normal ?_ | refine WC.skip ?_ | refine WC.ret ?_ | refine WN.then_ret ?_))
  refine WC.cond_true rfl rfl ?_
  (repeat (first | (refine WL.k_move ?_; first | refine WL.step (Yl.move rfl) rfl ?_) | (refine WL.k_assign ?_; first | refine WL.step (Yl.assign rfl) rfl ?_) | (refine WL.k_bin .neq ?_; first | refine WL.step (Yl.strNeq rfl rfl) rfl ?_ | refine WL.step (Yl.neq rfl rfl) rfl ?_) | refine WC.seq ?_ | refine WC.region ?_ | refine WL.nil ?_ | refine WN.then_normal ?_ | refine WC.skip ?_ | refine WC.ret ?_ | refine WN.then_ret ?_))
  exact WN.ret1 rfl rfl ⟨rfl, rfl⟩ .nil
theorem dread_bad (sec : Int) (v : Value) (w : World) (h : DBad w v) : Calls Tryz.prog 13 #[v, .int .i64 sec] w (Gives (Val (.tuple #[.slice none 0 0, .int .i64 1])) w) := by
  refine enter (args := [v, _]) Tryz.func13 Tryz.ntmps13 rfl rfl ?_
  (repeat (first | (refine WL.k_move ?_; first | refine WL.step (Yl.move rfl) rfl ?_) | (refine WL.k_assign ?_; first | refine WL.step (Yl.assign rfl) rfl ?_) | (refine WL.k_extract ?_; first | refine WL.step (Yl.extract rfl rfl) rfl ?_) | (refine WL.k_call 30 ?_; first | refine WL.callV (g := 30) (v := .int .i64 1) Tryz.call30 rfl (fun w0 st => dcheck_bad _ w0 (h.keep st.kept)) rfl ?_) | (refine WL.k_bin .neq ?_; first | refine WL.step (Yl.neqT rfl rfl (by decide)) rfl ?_ | refine WL.step (Yl.strNeq rfl rfl) rfl ?_ | refine WL.step (Yl.neq rfl rfl) rfl ?_) | (refine WL.k_bin .eql ?_; first | refine WL.step (Yl.eqNil (t := 38) Tryz.underlying38 rfl) rfl ?_ | refine WL.step (Yl.strEql rfl rfl) rfl ?_ | refine WL.step (Yl.eql rfl rfl) rfl ?_) | (refine WL.k_bin .add ?_; first | refine WL.step (Yl.add64C rfl (by omega)) rfl ?_ | refine WL.step (Yl.addC64 rfl (by omega)) rfl ?_ | refine WL.step (Yl.add64N rfl rfl (by omega)) rfl ?_ | refine WL.step (Yl.add64 rfl rfl (by omega)) rfl ?_) | refine WC.seq ?_ | refine WC.region ?_ | refine WL.nil ?_ | refine WN.then_normal ?_ | refine WC.skip ?_ | refine WC.ret ?_ | refine WN.then_ret ?_))
  refine WC.cond_true rfl rfl ?_
  (repeat (first | (refine WL.k_move ?_; first | refine WL.step (Yl.move rfl) rfl ?_) | (refine WL.k_assign ?_; first | refine WL.step (Yl.assign rfl) rfl ?_) | (refine WL.k_extract ?_; first | refine WL.step (Yl.extract rfl rfl) rfl ?_) | (refine WL.k_bin .eql ?_; first | refine WL.step (Yl.eqNil (t := 38) Tryz.underlying38 rfl) rfl ?_ | refine WL.step (Yl.strEql rfl rfl) rfl ?_ | refine WL.step (Yl.eql rfl rfl) rfl ?_) | (refine WL.k_bin .neq ?_; first | refine WL.step (Yl.strNeq rfl rfl) rfl ?_ | refine WL.step (Yl.neq rfl rfl) rfl ?_) | (refine WL.k_bin .add ?_; first | refine WL.step (Yl.add64C rfl (by omega)) rfl ?_ | refine WL.step (Yl.addC64 rfl (by omega)) rfl ?_ | refine WL.step (Yl.add64N rfl rfl (by omega)) rfl ?_ | refine WL.step (Yl.add64 rfl rfl (by omega)) rfl ?_) | refine WC.seq ?_ | refine WC.region ?_ | refine WL.nil ?_ | refine WN.then_normal ?_ | refine WC.skip ?_ | refine WC.ret ?_ | refine WN.then_ret ?_))
  exact WN.ret2 rfl rfl rfl ⟨rfl, rfl⟩ .nil
theorem darm_bad (n : Int) (a : Option Addr) (m c2 : Nat) (v : Value) (w : World) (h : DBad w v) : Calls Tryz.prog 16 #[v, .agg #[.int .i64 n, .slice a m c2]] w (Gives (Val (.int .i64 1)) w) := by
  refine enter (args := [v, .agg #[.int .i64 n, .slice a m c2]]) Tryz.func16 Tryz.ntmps16 rfl rfl ?_
  (repeat (first | (refine WL.k_move ?_; first | refine WL.step (Yl.move rfl) rfl ?_) | (refine WL.k_assign ?_; first | refine WL.step (Yl.assign rfl) rfl ?_) | (refine WL.k_bin .eql ?_; first | refine WL.step (Yl.eqNil (t := 38) Tryz.underlying38 rfl) rfl ?_ | refine WL.step (Yl.strEql rfl rfl) rfl ?_ | refine WL.step (Yl.eql rfl rfl) rfl ?_) | (refine WL.k_bin .neq ?_; first | refine WL.step (Yl.strNeq rfl rfl) rfl ?_ | refine WL.step (Yl.neq rfl rfl) rfl ?_) | (refine WL.k_unop ?_; first | refine WL.step (Yl.not rfl) rfl ?_) | refine WC.seq ?_ | refine WC.region ?_ | refine WL.nil ?_ | refine WN.then_normal ?_ | refine WC.skip ?_ | refine WC.ret ?_ | refine WN.then_ret ?_))
  refine WL.boxA rfl rfl fun b3 => ?_
  (repeat (first | (refine WL.k_move ?_; first | refine WL.step (Yl.move rfl) rfl ?_) | (refine WL.k_assign ?_; first | refine WL.step (Yl.assign rfl) rfl ?_) | (refine WL.k_call 43 ?_; first | refine WL.callV (g := 43) (v := .bool false) Tryz.call43 rfl (fun w0 st => dmade_bad _ w0 (h.keep st.kept)) rfl ?_) | (refine WL.k_bin .eql ?_; first | refine WL.step (Yl.eqNil (t := 38) Tryz.underlying38 rfl) rfl ?_ | refine WL.step (Yl.strEql rfl rfl) rfl ?_ | refine WL.step (Yl.eql rfl rfl) rfl ?_) | (refine WL.k_bin .neq ?_; first | refine WL.step (Yl.strNeq rfl rfl) rfl ?_ | refine WL.step (Yl.neq rfl rfl) rfl ?_) | (refine WL.k_unop ?_; first | refine WL.step (Yl.not rfl) rfl ?_) | refine WC.seq ?_ | refine WC.region ?_ | refine WL.nil ?_ | refine WN.then_normal ?_ | refine WC.skip ?_ | refine WC.ret ?_ | refine WN.then_ret ?_))
  refine WC.cond_true rfl rfl ?_
  (repeat (first | (refine WL.k_move ?_; first | refine WL.step (Yl.move rfl) rfl ?_) | (refine WL.k_assign ?_; first | refine WL.step (Yl.assign rfl) rfl ?_) | (refine WL.k_bin .eql ?_; first | refine WL.step (Yl.eqNil (t := 38) Tryz.underlying38 rfl) rfl ?_ | refine WL.step (Yl.strEql rfl rfl) rfl ?_ | refine WL.step (Yl.eql rfl rfl) rfl ?_) | (refine WL.k_bin .neq ?_; first | refine WL.step (Yl.strNeq rfl rfl) rfl ?_ | refine WL.step (Yl.neq rfl rfl) rfl ?_) | (refine WL.k_unop ?_; first | refine WL.step (Yl.not rfl) rfl ?_) | refine WC.seq ?_ | refine WC.region ?_ | refine WL.nil ?_ | refine WN.then_normal ?_ | refine WC.skip ?_ | refine WC.ret ?_ | refine WN.then_ret ?_))
  exact WN.ret1 rfl rfl ⟨rfl, rfl⟩ .nil
theorem drestart_bad (v : Value) (w : World) (h : DBad w v) : Calls Tryz.prog 19 #[v] w (Gives (Val (.int .i64 1)) w) := by
  refine enter (args := [v]) Tryz.func19 Tryz.ntmps19 rfl rfl ?_
  (repeat (first | (refine WL.k_move ?_; first | refine WL.step (Yl.move rfl) rfl ?_) | (refine WL.k_assign ?_; first | refine WL.step (Yl.assign rfl) rfl ?_) | (refine WL.k_call 43 ?_; first | refine WL.callV (g := 43) (v := .bool false) Tryz.call43 rfl (fun w0 st => dmade_bad _ w0 (h.keep st.kept)) rfl ?_) | (refine WL.k_unop ?_; first | refine WL.step (Yl.not rfl) rfl ?_) | refine WC.seq ?_ | refine WC.region ?_ | refine WL.nil ?_ | refine WN.then_normal ?_ | refine WC.skip ?_ | refine WC.ret ?_ | refine WN.then_ret ?_))
  refine WC.cond_true rfl rfl ?_
  (repeat (first | (refine WL.k_move ?_; first | refine WL.step (Yl.move rfl) rfl ?_) | (refine WL.k_assign ?_; first | refine WL.step (Yl.assign rfl) rfl ?_) | (refine WL.k_unop ?_; first | refine WL.step (Yl.not rfl) rfl ?_) | refine WC.seq ?_ | refine WC.region ?_ | refine WL.nil ?_ | refine WN.then_normal ?_ | refine WC.skip ?_ | refine WC.ret ?_ | refine WN.then_ret ?_))
  exact WN.ret1 rfl rfl ⟨rfl, rfl⟩ .nil
theorem dcopy_bad (v : Value) (w : World) (h : DBad w v) : Calls Tryz.prog 21 #[v] w (Gives (Val (.pointer none)) w) := by
  refine enter (args := [v]) Tryz.func21 Tryz.ntmps21 rfl rfl ?_
  (repeat (first | (refine WL.k_move ?_; first | refine WL.step (Yl.move rfl) rfl ?_) | (refine WL.k_assign ?_; first | refine WL.step (Yl.assign rfl) rfl ?_) | (refine WL.k_call 43 ?_; first | refine WL.callV (g := 43) (v := .bool false) Tryz.call43 rfl (fun w0 st => dmade_bad _ w0 (h.keep st.kept)) rfl ?_) | (refine WL.k_bin .neq ?_; first | refine WL.step (Yl.strNeq rfl rfl) rfl ?_ | refine WL.step (Yl.neq rfl rfl) rfl ?_) | (refine WL.k_unop ?_; first | refine WL.step (Yl.not rfl) rfl ?_) | refine WC.seq ?_ | refine WC.region ?_ | refine WL.nil ?_ | refine WN.then_normal ?_ | refine WC.skip ?_ | refine WC.ret ?_ | refine WN.then_ret ?_))
  refine WC.cond_true rfl rfl ?_
  (repeat (first | (refine WL.k_move ?_; first | refine WL.step (Yl.move rfl) rfl ?_) | (refine WL.k_assign ?_; first | refine WL.step (Yl.assign rfl) rfl ?_) | (refine WL.k_bin .neq ?_; first | refine WL.step (Yl.strNeq rfl rfl) rfl ?_ | refine WL.step (Yl.neq rfl rfl) rfl ?_) | (refine WL.k_unop ?_; first | refine WL.step (Yl.not rfl) rfl ?_) | refine WC.seq ?_ | refine WC.region ?_ | refine WL.nil ?_ | refine WN.then_normal ?_ | refine WC.skip ?_ | refine WC.ret ?_ | refine WN.then_ret ?_))
  exact WN.ret1 rfl rfl ⟨rfl, rfl⟩ .nil
end Go.Proofs.YtmmpngigaodcgaaGreat
/- DrivePlays: what is known of both drives, step by step. -/
namespace Go.Proofs.YtmmpngigaodcgaaGreat
set_option linter.unusedVariables false
set_option linter.unusedSimpArgs false
open Go Go.RowKit
set_option maxRecDepth 100000
set_option maxHeartbeats 8000000
theorem op_b (v : DV) (f : DV → DV) (hf : ∀ u, (f u).ops = u.ops ∧ (f u).rd = u.rd) : (v.op f).1.ops ≤ v.ops + 1 ∧ (v.op f).1.rd = v.rd := by
  rw [DV.op]
  split
  · exact ⟨Nat.le_of_eq (hf _).1, (hf _).2⟩
  · split
    · exact ⟨Nat.le_refl _, rfl⟩
    · exact ⟨Nat.le_of_eq (hf _).1, (hf _).2⟩
theorem write_b (v : DV) (sec : Int) (x : List UInt8) : (v.write sec x).1.ops ≤ v.ops + 1 ∧ (v.write sec x).1.rd = v.rd := by
  rw [DV.write]
  split
  · exact ⟨Nat.le_succ _, rfl⟩
  · split
    · exact ⟨Nat.le_succ _, rfl⟩
    · exact op_b ({ v with F := writeF v.d.length v.F sec x } : DV) id fun u => ⟨rfl, rfl⟩
theorem sync_b (v : DV) : v.sync.1.ops ≤ v.ops + 1 ∧ v.sync.1.rd = v.rd := by
  rw [DV.sync]
  split
  · exact ⟨Nat.le_succ _, rfl⟩
  · exact op_b v DV.done fun u => ⟨rfl, rfl⟩
theorem read_b (v : DV) (sec : Int) : (v.read sec).1.ops = v.ops ∧ (v.read sec).1.rd ≤ v.rd + 1 := by
  rw [DV.read]
  split
  · exact ⟨rfl, Nat.le_succ _⟩
  · simp only
    split
    · exact ⟨rfl, Nat.le_refl _⟩
    · exact ⟨rfl, Nat.le_succ _⟩
theorem arm_b (v : DV) (n : Int) (K : List Int) : (v.arm n K).1.ops = v.ops ∧ (v.arm n K).1.rd = v.rd := by
  rw [DV.arm]
  split
  · simp only
    split
    · split <;> exact ⟨rfl, rfl⟩
    · exact ⟨rfl, rfl⟩
  · exact ⟨rfl, rfl⟩
structure P3 where
  p : DP
  s : DS
  q : RDP
  t : RDS
def P3.I (x : P3) : List HA := drI x.p x.s ++ rdI x.q x.t
structure P3.Ok (x : P3) (Z : List HA) : Prop where
  s : x.s.Ok x.p
  t : x.t.Ok
  v : x.t.v = x.s.v
  z : ∀ y ∈ x.t.os ++ x.t.fs, InF Z y
structure P4 where
  c : P3
  old : Option P3
  Z : List HA
def oI : Option P3 → List HA
  | none => []
  | some x => x.I
def oD : Option P3 → Value
  | none => .pointer none
  | some x => bptr x.p.bd
def oR : Option P3 → Value
  | none => .pointer none
  | some x => bptr x.q.bd
def P4.I (x : P4) : List HA := drI x.c.p x.c.s ++ (rdI x.c.q x.c.t ++ (oI x.old ++ x.Z))
structure P4.Ok (x : P4) (i : Nat) : Prop where
  c : x.c.Ok x.Z
  o : ∀ y, x.old = some y → y.Ok x.Z
  ops : x.c.s.ops ≤ i
  rd : x.c.s.rd ≤ i
theorem P3.Ok.mono {x : P3} {Z Z' : List HA} (h : x.Ok Z) (hz : ∀ y ∈ Z, y ∈ Z') : x.Ok Z' := ⟨h.s, h.t, h.v, fun y hy => (h.z y hy).mono hz⟩
theorem P3.Ok.dr {x : P3} {Z : List HA} (h : x.Ok Z) {w0 w : World} {S : List Nat} {A : List HA} (st : St w0 S A w) (hi : ∀ y ∈ drI x.p x.s, y ∈ A) : DrAt w x.p x.s := h.s.at_ st hi
theorem P3.Ok.rr {x : P3} {Z : List HA} (h : x.Ok Z) {w0 w : World} {S : List Nat} {A : List HA} (st : St w0 S A w) (hi : ∀ y ∈ rdI x.q x.t, y ∈ A) (hz : ∀ y ∈ Z, y ∈ A) : RDAt w x.q x.t := h.t.at_ st hi hz h.z
theorem P3.Ok.outs {x : P3} {Z : List HA} (h : x.Ok Z) {w0 w : World} {S : List Nat} {A A0 B : List HA} (st : St w0 S A w) (hp : A.Perm (A0 ++ B)) (hz : ∀ y ∈ Z, y ∈ B) : ∀ y ∈ x.t.os ++ x.t.fs, OutF w (A0.filterMap HA.foot) y := fun y hy => by
  exact ⟨(h.z y hy).le, ((h.z y hy).mono hz).out st hp⟩
/-- Both drives went on in the same way. -/
theorem P4.Ok.next {x : P4} {i : Nat} (h : x.Ok i) {s' : DS} {t' : RDS} {Z' : List HA} (hs : s'.Ok x.c.p) (ht : t'.Ok) (hv : t'.v = s'.v) (hz : ∀ y ∈ t'.os ++ t'.fs, y ∈ x.c.t.os ++ x.c.t.fs ∨ InF Z' y) (ho : s'.ops ≤ i + 1) (hr : s'.rd ≤ i + 1) :
    (⟨⟨x.c.p, s', x.c.q, t'⟩, x.old, Z' ++ x.Z⟩ : P4).Ok (i + 1) :=
  ⟨⟨hs, ht, hv, fun y hy => by
    rcases hz y hy with h1 | h1
    · exact (h.c.z y h1).mono fun z hz => List.mem_append_right _ hz
    · exact h1.mono fun z hz => List.mem_append_left _ hz⟩, fun y hy => (h.o y hy).mono fun z hz => List.mem_append_right _ hz, ho, hr⟩
theorem P4.Ok.step {x : P4} {i : Nat} (h : x.Ok i) : x.Ok (i + 1) := ⟨h.c, h.o, Nat.le_succ_of_le h.ops, Nat.le_succ_of_le h.rd⟩
theorem permP (D H R T : List HA) : (D ++ (H ++ (R ++ T))).Perm (R ++ (D ++ (H ++ T))) := by
  classical
  rw [List.perm_iff_count]; intro u; simp only [List.count_append, List.count_cons, List.count_nil]; omega
theorem permF1 (H D R O Z' Z : List HA) : ((R ++ Z') ++ (D ++ (H ++ (O ++ Z)))).Perm ((D ++ (R ++ (O ++ (Z' ++ Z)))) ++ H) := by
  classical
  rw [List.perm_iff_count]; intro u; simp only [List.count_append, List.count_cons, List.count_nil]; omega
theorem permF2 (g : HA) (H D R O Z' Z : List HA) : ((R ++ Z') ++ ((g :: D) ++ (H ++ (O ++ Z)))).Perm ((D ++ (R ++ (O ++ (Z' ++ Z)))) ++ (g :: H)) := by
  classical
  rw [List.perm_iff_count]; intro u; simp only [List.count_append, List.count_cons, List.count_nil]; omega
theorem permF2b (g : HA) (H D R O Z' Z : List HA) : ((R ++ Z') ++ ((g :: D) ++ (H ++ (O ++ Z)))).Perm (g :: (H ++ (D ++ (R ++ (O ++ (Z' ++ Z)))))) := by
  classical
  rw [List.perm_iff_count]; intro u; simp only [List.count_append, List.count_cons, List.count_nil]; omega
theorem permF3 (g k : HA) (H D R O Z : List HA) : (g :: k :: (R ++ (D ++ (H ++ (O ++ Z))))).Perm ((D ++ (R ++ (O ++ Z))) ++ (g :: k :: H)) := by
  classical
  rw [List.perm_iff_count]; intro u; simp only [List.count_append, List.count_cons, List.count_nil]; omega
theorem permF4 (H D R O Z' Z : List HA) : ((R ++ Z') ++ (D ++ (H ++ (O ++ Z)))).Perm (H ++ (D ++ (R ++ (O ++ (Z' ++ Z))))) := by
  classical
  rw [List.perm_iff_count]; intro u; simp only [List.count_append, List.count_cons, List.count_nil]; omega
theorem permFC (H D R O Z D1 R1 : List HA) : (R1 ++ (D1 ++ (H ++ (D ++ (R ++ (O ++ Z)))))).Perm ((D1 ++ (R1 ++ ((D ++ R) ++ Z))) ++ (H ++ O)) := by
  classical
  rw [List.perm_iff_count]; intro u; simp only [List.count_append, List.count_cons, List.count_nil]; omega
theorem permF0 (H D L : List HA) : (H ++ (D ++ L)).Perm ((D ++ L) ++ H) := by
  classical
  rw [List.perm_iff_count]; intro u; simp only [List.count_append, List.count_cons, List.count_nil]; omega
theorem dstep_at {S : List DStep} {i : Nat} {t : DStep} (h : S[i]? = some t) : ((S.flatMap DStep.cs).drop (i * 6)).take t.cs.length = t.cs := by
  rw [DStep.len]; exact chunk (fun y _ => rfl) h
theorem dstep_ne {S : List DStep} {i : Nat} {t : DStep} (h : S[i]? = some t) : S.flatMap DStep.cs ≠ [] := ne_nil_of (i := i * 6 + 0) (by rw [chunk_get (fun y _ => DStep.len y) h (by decide)]; rfl)
theorem DStep.Ok.keep {s : DStep} {w w' : World} (h : s.Ok w) (k : Kept w [] w') : s.Ok w' := ⟨h.hl, h.hc, h.hm, h.hr.keep k⟩
section
variable {X : Cx} {ops : Array Oper} {Q : Exit → Act → World → Prop} {rest : List Oper} {ρ : Env} {A B : List HA} {d : Tmp} {ty : TypeId} {ps : String} {af : Array Edge}
/-- 'clear' of a slice with no element. -/
theorem WL.clear0 {x : Operand} {t e : TypeId} {c0 : Nat} {a : Option Addr} (hu : X.P.underlying t = some (.slice e)) (hx : ev ρ x = some (.slice a 0 c0)) (h : WL X ops Q rest ρ A) :
    WL X ops Q (⟨none, .call { callee := .builtin .clear, args := #[x], argTypes := #[t] }, ty, ps, af, none⟩ :: rest) ρ A :=
  WL.step0 (fun o ho _ ac w f s => by
    refine ⟨.value (.tuple #[]), w, ?_, .inr ⟨_, rfl⟩, s⟩
    have hx' := f.ev hx
    simp only [execOp, ho, resolve, invoke, builtin, Sem.run_bind, Sem.run_pure, Result.andThen_ok, List.map_toArray, List.map_cons, List.map_nil, hx']
    cases a <;> simp [Builtin.clear_, run_underlying hu]) h
theorem WL.clearFit {x : Operand} {t e T' : TypeId} {cap n c0 : Nat} {a : Option Addr} {vs : List Value} {z : Value} (hu : X.P.underlying t = some (.slice e)) (hz : ∀ w, (zeroValue e).run X.P w = .ok z w) (h1 : z.oneCell' = true)
    (hx : ev ρ x = some (.slice a n c0)) (hp : Pick (.row a cap T' 1 vs) A B) (hn : n ≤ vs.length) (h : ∀ y : HA, WL X ops Q rest ρ (y :: B)) :
    WL X ops Q (⟨none, .call { callee := .builtin .clear, args := #[x], argTypes := #[t] }, ty, ps, af, none⟩ :: rest) ρ A := by
  by_cases hn0 : 0 < n
  · exact WL.clearRow hu hz h1 hx hp hn0 hn (h _)
  · obtain rfl : n = 0 := by omega
    exact WL.clear0 hu hx (WL.part (.cons hp (Part.refl _)) (h _))
end
end Go.Proofs.YtmmpngigaodcgaaGreat
