/- append(s, make([]T, n)...); rows of which less is known; elements of several cells made. -/
import Derived.Test.YtmmpngigaodcgaaPtr
import Derived.Lib.AppendZerosOnto
namespace Go.Proofs.Ytmmpngigaodcgaa
set_option linter.unusedVariables false
set_option linter.unusedSimpArgs false
open Go Go.RowKit
theorem St.shrink {w0 w : World} {S : List Nat} {a : Option Addr} {cap : Nat} {T : TypeId} {k : Nat} {vs : List Value} {A : List HA} (m : Nat) (h : St w0 S (.row a cap T k vs :: A) w) : St w0 S (.row a cap T k (vs.take m) :: A) w := by
  refine ⟨h.kept, fun x hx => ?_, h.apart, fun x hx b hb => ?_⟩
  · cases hx with
    | head =>
      rcases h.holds _ (.head _) with ⟨h0, rfl⟩ | ⟨b, cs, rfl, hc, hs, hm, hl, ht⟩
      · exact .inl ⟨h0, by simp⟩
      · refine .inr ⟨b, cs, rfl, hc, hs, hm, by rw [List.length_take]; omega, ?_⟩
        rw [List.length_take, ← List.take_take, ht]
    | tail _ hx => exact h.holds _ (.tail _ hx)
  · cases hx with
    | head => exact h.mine _ (.head _) b hb
    | tail _ hx => exact h.mine _ (.tail _ hx) b hb
theorem zeroCells_one (z : Value) (n : Nat) : Builtin.zeroCells #[z] n = (List.replicate n z).toArray := by
  apply Array.ext
  · simp [Builtin.zeroCells]
  · intro i h1 h2
    simp [Builtin.zeroCells, Nat.mod_one]
theorem run_append_zeros0 {P : Program} (w : World) (t tn ty e : TypeId) (i : TypeInfo) (kn : IntKind) (ht : P.underlying t = some (.slice e)) (htn : P.underlying tn = some (.int kn)) (hi : P.info? e = some i) (a : Option Addr) (n cap : Nat) (hn : n ≤ cap) :
    (Builtin.append_ #[t, tn] ty #[.slice a n cap, .int .i64 (0 : Nat)]).run P w = .ok (.slice a n cap) w := by
  have hw : IntKind.i64.wrap (0 : Int) = 0 := by decide
  cases a with
  | none => simp [Builtin.append_, run_underlying ht, run_underlying htn, sizeOf, typeInfo, hi, asInt, asIntOf, hw, hn]
  | some ad => simp [Builtin.append_, run_underlying ht, run_underlying htn, sizeOf, typeInfo, hi, asInt, asIntOf, hw, hn, storeCells]
theorem run_append_room_zeros {P : Program} (w : World) (t tn ty e : TypeId) (i : TypeInfo) (z : Value) (kn : IntKind) (ht : P.underlying t = some (.slice e)) (htn : P.underlying tn = some (.int kn)) (hi : P.info? e = some i) (hz : i.zero = some z) (hs : i.size = 1) (hc : z.cells = #[z]) (h1 : z.oneCell' = true)
    (g n cap : Nat) (cur : Array Value) (hg : w.heap[g]? = some (.cells cur e (0, 0))) (k : Nat) (h0 : 0 < k) (h63 : (k : Int) ≤ 9223372036854775807) (h48 : k * i.bytes ≤ 281474976710656) (hroom : n + k ≤ cap) (hfit : n + k ≤ cur.size) :
    (Builtin.append_ #[t, tn] ty #[.slice (some ⟨g, 0, none⟩) n cap, .int .i64 k]).run P w =
      .ok (.slice (some ⟨g, 0, none⟩) (n + k) cap) (w.setRow g (cur.toList.take n ++ List.replicate k z ++ cur.toList.drop (n + k)).toArray) := by
  have hk : k ≠ 0 := by omega
  have hw : IntKind.i64.wrap (k : Int) = k := by rw [IntKind.wrap_i64]; omega
  have h48i : ¬ (281474976710656 < (k : Int) * (i.bytes : Int)) := by
    rw [← Int.natCast_mul]
    omega
  have hneg : ¬ ((k : Int) < 0) := by omega
  have hst := run_splice P (o := n) (List.replicate k z) hg (by rw [List.length_replicate]; exact hfit) (fun u hu => by rw [List.eq_of_mem_replicate hu]; exact h1)
  rw [List.length_replicate] at hst
  have hzc := zeroCells_one z k
  simp [Builtin.append_, run_underlying ht, run_underlying htn, sizeOf, typeInfo, zeroValue, hi, hz, asInt, asIntOf, hw, hk, hneg, h48i, hroom, hs, hc, hzc, add_off, hst]
section
variable {X : Cx} {ops : Array Oper} {Q : Exit → Act → World → Prop} {ρ : Env} {A B : List HA} {rest : List Oper} {d : Tmp} {op : Op} {ty : TypeId} {ps : String} {af : Array Edge} {v : Value}
theorem WL.shrink {l : List Oper} {a : Option Addr} {cap : Nat} {T : TypeId} {k : Nat} {vs : List Value} (m : Nat) (hp : Pick (.row a cap T k vs) A B) (h : WL X ops Q l ρ (.row a cap T k (vs.take m) :: B)) : WL X ops Q l ρ A :=
  fun w f hw s => h w f hw ((s.pick hp).shrink m)
theorem WL.appendZ {x y : Operand} {t tn e : TypeId} {z : Value} {bytes : Nat} {kn : IntKind} {a : Option Addr} {n cap m : Nat} {olds : List Value} (hu : X.P.underlying t = some (.slice e)) (htn : X.P.underlying tn = some (.int kn)) (he : ElemT X.P e z 1 bytes) (h1 : z.oneCell' = true)
    (hx : ev ρ x = some (.slice a n cap)) (hy : ev ρ y = some (.int .i64 (m : Int))) (hp : Pick (.row a cap e 1 olds) A B) (hol : olds.length = n) (hnc : n ≤ cap)
    (hb : (n + m) * bytes ≤ 140737488355328) (h63 : n + m ≤ maxLen) (hd : Nat.blt d X.n = true)
    (h : ∀ p : Option Addr × Nat, n + m ≤ p.2 → WL X ops Q rest ((d, .slice p.1 (n + m) p.2) :: ρ) (.row p.1 p.2 e 1 (olds ++ List.replicate m z) :: B)) :
    WL X ops Q (⟨some d, .call { callee := .builtin .append, args := #[x, y], argTypes := #[t, tn] }, ty, ps, af, none⟩ :: rest) ρ A :=
  WL.stepE (ι := { p : Option Addr × Nat // n + m ≤ p.2 }) (fun p => .slice p.1.1 (n + m) p.1.2) (fun p => .row p.1.1 p.1.2 e 1 (olds ++ List.replicate m z) :: B) (fun o hop _ ac w f s => by
    have s1 := s.pick hp
    obtain ⟨i, hi, hz, hk, hby⟩ := he.info
    have hcz := one_cells h1
    have fin : ∀ {v : Value} {w' : World}, (Builtin.append_ #[t, tn] o.type #[.slice a n cap, .int .i64 (m : Int)]).run X.P w = .ok v w' → (execOp ac.eval o).run X.P w = .ok (.value v) w' := fun hr => by
      simp only [execOp, hop, resolve, invoke, builtin, Sem.run_bind, Sem.run_pure, Result.andThen_ok, List.map_toArray, List.map_cons, List.map_nil, f.ev hx, f.ev hy, hr]
    by_cases hm : m = 0
    · subst hm
      refine ⟨⟨(a, cap), by omega⟩, w, fin (run_append_zeros0 w t tn o.type e i kn hu htn hi a n cap hnc), ?_⟩
      simpa using s1
    · have hnb : m * i.bytes ≤ 281474976710656 := by
        have := Nat.mul_le_mul_right i.bytes (show m ≤ n + m by omega)
        rw [hby] at this ⊢; omega
      by_cases hroom : n + m ≤ cap
      · rcases s1.holds _ (.head _) with ⟨h0, _⟩ | ⟨b, cs, rfl, hbk, hsz, hcm, hvl, htk⟩
        · omega
        · have hr := run_append_room_zeros (P := X.P) w t tn o.type e i z kn hu htn hi hz hk hcz h1 b n cap cs hbk m (by omega) (by simp only [maxLen] at h63; omega) hnb hroom (by omega)
          refine ⟨⟨(some ⟨b, 0, none⟩, cap), hroom⟩, _, fin hr, s1.put (x := .row _ _ _ _ _) (y := .row (some ⟨b, 0, none⟩) cap e 1 (olds ++ List.replicate m z)) (by simp [HA.foot]; omega) (by simp [HA.foot]; omega) (Kept.setRow w b _)
            (.inr ⟨b, _, rfl, setRow_heap w b cs _ e _ hbk, ?_, hcm, ?_, ?_⟩)⟩
          · simp only [List.size_toArray, List.length_append, List.length_take, List.length_drop, List.length_replicate, Array.length_toList]; omega
          · simp only [List.size_toArray, List.length_append, List.length_take, List.length_drop, List.length_replicate, Array.length_toList]; omega
          · subst hol
            rw [htk]
            show List.take (olds ++ List.replicate m z).length (olds ++ List.replicate m z ++ cs.toList.drop (olds.length + m)) = _
            exact List.take_left
      · have ho : CellsAt w a olds := (Rd.row (X := X) (A := .row a cap e 1 olds :: B) (.head _)) w s1
        have hg : cap < n + m := by omega
        have hfo := CellsAt.first (P := X.P) (w := w.drew) (a := a) (vs := olds) ho (k := i.size) (n := n) (len := n) (cap := cap) (by rw [hk, hol, Nat.mul_one])
        have hfit : Builtin.nextslicecap (n + m) cap * i.bytes ≤ 281474976710656 := growslice_fits (need := n + m) (old := cap) (bytes := i.bytes) hg (by rw [hby]; exact hb)
        have hr := Go.Lib.run_append_grow_zeros (P := X.P) w t tn o.type e i z .i64 kn hu htn hi hz a n cap olds hfo m (by omega) (by rw [hk]; decide) hg (by simp only [maxLen] at h63; omega) hnb hfit
        obtain ⟨g1, g2⟩ := s1.tail.grown (n := n) (m := m) (cap := cap) he (olds := olds) (news := List.replicate m z) (by omega) (by simp) h63
        rw [hcz, zeroCells_one] at hr
        rw [hcz] at g1
        refine ⟨⟨(some ⟨w.heap.size, 0, none⟩, grownCap w (n + m) cap e), g2⟩, _, fin hr, g1⟩) hd (fun p => h p.1 p.2)
/-- 'make' of elements of several cells. -/
theorem madeCells_flat (z : Value) (us : List Value) (hz : z.cells = us.toArray) (n : Nat) : madeCells z.cells (n * us.length) = ((List.replicate n us).flatten).toArray := by
  apply Array.ext
  · simp [madeCells, hz]
  · intro i h1 h2
    have hsz : i < n * us.length := by simpa [madeCells, hz] using h1
    have h0 : 0 < us.length := by rcases Nat.eq_zero_or_pos us.length with h | h; rw [h] at hsz; omega; exact h
    have key : ∀ (n i : Nat), i < n * us.length → ((List.replicate n us).flatten)[i]? = us[i % us.length]? := by
      intro n
      induction n with
      | zero => intro i h; omega
      | succ n ih =>
        intro i h
        rw [List.replicate_succ, List.flatten_cons]
        by_cases hi : i < us.length
        · rw [List.getElem?_append_left hi, Nat.mod_eq_of_lt hi]
        · rw [List.getElem?_append_right (by omega), ih _ (by rw [Nat.add_mul] at h; omega), ← Nat.mod_eq_sub_mod (by omega)]
    have k1 := key n i hsz
    have h3 : i % us.length < us.length := Nat.mod_lt _ h0
    rw [List.getElem?_eq_getElem h3] at k1
    have h4 : i < ((List.replicate n us).flatten).length := by simpa using h2
    rw [List.getElem?_eq_getElem h4] at k1
    simp only [List.getElem_toArray, Option.some.inj k1]
    simp [madeCells, hz, h3]
theorem WL.makeK {x y : Operand} {t e : TypeId} {z : Value} {us : List Value} {bytes m n k : Nat} {k1 k2 : IntKind} (hu : X.P.underlying t = some (.slice e)) (he : ElemT X.P e z k bytes) (hz : z.cells = us.toArray)
    (hx : ev ρ x = some (.int k1 (m : Int))) (hy : ev ρ y = some (.int k2 (n : Int))) (hmn : m ≤ n) (hb : bytes * n ≤ 281474976710656) (h63 : n ≤ maxLen) (hd : Nat.blt d X.n = true)
    (h : ∀ b : Nat, WL X ops Q rest ((d, .slice (some ⟨b, 0, none⟩) m n) :: ρ) (.row (some ⟨b, 0, none⟩) n e k ((List.replicate n us).flatten) :: A)) :
    WL X ops Q (⟨some d, .makeSlice t x y, ty, ps, af, none⟩ :: rest) ρ A :=
  WL.stepE (fun b : Nat => .slice (some ⟨b, 0, none⟩) m n) (fun b => .row (some ⟨b, 0, none⟩) n e k ((List.replicate n us).flatten) :: A) (fun o ho _ a w f s => by
    obtain ⟨i, hi, hzz, hk, hby⟩ := he.info
    have huk : us.length = k := by have := he.cells; rw [hz] at this; simpa using this
    have h63' : (n : Int) ≤ 9223372036854775807 := by simp only [maxLen] at h63; omega
    have hb' : (i.bytes : Int) * (n : Int) ≤ 281474976710656 := by
      have h : ((i.bytes * n : Nat) : Int) ≤ 281474976710656 := by rw [hby]; omega
      rwa [Int.natCast_mul] at h
    have hr := run_make (P := X.P) w t e i z hu hi hzz k1 k2 m n (by omega) (by omega) hb' h63'
    rw [Int.toNat_natCast, Int.toNat_natCast, hk, ← huk, madeCells_flat z us hz] at hr
    refine ⟨w.heap.size, { w with heap := w.heap.push (.cells ((List.replicate n us).flatten).toArray e) }, ?_, s.new (Kept.alloc w _) (.inr ⟨w.heap.size, ((List.replicate n us).flatten).toArray, rfl, by simp, by simp [huk], h63, by simp, List.take_of_length_le (Nat.le_refl _)⟩) (fun b hb => ?_)⟩
    · simp only [execOp, ho, f.ev hx, f.ev hy, Sem.run_bind, hr, Result.andThen_ok, Sem.run_pure]
      rfl
    · simp only [HA.foot] at hb
      split at hb
      · cases hb
      · simp only [Option.map_some, Option.some.injEq] at hb; omega) hd h
end
end Go.Proofs.Ytmmpngigaodcgaa
