/- 'clear' of a row, and of a map. -/
import Derived.Test.YtmmpngigaodcgaaMade
namespace Go.Proofs.Ytmmpngigaodcgaa
set_option linter.unusedVariables false
set_option linter.unusedSimpArgs false
open Go Go.RowKit
set_option maxRecDepth 100000
set_option maxHeartbeats 8000000
section
variable {X : Cx} {ops : Array Oper} {Q : Exit → Act → World → Prop} {rest : List Oper} {ρ : Env} {A B : List HA} {d : Tmp} {ty : TypeId} {ps : String} {af : Array Edge}
theorem WL.clearRow {x : Operand} {t e T' : TypeId} {cap n c0 : Nat} {a : Option Addr} {vs : List Value} {z : Value} (hu : X.P.underlying t = some (.slice e)) (hz : ∀ w, (zeroValue e).run X.P w = .ok z w) (h1 : z.oneCell' = true)
    (hx : ev ρ x = some (.slice a n c0)) (hp : Pick (.row a cap T' 1 vs) A B) (hn0 : 0 < n) (hn : n ≤ vs.length)
    (h : WL X ops Q rest ρ (.row a cap T' 1 (List.replicate n z ++ vs.drop n) :: B)) :
    WL X ops Q (⟨none, .call { callee := .builtin .clear, args := #[x], argTypes := #[t] }, ty, ps, af, none⟩ :: rest) ρ A :=
  WL.step0 (fun o ho _ ac w f s => by
    have s1 := s.pick hp
    rcases s1.holds _ (.head _) with ⟨_, h0⟩ | ⟨b, cs, rfl, hb, hsz, hcm, hvl, htk⟩
    · subst h0; simp at hn; omega
    · have hc0 : cap ≠ 0 := by intro h0; rw [h0, Nat.zero_mul] at hsz; omega
      have hzc : (Builtin.zeroCells z.cells n).toList = List.replicate n z := by
        rw [one_cells h1]
        simp [Builtin.zeroCells]
        apply List.ext_getElem
        · simp
        · intro i h1 h2
          simp [Nat.mod_one]
      have hr := run_splice X.P (o := 0) (List.replicate n z) hb (by rw [List.length_replicate]; omega) (fun u hu => by rw [List.eq_of_mem_replicate hu]; exact h1)
      rw [List.length_replicate, Nat.zero_add, List.take_zero, List.nil_append] at hr
      refine ⟨.value (.tuple #[]), w.setRow b (List.replicate n z ++ cs.toList.drop n).toArray, ?_, .inr ⟨_, rfl⟩, s1.put (x := .row _ _ _ _ _) (y := .row (some ⟨b, 0, none⟩) cap T' 1 (List.replicate n z ++ vs.drop n)) (by simp [HA.foot, hc0]) (by simp [HA.foot, hc0]) (Kept.setRow w b _)
        (.inr ⟨b, (List.replicate n z ++ cs.toList.drop n).toArray, rfl, setRow_heap w b cs _ T' _ hb, ?_, hcm, ?_, ?_⟩)⟩
      · obtain ⟨m, rfl⟩ : ∃ m, n = m + 1 := ⟨n - 1, by omega⟩
        have hx' := f.ev hx
        simp only [execOp, ho, resolve, invoke, builtin, Sem.run_bind, Sem.run_pure, Result.andThen_ok, List.map_toArray, List.map_cons, List.map_nil, hx']
        simp [Builtin.clear_, run_underlying hu, hz, hzc, hr]
      · simp only [List.size_toArray, List.length_append, List.length_replicate, List.length_drop, Array.length_toList]; omega
      · simp only [List.size_toArray, List.length_append, List.length_replicate, List.length_drop, Array.length_toList]; omega
      · show List.take (List.replicate n z ++ vs.drop n).length (List.replicate n z ++ cs.toList.drop n) = _
        rw [List.length_append, List.length_replicate, List.length_drop, List.take_append, List.length_replicate, List.take_of_length_le (by rw [List.length_replicate]; omega), Nat.add_sub_cancel_left]
        congr 1
        rw [← htk, List.drop_take, List.length_take]
        congr 1
        have h9 := Array.length_toList (xs := cs)
        omega) h
/-- 'clear' of a map. -/
theorem WL.clearMap {β : Type} {x : Operand} {t K E : TypeId} {b : Nat} {M : List (Nat × β × Nat)} {c : Nat} {enc : β → Value} (hu : X.P.underlying t = some (.map K E)) (hx : ev ρ x = some (.map (some b))) (hp : Pick (.blk b (mobj enc M c)) A B)
    (h : WL X ops Q rest ρ (.blk b (mobj enc ([] : List (Nat × β × Nat)) c) :: B)) :
    WL X ops Q (⟨none, .call { callee := .builtin .clear, args := #[x], argTypes := #[t] }, ty, ps, af, none⟩ :: rest) ρ A :=
  WL.step0 (fun o ho _ a w f s => by
    have s1 := s.pick hp
    have hb : w.heap[b]? = some (mobj enc M c) := s1.holds _ (.head _)
    refine ⟨.value (.tuple #[]), mset w b (mobj enc ([] : List (Nat × β × Nat)) c), ?_, .inr ⟨_, rfl⟩, s1.put (x := .blk b _) (y := .blk b (mobj enc ([] : List (Nat × β × Nat)) c)) rfl rfl (Kept.mset w b _) ?_⟩
    · have hx' := f.ev hx
      simp only [execOp, ho, resolve, invoke, builtin, Sem.run_bind, Sem.run_pure, Result.andThen_ok, List.map_toArray, List.map_cons, List.map_nil, hx']
      simp [Builtin.clear_, run_underlying hu, run_getObj_map hb, run_setObj_map _ hb]
      rfl
    · show (mset w b _).heap[b]? = _
      have := (Array.getElem?_eq_some_iff.1 hb).1
      simp [mset, this]) h
end
end Go.Proofs.Ytmmpngigaodcgaa
