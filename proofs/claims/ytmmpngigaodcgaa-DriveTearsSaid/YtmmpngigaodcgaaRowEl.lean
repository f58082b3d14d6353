/- An element of several cells is stored into an owned row. -/
import Derived.Test.YtmmpngigaodcgaaStr
namespace Go.Proofs.Ytmmpngigaodcgaa
set_option linter.unusedVariables false
set_option linter.unusedSimpArgs false
open Go Go.RowKit
theorem take_splice {α : Type} {n i : Nat} {us : List α} {l : List α} (h : i + us.length ≤ n) (hn : n ≤ l.length) : (l.take i ++ us ++ l.drop (i + us.length)).take n = (l.take n).take i ++ us ++ (l.take n).drop (i + us.length) := by
  have e : (l.take i ++ us).length = i + us.length := by rw [List.length_append, List.length_take]; omega
  rw [List.take_take, Nat.min_eq_left (by omega), List.drop_take, List.take_append, e, List.take_of_length_le (by omega)]
section
variable {X : Cx} {ops : Array Oper} {Q : Exit → Act → World → Prop} {rest : List Oper} {ρ : Env} {A B : List HA} {ty : TypeId} {ps : String} {af : Array Edge} {v : Value}
theorem WL.storeRowEl {x y : Operand} {T T' : TypeId} {a : Option Addr} {cap k i : Nat} {vs us : List Value} (hs : ∀ w, (sizeOf T).run X.P w = .ok us.length w) (hx : ev ρ x = some (.pointer (el a i)))
    (hy : ev ρ y = some v) (hv : v.cells.toList = us) (h1 : ∀ u ∈ us, u.oneCell' = true) (hp : Pick (.row a cap T' k vs) A B) (h0 : 0 < us.length) (hl : i + us.length ≤ vs.length)
    (h : WL X ops Q rest ρ (.row a cap T' k (vs.take i ++ us ++ vs.drop (i + us.length)) :: B)) : WL X ops Q (⟨none, .store T x y, ty, ps, af, none⟩ :: rest) ρ A :=
  WL.step0 (fun o ho _ ac w f s => by
    have s1 := s.pick hp
    rcases s1.holds _ (.head _) with ⟨_, hz⟩ | ⟨b, cs, rfl, hb, hsz, hcm, hvl, htk⟩
    · subst hz; simp only [List.length_nil] at hl; omega
    · have hr := run_splice X.P (o := i) us hb (by omega) h1
      have hx' := f.ev hx
      have e : (⟨b, 0, none⟩ : Addr).add i = ⟨b, i, none⟩ := by unfold Addr.add; split <;> simp_all
      simp only [el, Option.map_some, e] at hx'
      have hc0 : cap ≠ 0 := by intro h0; rw [h0, Nat.zero_mul] at hsz; omega
      have hlen : v.cells.size = us.length := by rw [← hv]; simp
      have e3 := take_splice (l := cs.toList) hl (by simpa using hvl)
      rw [htk] at e3
      have hl2 : (vs.take i ++ us ++ vs.drop (i + us.length)).length = vs.length := by simp only [List.length_append, List.length_take, List.length_drop]; omega
      refine ⟨.skip, w.setRow b (cs.toList.take i ++ us ++ cs.toList.drop (i + us.length)).toArray, ?_, .inl rfl, s1.put (x := .row _ _ _ _ _) (y := .row (some ⟨b, 0, none⟩) cap T' k (vs.take i ++ us ++ vs.drop (i + us.length))) (by simp [HA.foot, hc0]) (by simp [HA.foot, hc0]) (Kept.setRow w b _)
        (.inr ⟨b, (cs.toList.take i ++ us ++ cs.toList.drop (i + us.length)).toArray, rfl, setRow_heap w b cs _ T' _ hb, ?_, hcm, ?_, ?_⟩)⟩
      · simp [execOp, ho, hx', f.ev hy, Instr.storeAt, Instr.sureAddr, storeVar, hs, hlen, hv, hr]
      · rw [List.size_toArray, ← hsz]; simp only [List.length_append, List.length_take, List.length_drop, Array.length_toList]; omega
      · rw [hl2, List.size_toArray]; simp only [List.length_append, List.length_take, List.length_drop, Array.length_toList]; omega
      · rw [hl2]; exact e3) h
end
end Go.Proofs.Ytmmpngigaodcgaa
