/- A slice as an array; arrays read off slices. -/
import Derived.Test.YtmmpngigaodcgaaStr
import Derived.Test.YtmmpngigaodcgaaPtr
namespace Go.Proofs.Ytmmpngigaodcgaa
set_option linter.unusedVariables false
set_option linter.unusedSimpArgs false
open Go Go.RowKit
section
variable {X : Cx} {ρ : Env} {A : List HA} {ty : TypeId}
theorem Yl.s2a {x : Operand} {t e : TypeId} {n len cap : Nat} {a : Option Addr} (hu : X.P.underlying t = some (.array n e)) (hx : ev ρ x = some (.slice a len cap)) (h : n ≤ len) : Yl X (.sliceToArrayPointer t x) ty ρ A (.pointer a) := fun o ho _ ac w f _ => by
  have h2 : ¬ len < n := by omega
  simp [execOp, ho, f.ev hx, Instr.arrayAt, run_underlying hu, h2]
theorem Yl.loadArr {x : Operand} {T : TypeId} {k : Nat} {a : Option Addr} {vs : List Value} (hg : ∀ w, (isAgg T).run X.P w = .ok true w) (hk : ∀ w, (sizeOf T).run X.P w = .ok k w) (hx : ev ρ x = some (.pointer a)) (hr : Rd X A a vs) (hl : vs.length = k) (hne : vs ≠ []) :
    Yl X (.load T x) ty ρ A (.agg vs.toArray) := fun o ho _ ac w f s => by
  obtain ⟨ad, rfl⟩ := hr.some_ hne s
  have hc : ∀ i u, vs[i]? = some u → w.cell? (ad.add i) = some u := fun i u hu => by
    obtain ⟨ad2, h2, h3⟩ := hr.at_ hu s
    rw [el, Option.map_some] at h2
    rwa [← Option.some.inj h2] at h3
  have hl' := run_loadCells_list (P := X.P) w ad vs hc
  rw [hl] at hl'
  simp [execOp, ho, f.ev hx, Instr.loadAt, Instr.sureAddr, loadVar, hg, hk, hl']
end
end Go.Proofs.Ytmmpngigaodcgaa
