/- Ways that come together again behind a branch or a loop; several results of several cells. -/
import Derived.Test.YtmmpngigaodcgaaApz
namespace Go.Proofs.Ytmmpngigaodcgaa
set_option linter.unusedVariables false
set_option linter.unusedSimpArgs false
open Go Go.RowKit
/-- What is handed on behind a piece of code: the state for some ghost. -/
def Join {α : Type} (X : Cx) (E : α → Env) (B : α → List HA) (H : α → Prop) (a : Act) (w : World) : Prop := ∃ j, H j ∧ Fr X.n (E j) a ∧ St X.w0 X.S (B j) w
section
variable {X : Cx} {Q : Exit → Act → World → Prop} {ρ : Env} {A : List HA}
theorem join_mono {α : Type} {E : α → Env} {B : α → List HA} {H : α → Prop} {z : Code} (hz : ∀ i, H i → WC X z Q (E i) (B i)) (e : Exit) (a : Act) (w : World) (hq : Exit.then (Join X E B H) Q e a w) : Exit.then (z.wp X.P Q) Q e a w := by
  cases e with
  | normal => obtain ⟨i, hi, f', s'⟩ := hq; exact hz i hi a w f' s'
  | exit id => exact hq
  | goto l => exact hq
  | ret => exact hq
  | panic ch => exact hq
  | outgrown => exact hq
theorem WC.join {α : Type} (E : α → Env) (B : α → List HA) (H : α → Prop) {c z : Code} (h : WC X c (Exit.then (Join X E B H) Q) ρ A) (hz : ∀ i, H i → WC X z Q (E i) (B i)) : WC X c (Exit.then (z.wp X.P Q) Q) ρ A := fun a w f s =>
  wp_mono (h a w f s) fun e a' w' hq => join_mono hz e a' w' hq
/-- The same within a block. -/
theorem WC.joinB {α : Type} (E : α → Env) (B : α → List HA) (H : α → Prop) {id : Nat} {c z : Code} (h : WC X c (Exit.inBlock id (Exit.then (Join X E B H) Q)) ρ A) (hz : ∀ i, H i → WC X z Q (E i) (B i)) : WC X c (Exit.inBlock id (Exit.then (z.wp X.P Q) Q)) ρ A := fun a w f s =>
  wp_mono (h a w f s) fun e a' w' hq => by
    cases e with
    | exit n =>
      simp only [Exit.inBlock] at hq ⊢
      split
      · rename_i hn; rw [if_pos hn] at hq; exact join_mono hz _ a' w' hq
      · rename_i hn; rw [if_neg hn] at hq; exact join_mono hz _ a' w' hq
    | normal => exact join_mono hz (.normal) a' w' hq
    | goto l => exact join_mono hz (.goto l) a' w' hq
    | ret => exact join_mono hz (.ret) a' w' hq
    | panic ch => exact join_mono hz (.panic ch) a' w' hq
    | outgrown => exact join_mono hz (.outgrown) a' w' hq
theorem WN.join {α : Type} {E : α → Env} {B : α → List HA} {H : α → Prop} (j : α) (hj : H j) (hs : Sub ρ (E j)) (hp : Part A (B j)) : WN X (Exit.then (Join X E B H) Q) .normal ρ A := fun _ _ f s => ⟨j, hj, f.of_sub hs, s.part hp⟩
/-- A function value with what it has captured. -/
theorem Yl.capFunc {ty : TypeId} {g : FuncId} {xs : List Operand} {vs : List Value} (hx : evs ρ xs = some vs) : Yl X (.makeFunc (.func g) #[] xs.toArray) ty ρ A (.func (.func g) #[] vs.toArray) := Yl.intro fun o ho _ a w f _ => by
  have e := evs_map f hx
  simp [execOp, ho, Instr.makeFunc, e]
theorem WC.shrink {c : Code} {B : List HA} {a : Option Addr} {cap : Nat} {T : TypeId} {k : Nat} {vs : List Value} (m : Nat) (hp : Pick (.row a cap T k vs) A B) (h : WC X c Q ρ (.row a cap T k (vs.take m) :: B)) : WC X c Q ρ A :=
  fun w f hw s => h w f hw ((s.pick hp).shrink m)
end
section
variable {P : Program} {fn : Func} {R : Value → List HA → Prop} {ρ : Env} {A B : List HA} {n : Nat} {w0 : World}
/-- Two results, the first in a variable of several cells. -/
theorem WN.ret2C {t t2 : Tmp} {T T' : TypeId} {b k : Nat} {us : Array Value} {fr : Nat × Nat} {v2 : Value} (hr : fn.results = #[.cell t T, .tmp t2]) (hg : ∀ w, (isAgg T).run P w = .ok true w) (hk : ∀ w, (sizeOf T).run P w = .ok k w)
    (hv : lk ρ t = some (.pointer (some ⟨b, 0, none⟩))) (hv2 : lk ρ t2 = some v2) (hm : HA.blk b (.cells us T' fr) ∈ A) (hl : Nat.beq us.size k = true) (hR : R (.tuple #[.agg us, v2]) B) (hp : Part A B) :
    WN ⟨P, n, w0, []⟩ (bodyPost P fn (Gives R w0)) .ret ρ A :=
  fun a w f s => by
    have hc := cell_run hg hk hm hl s
    have h1 := f.get t _ hv
    have h2 := f.get t2 _ hv2
    refine bodyPost_ret (v := .tuple #[.agg us, v2]) ?_ f.defers ⟨_, B, rfl, hR, s.part hp⟩
    rw [Array.getD_eq_getD_getElem?] at h1 h2
    simp [results, hr, h1, h2, asAddr, hc]
/-- Four results, three of them in variables of several cells. -/
theorem WN.ret4C {t1 t2 t3 t4 : Tmp} {T1 T2 T3 U1 U2 U3 : TypeId} {b1 b2 b3 k1 k2 k3 : Nat} {u1 u2 u3 : Array Value} {f1 f2 f3 : Nat × Nat} {v4 : Value} (hr : fn.results = #[.cell t1 T1, .cell t2 T2, .cell t3 T3, .tmp t4])
    (hg1 : ∀ w, (isAgg T1).run P w = .ok true w) (hk1 : ∀ w, (sizeOf T1).run P w = .ok k1 w) (hg2 : ∀ w, (isAgg T2).run P w = .ok true w) (hk2 : ∀ w, (sizeOf T2).run P w = .ok k2 w) (hg3 : ∀ w, (isAgg T3).run P w = .ok true w) (hk3 : ∀ w, (sizeOf T3).run P w = .ok k3 w)
    (hv1 : lk ρ t1 = some (.pointer (some ⟨b1, 0, none⟩))) (hv2 : lk ρ t2 = some (.pointer (some ⟨b2, 0, none⟩))) (hv3 : lk ρ t3 = some (.pointer (some ⟨b3, 0, none⟩))) (hv4 : lk ρ t4 = some v4)
    (hm1 : HA.blk b1 (.cells u1 U1 f1) ∈ A) (hm2 : HA.blk b2 (.cells u2 U2 f2) ∈ A) (hm3 : HA.blk b3 (.cells u3 U3 f3) ∈ A) (hl1 : Nat.beq u1.size k1 = true) (hl2 : Nat.beq u2.size k2 = true) (hl3 : Nat.beq u3.size k3 = true)
    (hR : R (.tuple #[.agg u1, .agg u2, .agg u3, v4]) B) (hp : Part A B) : WN ⟨P, n, w0, []⟩ (bodyPost P fn (Gives R w0)) .ret ρ A :=
  fun a w f s => by
    have c1 := cell_run hg1 hk1 hm1 hl1 s
    have c2 := cell_run hg2 hk2 hm2 hl2 s
    have c3 := cell_run hg3 hk3 hm3 hl3 s
    have h1 := f.get t1 _ hv1
    have h2 := f.get t2 _ hv2
    have h3 := f.get t3 _ hv3
    have h4 := f.get t4 _ hv4
    refine bodyPost_ret (v := .tuple #[.agg u1, .agg u2, .agg u3, v4]) ?_ f.defers ⟨_, B, rfl, hR, s.part hp⟩
    rw [Array.getD_eq_getD_getElem?] at h1 h2 h3 h4
    simp [results, hr, h1, h2, h3, h4, asAddr, c1, c2, c3]
end
end Go.Proofs.Ytmmpngigaodcgaa
