/- Bytes: what the library's Clone and Equal give; the number of a number's bits. -/
import Derived.Test.YtmmpngigaodcgaaHeld
import Derived.Test.YtmmpngigaodcgaaProg
namespace Go.Proofs.Ytmmpngigaodcgaa
set_option linter.unusedVariables false
set_option linter.unusedSimpArgs false
open Go Go.RowKit
set_option maxHeartbeats 4000000
set_option maxRecDepth 100000
attribute [local irreducible] WL WC WN Yl WH WQ WT
theorem elemU8 : ElemT Try.prog 5 (.int .u8 0) 1 1 := ElemT.of (by kernel_rfl) rfl (by decide)
theorem bequal_c (a b : Option Addr) (n m c1 c2 : Nat) (l k : List UInt8) (w : World) (hl : l.length = n) (hk : k.length = m) (hr : CellsAt w a (bs l)) (hr2 : CellsAt w b (bs k)) :
    Calls Try.prog 28 #[.slice a n c1, .slice b m c2] w (Gives (Val (.bool (decide (l = k)))) w) := by
  refine enter (args := [_, _]) Try.func28 Try.ntmps28 rfl rfl ?_
  (repeat (first | (refine WL.k_move ?_; first | refine WL.step (Yl.move rfl) rfl ?_) | (refine WL.k_assign ?_; first | refine WL.step (Yl.assign rfl) rfl ?_) | (refine WL.k_bin .eql ?_; first | refine WL.step (Yl.eqNil (t := 30) Try.underlying30 rfl) rfl ?_ | refine WL.step (Yl.strEql rfl rfl) rfl ?_ | refine WL.step (Yl.eql rfl rfl) rfl ?_) | refine WC.seq ?_ | refine WC.region ?_ | refine WL.nil ?_ | refine WN.then_normal ?_ | refine WC.skip ?_ | refine WC.ret ?_ | refine WN.then_ret ?_))
  refine WL.step (Yl.toStr (l := l) Try.underlying30 Try.underlying5 Try.underlying9 rfl (.old hr) hl) rfl ?_
  (repeat (first | (refine WL.k_move ?_; first | refine WL.step (Yl.move rfl) rfl ?_) | (refine WL.k_assign ?_; first | refine WL.step (Yl.assign rfl) rfl ?_) | (refine WL.k_bin .eql ?_; first | refine WL.step (Yl.eqNil (t := 30) Try.underlying30 rfl) rfl ?_ | refine WL.step (Yl.strEql rfl rfl) rfl ?_ | refine WL.step (Yl.eql rfl rfl) rfl ?_) | refine WC.seq ?_ | refine WC.region ?_ | refine WL.nil ?_ | refine WN.then_normal ?_ | refine WC.skip ?_ | refine WC.ret ?_ | refine WN.then_ret ?_))
  refine WL.step (Yl.toStr (l := k) Try.underlying30 Try.underlying5 Try.underlying9 rfl (.old hr2) hk) rfl ?_
  (repeat (first | (refine WL.k_move ?_; first | refine WL.step (Yl.move rfl) rfl ?_) | (refine WL.k_assign ?_; first | refine WL.step (Yl.assign rfl) rfl ?_) | (refine WL.k_bin .eql ?_; first | refine WL.step (Yl.eqNil (t := 30) Try.underlying30 rfl) rfl ?_ | refine WL.step (Yl.strEql rfl rfl) rfl ?_ | refine WL.step (Yl.eql rfl rfl) rfl ?_) | refine WC.seq ?_ | refine WC.region ?_ | refine WL.nil ?_ | refine WN.then_normal ?_ | refine WC.skip ?_ | refine WC.ret ?_ | refine WN.then_ret ?_))
  exact WN.ret1 rfl rfl ⟨rfl, rfl⟩ .nil
section
variable {X : Cx} {ρ : Env} {A : List HA} {ty : TypeId}
theorem Yl.indexStrF {x y : Operand} {t : TypeId} {l : List UInt8} {f : Nat → Nat} {b j : Nat} {ik : IntKind} (hu : X.P.underlying t = some .string) (hx : ev ρ x = some (.string ⟨l.toArray⟩)) (hy : ev ρ y = some (.int ik (j : Int)))
    (hf : ∀ i, i < b → (l.getD i 0).toNat = f i ∧ i < l.length) (hj : j < b) : Yl X (.index t x y) ty ρ A (.int .u8 ((f j : Nat) : Int)) := Yl.intro fun o ho _ ac w fr _ => by
  obtain ⟨h1, h2⟩ := hf j hj
  have hg : (⟨l.toArray⟩ : ByteArray)[j]? = some l[j] := by
    show (if h : j < (⟨l.toArray⟩ : ByteArray).size then some _ else none) = _
    rw [dif_pos (by simpa [ByteArray.size] using h2)]
    rfl
  rw [← h1]
  simp [execOp, ho, fr.ev hx, fr.ev hy, Instr.index, asIntOf, run_underlying hu, hg, List.getD, h2]
theorem Yl.mulC {x : Operand} {t u : TypeId} {k : IntKind} {m c : Nat} (hk : k.signed = false) (hx : ev ρ x = some (.int k (m : Int))) :
    Yl X (.binOp .mul t x (.const (.int k (OfNat.ofNat c))) u) ty ρ A (.int k (((m * (OfNat.ofNat c)) % 2 ^ k.bits : Nat) : Int)) := Yl.mulN hk hx rfl
theorem Yl.max2N {x y : Operand} {ts : Array TypeId} {k : IntKind} {m n : Nat} (hx : ev ρ x = some (.int k (m : Int))) (hy : ev ρ y = some (.int k (n : Int))) :
    Yl X (.call { callee := .builtin .max, args := #[x, y], argTypes := ts }) ty ρ A (.int k ((max m n : Nat) : Int)) := Yl.intro fun o ho _ a w f _ => by
  simp [execOp, ho, resolve, invoke, builtin, f.ev hx, f.ev hy, run_max_int2]
  split <;> omega
end
end Go.Proofs.Ytmmpngigaodcgaa
