/- Which sectors are dirty, as the statements ask it. -/
import Derived.Test.YtmmpngigaodcgaaBnk3
namespace Go.Proofs.Ytmmpngigaodcgaa
set_option linter.unusedVariables false
set_option linter.unusedSimpArgs false
open Go Go.RowKit
set_option maxRecDepth 100000
set_option maxHeartbeats 4000000
def zcells (L : List Int) : List Value := L.map fun k => Value.int .i64 k
theorem zcells_len (L : List Int) : (zcells L).length = L.length := List.length_map _
theorem zcells_at {L : List Int} {i : Nat} (h : i < L.length) : (zcells L)[i]? = some (.int .i64 (L.getD i 0)) := by simp [zcells, List.getD, h]
theorem zcells_ne {L : List Int} {i : Nat} (h : i < L.length) : zcells L ≠ [] := ne_nil_of (zcells_at h)
theorem run_equalIn_func {P : Program} (w : World) (d : Nat) {t : TypeId} {ps rs : Array TypeId} {vr : Bool} (f : Fn) (bd cs : Array Value) (ht : P.underlying t = some (.func ps rs vr)) : (Op.equalIn (d + 1) t (.func f bd cs) .nilFunc).run P w = .ok false w := by
  simp [Op.equalIn, run_underlying ht]
theorem Yl.eqlFN {X : Cx} {A : List HA} {ρ : Env} {ty : TypeId} {x : Operand} {t u : TypeId} {ps : Array TypeId} {rs : Array TypeId} {vr : Bool} {f_ : Fn} {bd cs : Array Value} (ht : X.P.underlying t = some (.func ps rs vr)) (hx : ev ρ x = some (.func f_ bd cs)) :
    Yl X (.binOp .eql t x (.const .nilFunc) u) ty ρ A (.bool false) := Yl.intro fun o ho _ a w f s => by
  have e : a.eval (.const .nilFunc) = .nilFunc := rfl
  have h2 : (Op.equal t (.func f_ bd cs) .nilFunc).run X.P w = .ok false w := run_equalIn_func w 9999 f_ bd cs ht
  simp [execOp, ho, f.ev hx, e, binOp, eqGuard, h2]
def zlist {n : Nat} (xs : List (Sec n)) : List Int := xs.map fun x => (x.1 : Int)
theorem zlist_all {n : Nat} {D : List Nat} {xs : List (Sec n)} (h : AllOf n D xs) : zlist xs = D.map fun (k : Nat) => (k : Int) := by
  unfold AllOf at h; rw [← h, List.map_map]; rfl
theorem zlist_part {n : Nat} {D : List Nat} {xs : List (Sec n)} (h : PartOf n D xs) : zlist xs <+: D.map fun (k : Nat) => (k : Int) := by
  have := List.IsPrefix.map (fun (k : Nat) => (k : Int)) h
  rwa [List.map_map] at this
theorem zlist_snoc {n : Nat} (pre : List (Sec n)) (x : Sec n) : zlist (pre ++ [x]) = zlist pre ++ [(x.1 : Int)] := by simp [zlist]
theorem zlist_len {n : Nat} (pre : List (Sec n)) : (zlist pre).length = pre.length := List.length_map _
theorem zl_more {n : Nat} {L : List Int} {pre : List (Sec n)} {x : Sec n} (h : zlist pre = L.take pre.length) (hl : pre.length < L.length) (hx : L.getD pre.length 0 = (x.1 : Int)) : zlist (pre ++ [x]) = L.take (pre ++ [x]).length := by
  rw [zlist_snoc, h, List.length_append, List.length_singleton, List.take_add_one, ← hx]
  simp [List.getD, hl]
theorem zl_not1 {n : Nat} {L : List Int} {pre : List (Sec n)} {x : Sec n} (hl : L.length ≤ pre.length) : ¬ zlist (pre ++ [x]) <+: L := fun h => by
  have := h.length_le
  rw [zlist_len, List.length_append, List.length_singleton] at this
  omega
theorem zl_not2 {n : Nat} {L : List Int} {pre : List (Sec n)} {x : Sec n} (hl : pre.length < L.length) (hx : L.getD pre.length 0 ≠ (x.1 : Int)) : ¬ zlist (pre ++ [x]) <+: L := fun h => by
  obtain ⟨r, rfl⟩ := h
  apply hx
  rw [zlist_snoc, List.append_assoc, List.getD_eq_getElem?_getD, List.getElem?_append_right (by rw [zlist_len]; exact Nat.le_refl _), zlist_len, Nat.sub_self]
  rfl
theorem zl_all {n : Nat} {D : List Nat} {L : List Int} {xs : List (Sec n)} (ha : AllOf n D xs) (h : zlist xs = L.take xs.length) (hl : xs.length ≤ L.length) : decide ((xs.length : Int) = (L.length : Int)) = decide (L = D.map fun (k : Nat) => (k : Int)) := by
  rw [decide_eq_decide, ← zlist_all ha]
  constructor
  · intro e; rw [h, List.take_of_length_le (by omega)]
  · intro e; rw [e, zlist_len]
attribute [local irreducible] WL WC WN Yl WH WQ WT WE WU WG Post
end Go.Proofs.Ytmmpngigaodcgaa
