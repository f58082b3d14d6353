/- Drives: counters and lengths; bits of whole numbers. -/
import Derived.Test.YtmmpngigaodcgaaDsh
namespace Go.Proofs.Ytmmpngigaodcgaa
set_option linter.unusedVariables false
set_option linter.unusedSimpArgs false
open Go Go.RowKit
set_option maxRecDepth 100000
set_option maxHeartbeats 8000000
section
variable {X : Cx} {ρ : Env} {A : List HA} {ty t u : TypeId} {x y : Operand}
theorem Yl.and64 {m n : Nat} (hx : ev ρ x = some (.int .i64 (m : Int))) (hy : ev ρ y = some (.int .i64 (n : Int))) (hm : m < 9223372036854775808) (hn : n < 9223372036854775808) :
    Yl X (.binOp .and t x y u) ty ρ A (.int .i64 ((m &&& n : Nat) : Int)) := Yl.intro fun o ho _ a w f _ => by
  have h : m &&& n < 9223372036854775808 := Nat.lt_of_le_of_lt Nat.and_le_left hm
  have h64 : (2 : Nat) ^ IntKind.i64.bits = 18446744073709551616 := by decide
  have e : (BitVec.ofInt IntKind.i64.bits (m : Int) &&& BitVec.ofInt IntKind.i64.bits (n : Int)).toNat = m &&& n := by rw [BitVec.toNat_and, ofInt_nat (by omega), ofInt_nat (by omega)]
  simp only [execOp, ho, f.ev hx, f.ev hy, eqGuard, binOp, Op.intBits, e, wrap64_fits (z := ((m &&& n : Nat) : Int)) (by omega) (by omega)]
  simp
end
structure DSx (v : DV) (dn : Bool) (pl : Option (Nat × List Int)) (o r n : Nat) : Prop where
  sh : DSh v dn pl o
  rd : v.rd = r
  len : v.d.length = n
section
variable {v : DV} {pl : Option (Nat × List Int)} {o r n : Nat} {K : List Int} {dn : Bool}
theorem op_x (hw : BkWf v.d v.F) (hr : v.rd = r) (hl : v.d.length = n) (f : DV → DV) (hf : ∀ u, BkWf u.d u.F → (f u).rd = u.rd ∧ (f u).d.length = u.d.length) : (v.op f).1.rd = r ∧ (v.op f).1.d.length = n := by
  unfold DV.op
  split
  · exact ⟨(hf _ (by exact hw)).1.trans hr, (hf _ (by exact hw)).2.trans hl⟩
  · split
    · refine ⟨hr, ?_⟩
      simp only [DV.crash]
      rw [(crash_wf _ hw).2]; exact hl
    · exact ⟨(hf _ (by exact hw)).1.trans hr, (hf _ (by exact hw)).2.trans hl⟩
theorem done_x (u : DV) (hw : BkWf u.d u.F) : u.done.rd = u.rd ∧ u.done.d.length = u.d.length := ⟨rfl, (crash_wf _ hw).2⟩
theorem id_x (u : DV) (hw : BkWf u.d u.F) : (id u).rd = u.rd ∧ (id u).d.length = u.d.length := ⟨rfl, rfl⟩
/-- An operation that is done: its code, and what it leaves. -/
structure OpX (i k : Nat) (pl : Option (Nat × List Int)) (e : Nat) (dn : Bool) (pl' : Option (Nat × List Int)) : Prop where
  at_ : i = k → e = 11 ∧ dn = true ∧ pl' = none
  no : i ≠ k → e = 0 ∧ dn = false
  op : ∀ (v : DV) (o : Nat) (f : DV → DV), (∀ u, (f u).down = u.down ∧ (f u).pl = u.pl ∧ (f u).ops = u.ops) → DSh v false pl o → (v.op f).2 = e ∧ DSh (v.op f).1 dn pl' (o + 1)
def planAt (K : List Int) (k i : Nat) : Option (Nat × List Int) := if i ≤ k then some (k - i + 1, K) else none
theorem opX (K : List Int) (i k : Nat) : ∃ e dn pl', OpX i k (planAt K k i) e dn pl' ∧ (pl' = planAt K k (i + 1)) := by
  by_cases h1 : i < k
  · refine ⟨0, false, some (k - i, K), ⟨fun h => by omega, fun _ => ⟨rfl, rfl⟩, fun v o f hf h => ?_⟩, ?_⟩
    · rw [planAt, if_pos (by omega)] at h
      exact op_sh h (by omega) f hf
    · rw [planAt, if_pos (by omega), show k - (i + 1) + 1 = k - i by omega]
  · by_cases h2 : i = k
    · refine ⟨11, true, none, ⟨fun _ => ⟨rfl, rfl, rfl⟩, fun h => absurd h2 h, fun v o f hf h => ?_⟩, ?_⟩
      · rw [planAt, if_pos (by omega), show k - i + 1 = 1 by omega] at h
        exact op_sh1 h f
      · rw [planAt, if_neg (by omega)]
    · refine ⟨0, false, none, ⟨fun h => absurd h h2, fun _ => ⟨rfl, rfl⟩, fun v o f hf h => ?_⟩, ?_⟩
      · rw [planAt, if_neg (by omega)] at h
        exact op_sh0 h f hf
      · rw [planAt, if_neg (by omega)]
theorem bchk_lt {n i : Nat} (h : i < n) : bchk n (i : Int) = 0 := if_neg (by omega)
theorem write_bad {sec : Int} {x : List UInt8} (h : v.down = false) (he : writeE v.d.length sec x ≠ 0) : (v.write sec x).2 = writeE v.d.length sec x ∧ (v.write sec x).1 = v := by
  rw [DV.write, if_neg (by rw [h]; decide), if_pos he]; exact ⟨rfl, rfl⟩
theorem write_ok {sec : Int} {x : List UInt8} (h : v.down = false) (he : writeE v.d.length sec x = 0) : v.write sec x = ({ v with F := writeF v.d.length v.F sec x } : DV).op id := by
  rw [DV.write, if_neg (by rw [h]; decide), if_neg (by omega)]
theorem write_dn {sec : Int} {x : List UInt8} (h : v.down = true) : (v.write sec x).2 = 11 ∧ (v.write sec x).1 = v := by
  rw [DV.write, if_pos h]; exact ⟨rfl, rfl⟩
theorem writeE_ok {n i : Nat} {x : List UInt8} (h : i < n) (hx : x.length = 128) : writeE n (i : Int) x = 0 := by
  rw [writeE, if_pos (bchk_lt h), if_pos hx]
theorem writeE_far {n : Nat} {s : Int} {x : List UInt8} (h : s < 0 ∨ (n : Int) ≤ s) : writeE n s x = 3 := by
  rw [writeE, if_neg (by rw [bchk, if_pos h]; decide)]
theorem writeE_len {n i : Nat} {x : List UInt8} (h : i < n) (hx : x.length ≠ 128) : writeE n (i : Int) x = 2 := by
  rw [writeE, if_pos (bchk_lt h), if_neg hx]
theorem read_ok {i : Nat} (h : DSx v false pl o r n) (hi : i < n) : (v.read (i : Int)).2.2 = 0 ∧ DSx (v.read (i : Int)).1 false pl o (r + 1) n := by
  have hc : (readR v.d v.F (i : Int)).2 = 0 := by rw [readR, if_pos (bchk_lt (by rw [h.len]; exact hi))]
  rw [DV.read, if_neg (by rw [h.sh.down]; decide), if_pos hc]
  exact ⟨hc, ⟨h.sh.down, h.sh.pl, h.sh.ops⟩, by simp only [h.rd], h.len⟩
theorem read_dn {s : Int} (h : v.down = true) : (v.read s).2 = ([], 11) ∧ (v.read s).1 = v := by
  rw [DV.read, if_pos h]; exact ⟨rfl, rfl⟩
theorem read_far {s : Int} (h : v.down = false) (hs : s < 0 ∨ (v.d.length : Int) ≤ s) : (v.read s).2 = ([], 3) ∧ (v.read s).1 = v := by
  have hc : readR v.d v.F s = ([], 3) := by rw [readR, if_neg (by rw [bchk, if_pos hs]; decide)]
  rw [DV.read, if_neg (by rw [h]; decide), hc]; exact ⟨rfl, rfl⟩
theorem wf_v {s : DS} {p : DP} (h : s.Ok p) : BkWf s.v.d s.v.F := h.wf
end
end Go.Proofs.Ytmmpngigaodcgaa
