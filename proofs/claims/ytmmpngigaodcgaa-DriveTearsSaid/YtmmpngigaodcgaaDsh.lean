/- Drives: whether it is down, its plan, what was counted. -/
import Derived.Test.YtmmpngigaodcgaaWks33
namespace Go.Proofs.Ytmmpngigaodcgaa
set_option linter.unusedVariables false
set_option linter.unusedSimpArgs false
open Go Go.RowKit
set_option maxRecDepth 100000
set_option maxHeartbeats 8000000
structure DSh (v : DV) (dn : Bool) (pl : Option (Nat × List Int)) (o : Nat) : Prop where
  down : v.down = dn
  pl : v.pl = pl
  ops : v.ops = o
section
variable {v : DV} {pl : Option (Nat × List Int)} {o n : Nat} {K : List Int} {dn : Bool}
theorem DSh.lt (h : DSh v dn pl o) (ho : o < 4611686018427387904) : v.ops < 4611686018427387904 := by rw [h.ops]; exact ho
theorem op_sh (h : DSh v false (some (n, K)) o) (hn : n ≠ 1) (f : DV → DV) (hf : ∀ u, (f u).down = u.down ∧ (f u).pl = u.pl ∧ (f u).ops = u.ops) : (v.op f).2 = 0 ∧ DSh (v.op f).1 false (some (n - 1, K)) (o + 1) := by
  have e : v.op f = (f { v with ops := v.ops + 1, pl := some (n - 1, K) }, 0) := by rw [DV.op, h.pl]; simp [hn]
  rw [e]
  refine ⟨rfl, ?_, ?_, ?_⟩
  · rw [(hf _).1]; exact h.down
  · rw [(hf _).2.1]
  · rw [(hf _).2.2, ← h.ops]
theorem op_sh1 (h : DSh v false (some (1, K)) o) (f : DV → DV) : (v.op f).2 = 11 ∧ DSh (v.op f).1 true none (o + 1) := by
  have e : v.op f = (({ v with ops := v.ops + 1 } : DV).crash K, 11) := by rw [DV.op, h.pl]; simp
  rw [e]
  exact ⟨rfl, rfl, rfl, by simp only [DV.crash, h.ops]⟩
theorem op_sh0 (h : DSh v false none o) (f : DV → DV) (hf : ∀ u, (f u).down = u.down ∧ (f u).pl = u.pl ∧ (f u).ops = u.ops) : (v.op f).2 = 0 ∧ DSh (v.op f).1 false none (o + 1) := by
  have e : v.op f = (f { v with ops := v.ops + 1 }, 0) := by rw [DV.op, h.pl]
  rw [e]
  refine ⟨rfl, ?_, ?_, ?_⟩
  · rw [(hf _).1]; exact h.down
  · rw [(hf _).2.1]; exact h.pl
  · rw [(hf _).2.2, ← h.ops]
theorem done_sh (u : DV) : u.done.down = u.down ∧ u.done.pl = u.pl ∧ u.done.ops = u.ops := ⟨rfl, rfl, rfl⟩
theorem id_sh (u : DV) : (id u).down = u.down ∧ (id u).pl = u.pl ∧ (id u).ops = u.ops := ⟨rfl, rfl, rfl⟩
theorem sync_sh (h : DSh v false (some (n, K)) o) (hn : n ≠ 1) : v.sync.2 = 0 ∧ DSh v.sync.1 false (some (n - 1, K)) (o + 1) := by
  rw [DV.sync, if_neg (by rw [h.down]; decide)]; exact op_sh h hn _ done_sh
theorem sync_sh1 (h : DSh v false (some (1, K)) o) : v.sync.2 = 11 ∧ DSh v.sync.1 true none (o + 1) := by
  rw [DV.sync, if_neg (by rw [h.down]; decide)]; exact op_sh1 h _
theorem sync_sh0 (h : DSh v false none o) : v.sync.2 = 0 ∧ DSh v.sync.1 false none (o + 1) := by
  rw [DV.sync, if_neg (by rw [h.down]; decide)]; exact op_sh0 h _ done_sh
theorem sync_dn (h : DSh v true pl o) : v.sync.2 = 11 ∧ v.sync.1 = v := by
  rw [DV.sync, if_pos h.down]; exact ⟨rfl, rfl⟩
theorem arm_sh {z : Int} (h : DSh v dn pl o) (hp : planOk z K) (hz : z ≠ 0) : (v.arm z K).2 = 0 ∧ DSh (v.arm z K).1 dn (some (z.toNat, K)) o := by
  rw [DV.arm, if_pos hp, if_neg hz]; exact ⟨rfl, h.down, rfl, h.ops⟩
theorem arm_no {z : Int} (hp : ¬ planOk z K) : (v.arm z K).2 = 2 ∧ (v.arm z K).1 = v := by
  rw [DV.arm, if_neg hp]; exact ⟨rfl, rfl⟩
theorem arm_now (h : DSh v false pl o) (hp : planOk 0 K) : (v.arm 0 K).2 = 0 ∧ (v.arm 0 K).1 = v.crash K := by
  rw [DV.arm, if_pos hp, if_pos rfl, if_neg (by rw [h.down]; decide)]; exact ⟨rfl, rfl⟩
theorem arm_dn (h : DSh v true pl o) (hp : planOk 0 K) : (v.arm 0 K).2 = 0 ∧ DSh (v.arm 0 K).1 true none o := by
  rw [DV.arm, if_pos hp, if_pos rfl, if_pos h.down]; exact ⟨rfl, h.down, rfl, h.ops⟩
theorem restart_sh (h : DSh v dn pl o) : DSh { v with down := false } false pl o := ⟨rfl, h.pl, h.ops⟩
end
theorem plan0 {z : Int} (h1 : 0 ≤ z) (h2 : z ≤ 1000000) : planOk z [0] := ⟨h1, h2, by decide, by decide, by intro k hk; simp at hk; subst hk; decide⟩
theorem plan0n (z : Int) : ¬ planOk z [] := fun h => absurd h.2.2.1 (by decide)
theorem buildPl0 (n : Int) (w : World) : (Instr.build 24 [(0, .int .i64 n)].toArray).run Try.prog w = .ok (.agg #[.int .i64 n, .slice none 0 0]) w := by
  simp [Instr.build, Try.zeroValue24, run_underlying Try.underlying24, Try.sizeOf3, Try.sizeOf22, Value.cells, Instr.fill]
end Go.Proofs.Ytmmpngigaodcgaa
