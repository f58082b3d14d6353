/- Example nodes. -/
import Derived.Test.YtbfhdggfdhlkfaaNod12
namespace Go.Proofs.Ytbfhdggfdhlkfaa
set_option linter.unusedVariables false
set_option linter.unusedSimpArgs false
open Go Go.RowKit
set_option maxRecDepth 100000
set_option maxHeartbeats 8000000
namespace Nod
def exK (f n : Nat) : List K := (List.range n).map fun i => ⟨f + i, List.replicate 32 0⟩
def exV (f n : Nat) : List (List UInt8) := (List.range n).map fun i => UInt8.ofNat (f + i) :: List.replicate 19 0
def exC (k n : Nat) : List Int := (List.range n).map fun i => ((k + i : Nat) : Int)
def leafN (f n : Nat) : N := ⟨true, exK f n, exV f n, []⟩
def innerN (f n k : Nat) : N := ⟨false, exK f n, [], exC k (n + 1)⟩
theorem exK_len (f n : Nat) : (exK f n).length = n := by simp [exK]
theorem exV_len (f n : Nat) : (exV f n).length = n := by simp [exV]
theorem exC_len (f n : Nat) : (exC f n).length = n := by simp [exC]
theorem exK_succ (f n : Nat) : exK f (n + 1) = exK f n ++ [⟨f + n, List.replicate 32 0⟩] := by simp [exK, List.range_succ]
theorem exV_succ (f n : Nat) : exV f (n + 1) = exV f n ++ [UInt8.ofNat (f + n) :: List.replicate 19 0] := by simp [exV, List.range_succ]
theorem exC_succ (f n : Nat) : exC f (n + 1) = exC f n ++ [((f + n : Nat) : Int)] := by simp [exC, List.range_succ]
theorem exK_wf {f n : Nat} (h : f + n ≤ 1000) : ∀ k ∈ exK f n, k.Wf := fun k hk => by
  obtain ⟨i, hi, rfl⟩ := List.mem_map.1 hk
  have := List.mem_range.1 hi
  exact ⟨by show f + i < _; omega, by simp⟩
theorem exV_wf (f n : Nat) : ∀ v ∈ exV f n, v.length = 20 := fun k hk => by
  obtain ⟨i, hi, rfl⟩ := List.mem_map.1 hk; simp
theorem leafN_wf {f n : Nat} (h : f + n ≤ 1000) : (leafN f n).Wf := ⟨exK_wf h, exV_wf f n, fun c hc => (by cases hc), by rw [leafN, exK_len]; omega, by rw [leafN, exV_len]; omega, by simp [leafN]⟩
theorem innerN_wf {f n k : Nat} (h : f + n ≤ 900) (hk : k ≤ 900) : (innerN f n k).Wf := ⟨exK_wf (by omega), fun c hc => (by cases hc), fun c hc => by
    obtain ⟨i, hi, rfl⟩ := List.mem_map.1 hc
    have := List.mem_range.1 hi
    omega, by rw [innerN, exK_len]; omega, by simp [innerN], by rw [innerN, exC_len]; omega⟩
end Nod
theorem buildKN (n : Nat) (w : World) : (Instr.build 42 [(0, Value.int .u64 (n : Int))].toArray).run Try.prog w = .ok (.agg (kv ⟨n, List.replicate 32 0⟩).toArray) w := by
  simp [Instr.build, Try.zeroValue42, run_underlying Try.underlying42, Try.sizeOf39, Value.cells, Instr.fill]
  rfl
theorem zero19 : (bs zval).toArray = #[.int .u8 0, .int .u8 0, .int .u8 0, .int .u8 0, .int .u8 0, .int .u8 0, .int .u8 0, .int .u8 0, .int .u8 0, .int .u8 0, .int .u8 0, .int .u8 0, .int .u8 0, .int .u8 0, .int .u8 0, .int .u8 0, .int .u8 0, .int .u8 0, .int .u8 0, .int .u8 0] := rfl
theorem buildV1 (c : UInt8) (w : World) : (Instr.build 73 [(0, bv c)].toArray).run Try.prog w = .ok (.agg (bs (c :: List.replicate 19 0)).toArray) w := by
  have h : (Try.prog.info? 73).map (fun i => i.zero) = some (some (.agg (bs zval).toArray)) := by kernel_rfl
  simp only [Instr.build, zero_of h, run_underlying Try.underlying73, Try.sizeOf5, zero19, Value.cells, Instr.fill, Sem.run_bind, Result.andThen_ok, bv]
  simp
  rfl
theorem buildIC (a : Option Addr) (n c : Nat) (w : World) : (Instr.build 26 [(3, Value.slice a n c)].toArray).run Try.prog w = .ok (.agg #[.bool false, .slice none 0 0, .slice none 0 0, .slice a n c]) w := by
  simp [Instr.build, Try.zeroValue26, run_underlying Try.underlying26, Try.sizeOf24, Value.cells, Instr.fill]
attribute [local irreducible] WL WC WN Yl WH WQ WT WE WU
theorem leaf_c (f n : Nat) (w : World) (h : f + n ≤ 100) (hf : 1 ≤ f + n) : Calls Try.prog 31 #[.int .i64 (f : Int), .int .i64 ((f + n - 1 : Nat) : Int)] w (Gives (NdP (Nod.leafN f n)) w) := by
  refine enter (args := [_, _]) Try.func31 Try.ntmps31 rfl rfl ?_
  (repeat (first | refine WC.seq ?_ | refine WC.region ?_))
  refine WL.allocA Try.zeroValue26 rfl fun b4 => ?_
  (repeat (first | refine WL.step (Yl.build (ps := [(0, .const (.bool true))]) rfl (buildL true)) rfl ?_ | refine WC.seq ?_ | refine WC.region ?_ | refine WL.nil ?_ | refine WN.then_normal ?_))
  refine WL.allocA Try.zeroValue26 rfl fun b5 => ?_
  refine WL.storeWhole (T := 26) (k := 4) Try.sizeOf26 rfl rfl rfl (by repeat (first | exact Pick.here | apply Pick.there)) rfl rfl ?_
  (repeat (first | refine WL.step (Yl.move rfl) rfl ?_ | refine WL.step (Yl.assign rfl) rfl ?_ | refine WC.seq ?_ | refine WC.region ?_ | refine WL.nil ?_ | refine WN.then_normal ?_ | refine WC.block ?_))
  refine WC.joinB (α := (Option Addr × Nat) × (Option Addr × Nat)) (fun g => [(4, .pointer (some ⟨b4, 0, none⟩)), (5, .pointer (some ⟨b5, 0, none⟩))])
    (fun g => [.row g.1.1 g.1.2 42 33 (kcells (Nod.exK f n)), .row g.2.1 g.2.2 73 20 (vcells (Nod.exV f n)), .blk b5 (.cells #[.bool true, .slice g.1.1 n g.1.2, .slice g.2.1 n g.2.2, .slice none 0 0] 26 (0, 0)), .blk b4 (.cells #[.bool false, .slice none 0 0, .slice none 0 0, .slice none 0 0] 26 (0, 0))])
    (fun g => n ≤ g.1.2 ∧ n ≤ g.2.2) ?_ ?_
  · refine WC.loop (α := Nat × (Option Addr × Nat) × (Option Addr × Nat)) (fun g => [(1, .int .i64 ((f + n - 1 : Nat) : Int)), (4, .pointer (some ⟨b4, 0, none⟩)), (5, .pointer (some ⟨b5, 0, none⟩)), (6, .int .i64 ((f + g.1 : Nat) : Int))])
      (fun g => [.row g.2.1.1 g.2.1.2 42 33 (kcells (Nod.exK f g.1)), .row g.2.2.1 g.2.2.2 73 20 (vcells (Nod.exV f g.1)), .blk b5 (.cells #[.bool true, .slice g.2.1.1 g.1 g.2.1.2, .slice g.2.2.1 g.1 g.2.2.2, .slice none 0 0] 26 (0, 0)), .blk b4 (.cells #[.bool false, .slice none 0 0, .slice none 0 0, .slice none 0 0] 26 (0, 0))])
      (fun g => g.1 ≤ n ∧ g.1 ≤ g.2.1.2 ∧ g.1 ≤ g.2.2.2) (fun g => n - g.1) (0, (none, 0), (none, 0)) (by repeat (first | exact Sub.nil | refine Sub.cons rfl rfl ?_)) (.free (.free (by repeat (first | exact Part.nil | refine Part.cons (by repeat (first | exact Pick.here | apply Pick.there)) ?_ | refine Part.free ?_)))) ⟨by simp, by simp, by simp⟩ ?_
    intro ⟨i, ⟨ka, kc⟩, ⟨va, vc⟩⟩ ⟨hi, hk, hv⟩
    simp only at hi hk hv ⊢
    (repeat (first | refine WL.step (Yl.move rfl) rfl ?_ | refine WL.step (Yl.leq rfl rfl) rfl ?_ | refine WC.seq ?_ | refine WC.region ?_ | refine WL.nil ?_ | refine WN.then_normal ?_))
    refine WC.ite rfl (fun h1 => ?_) (fun h1 => ?_)
    · have hkw := kv_len (Nod.exK_wf (f := f) (n := i + 1) (by omega) ⟨f + i, List.replicate 32 0⟩ (by rw [Nod.exK_succ]; simp))
      (repeat (first | refine WL.step (Yl.move rfl) rfl ?_ | (refine WL.k_load ?_; refine WL.step (Yl.loadBlk (T := 22) Try.isAgg22 rfl (by repeat (first | exact .head _ | refine .tail _ ?_)) (by rfl)) rfl ?_) | refine WL.step (Yl.fld0 (t := 26) Try.underlying26 fl26 rfl rfl) rfl ?_ | (refine WL.k_conv ?_; refine WL.step (Yl.convLt (s := 3) (t := 39) Try.underlying3 Try.underlying39 rfl rfl (by show _ < 18446744073709551616; omega)) rfl ?_) | refine WL.step (Yl.build (ps := [(0, .tmp 17)]) rfl (buildKN _)) rfl ?_ | refine WC.seq ?_ | refine WC.region ?_ | refine WN.then_normal ?_ | refine WC.block ?_ | refine WC.skip ?_))
      refine WL.lit (t := 22) Try.underlying22 elemKey rfl rfl rfl (fun u hu => by rw [List.mem_singleton.1 hu]; show (kv _).toArray.size = 33; rw [List.size_toArray, hkw]) rfl fun b9 => ?_
      rw [flatK]
      refine WL.appendRow (t := 22) (n := i) (m := 1) (olds := kcells (Nod.exK f i)) Try.underlying22 elemKey rfl rfl (by repeat (first | exact Pick.here | apply Pick.there)) (by rw [kcells_len (Nod.exK_wf (by omega)), Nod.exK_len]) hk (Rd.row (.head _)) (by rw [hkw]) (kv_one _) (by omega) (by simp only [maxLen]; omega) rfl fun q1 hq1 => ?_
      rw [← kcells_snoc, ← Nod.exK_succ]
      (repeat (first | refine WL.step (Yl.fld0 (t := 26) Try.underlying26 fl26 rfl rfl) rfl ?_))
      refine WL.storeAt (T := 22) Try.sizeOf22 rfl rfl rfl (by repeat (first | exact Pick.here | apply Pick.there)) rfl ?_
      (repeat (first | refine WL.step (Yl.move rfl) rfl ?_ | (refine WL.k_load ?_; refine WL.step (Yl.loadBlk (T := 23) Try.isAgg23 rfl (by repeat (first | exact .head _ | refine .tail _ ?_)) (by rfl)) rfl ?_) | refine WL.step (Yl.fld0 (t := 26) Try.underlying26 fl26 rfl rfl) rfl ?_ | refine WL.step (Yl.convN (s := 3) (t := 5) Try.underlying3 Try.underlying5 rfl rfl) rfl ?_ | (refine WL.k_build ?_; refine WL.step (Yl.build (ps := [(0, .tmp 25)]) rfl (fun w => by rw [bvof]; exact buildV1 _ w)) rfl ?_) | refine WC.region ?_ | refine WL.nil ?_ | refine WN.then_normal ?_))
      refine WL.lit (t := 23) Try.underlying23 elemVal rfl rfl rfl (by simp [Value.cells, bs_length]) rfl fun b10 => ?_
      rw [flatV]
      refine WL.appendRow (t := 23) (n := i) (m := 1) (olds := vcells (Nod.exV f i)) Try.underlying23 elemVal rfl rfl (by repeat (first | exact Pick.here | apply Pick.there)) (by rw [vcells_len (Nod.exV_wf _ _), Nod.exV_len]) hv (Rd.row (.head _)) (by simp [bs_length]) (bs_one _) (by omega) (by simp only [maxLen]; omega) rfl fun q2 hq2 => ?_
      rw [← vcells_snoc, ← Nod.exV_succ]
      (repeat (first | refine WL.step (Yl.fld0 (t := 26) Try.underlying26 fl26 rfl rfl) rfl ?_))
      refine WL.storeAt (T := 23) Try.sizeOf23 rfl rfl rfl (by repeat (first | exact Pick.here | apply Pick.there)) rfl ?_
      (repeat (first | refine WL.step (Yl.move rfl) rfl ?_ | refine WL.step (Yl.assign rfl) rfl ?_ | (refine WL.k_bin .add ?_; refine WL.step (Yl.add64C rfl (by omega)) rfl ?_) | refine WC.region ?_ | refine WL.nil ?_ | refine WN.then_normal ?_ | refine WN.block_normal ?_))
      exact WN.next (i + 1, q1, q2) ⟨by simp only; omega, hq1, hq2⟩ (by simp only; omega) (by repeat (first | exact Sub.nil | refine Sub.cons rfl rfl ?_)) (by repeat (first | exact Part.nil | refine Part.cons (by repeat (first | exact Pick.here | apply Pick.there)) ?_ | refine Part.free ?_))
    · obtain rfl : i = n := by omega
      (repeat (first | refine WC.exit ?_ | refine WN.then_exit ?_ | refine WN.block_here ?_))
      exact WN.join ((ka, kc), (va, vc)) ⟨hk, hv⟩ (by repeat (first | exact Sub.nil | refine Sub.cons rfl rfl ?_)) (by repeat (first | exact Part.nil | refine Part.cons (by repeat (first | exact Pick.here | apply Pick.there)) ?_ | refine Part.free ?_))
  · intro ⟨⟨ka, kc⟩, ⟨va, vc⟩⟩ ⟨hk, hv⟩
    simp only at hk hv ⊢
    (repeat (first | (refine WL.k_load ?_; refine WL.step (Yl.loadAll (T := 26) (T' := 26) Try.isAgg26 Try.sizeOf26 rfl (by repeat (first | exact .head _ | refine .tail _ ?_)) rfl) rfl ?_) | refine WC.seq ?_ | refine WC.region ?_))
    refine WL.storeWhole (T := 26) (k := 4) Try.sizeOf26 rfl rfl rfl (by repeat (first | exact Pick.here | apply Pick.there)) rfl rfl ?_
    (repeat (first | refine WL.nil ?_ | refine WN.then_normal ?_ | refine WC.ret ?_))
    have l1 := Nod.exK_len f n
    have l2 := Nod.exV_len f n
    exact WN.ret1C rfl Try.isAgg26 Try.sizeOf26 rfl (by repeat (first | exact .head _ | refine .tail _ ?_)) rfl ⟨⟨ka, kc, va, vc, none, 0⟩, by simp only [Nod.leafN, l1]; exact hk, by simp only [Nod.leafN, l2]; exact hv, Nat.le_refl _, by simp only [id, ndv, ndl, Nod.leafN, l1, l2]; rfl, rfl⟩ (.cons (by repeat (first | exact Pick.here | apply Pick.there)) (.cons (by repeat (first | exact Pick.here | apply Pick.there)) (.free .nil)))
theorem inner_c (f n k : Nat) (w : World) (h : f + n ≤ 100) (hf : 1 ≤ f + n) (hk9 : k ≤ 100) : Calls Try.prog 32 #[.int .i64 (f : Int), .int .i64 ((f + n - 1 : Nat) : Int), .int .i64 (k : Int)] w (Gives (NdP (Nod.innerN f n k)) w) := by
  refine enter (args := [_, _, _]) Try.func32 Try.ntmps32 rfl rfl ?_
  (repeat (first | refine WC.seq ?_ | refine WC.region ?_))
  refine WL.allocA Try.zeroValue26 rfl fun b4 => ?_
  (repeat (first | refine WL.step (Yl.move rfl) rfl ?_ | refine WC.seq ?_ | refine WC.region ?_ | refine WL.nil ?_ | refine WN.then_normal ?_))
  refine WL.lit (t := 24) Try.underlying24 elemInt rfl rfl rfl (by simp [Value.cells]) rfl fun b8 => ?_
  rw [show flat [Value.int .i64 (k : Int)] = icells (Nod.exC k 1) from rfl]
  (repeat (first | refine WL.step (Yl.build (ps := [(3, .tmp 10)]) rfl (buildIC _ _ _)) rfl ?_))
  refine WL.allocA Try.zeroValue26 rfl fun b5 => ?_
  refine WL.storeWhole (T := 26) (k := 4) Try.sizeOf26 rfl rfl rfl (by repeat (first | exact Pick.here | apply Pick.there)) rfl rfl ?_
  (repeat (first | refine WL.step (Yl.move rfl) rfl ?_ | refine WL.step (Yl.assign rfl) rfl ?_ | refine WC.seq ?_ | refine WC.region ?_ | refine WL.nil ?_ | refine WN.then_normal ?_ | refine WC.block ?_))
  refine WC.joinB (α := (Option Addr × Nat) × (Option Addr × Nat)) (fun g => [(6, .pointer (some ⟨b4, 0, none⟩)), (7, .pointer (some ⟨b5, 0, none⟩))])
    (fun g => [.row g.1.1 g.1.2 42 33 (kcells (Nod.exK f n)), .row g.2.1 g.2.2 3 1 (icells (Nod.exC k (n + 1))), .blk b5 (.cells #[.bool false, .slice g.1.1 n g.1.2, .slice none 0 0, .slice g.2.1 (n + 1) g.2.2] 26 (0, 0)), .blk b4 (.cells #[.bool false, .slice none 0 0, .slice none 0 0, .slice none 0 0] 26 (0, 0))])
    (fun g => n ≤ g.1.2 ∧ n + 1 ≤ g.2.2) ?_ ?_
  · refine WC.loop (α := Nat × (Option Addr × Nat) × (Option Addr × Nat)) (fun g => [(0, .int .i64 (f : Int)), (1, .int .i64 ((f + n - 1 : Nat) : Int)), (2, .int .i64 (k : Int)), (6, .pointer (some ⟨b4, 0, none⟩)), (7, .pointer (some ⟨b5, 0, none⟩)), (8, .int .i64 ((f + g.1 : Nat) : Int))])
      (fun g => [.row g.2.1.1 g.2.1.2 42 33 (kcells (Nod.exK f g.1)), .row g.2.2.1 g.2.2.2 3 1 (icells (Nod.exC k (g.1 + 1))), .blk b5 (.cells #[.bool false, .slice g.2.1.1 g.1 g.2.1.2, .slice none 0 0, .slice g.2.2.1 (g.1 + 1) g.2.2.2] 26 (0, 0)), .blk b4 (.cells #[.bool false, .slice none 0 0, .slice none 0 0, .slice none 0 0] 26 (0, 0))])
      (fun g => g.1 ≤ n ∧ g.1 ≤ g.2.1.2 ∧ g.1 + 1 ≤ g.2.2.2) (fun g => n - g.1) (0, (none, 0), (some ⟨b8, 0, none⟩, 1)) (by repeat (first | exact Sub.nil | refine Sub.cons rfl rfl ?_)) (.free (by repeat (first | exact Part.nil | refine Part.cons (by repeat (first | exact Pick.here | apply Pick.there)) ?_ | refine Part.free ?_))) ⟨by simp, by simp, by simp⟩ ?_
    intro ⟨i, ⟨ka, kc⟩, ⟨va, vc⟩⟩ ⟨hi, hk, hv⟩
    simp only at hi hk hv ⊢
    (repeat (first | refine WL.step (Yl.move rfl) rfl ?_ | refine WL.step (Yl.leq rfl rfl) rfl ?_ | refine WC.seq ?_ | refine WC.region ?_ | refine WL.nil ?_ | refine WN.then_normal ?_))
    refine WC.ite rfl (fun h1 => ?_) (fun h1 => ?_)
    · have hkw := kv_len (Nod.exK_wf (f := f) (n := i + 1) (by omega) ⟨f + i, List.replicate 32 0⟩ (by rw [Nod.exK_succ]; simp))
      (repeat (first | refine WL.step (Yl.move rfl) rfl ?_ | (refine WL.k_load ?_; refine WL.step (Yl.loadBlk (T := 22) Try.isAgg22 rfl (by repeat (first | exact .head _ | refine .tail _ ?_)) (by rfl)) rfl ?_) | refine WL.step (Yl.fld0 (t := 26) Try.underlying26 fl26 rfl rfl) rfl ?_ | (refine WL.k_conv ?_; refine WL.step (Yl.convLt (s := 3) (t := 39) Try.underlying3 Try.underlying39 rfl rfl (by show _ < 18446744073709551616; omega)) rfl ?_) | refine WL.step (Yl.build (ps := [(0, .tmp 21)]) rfl (buildKN _)) rfl ?_ | refine WC.seq ?_ | refine WC.region ?_ | refine WN.then_normal ?_ | refine WC.block ?_ | refine WC.skip ?_))
      refine WL.lit (t := 22) Try.underlying22 elemKey rfl rfl rfl (fun u hu => by rw [List.mem_singleton.1 hu]; show (kv _).toArray.size = 33; rw [List.size_toArray, hkw]) rfl fun b9 => ?_
      rw [flatK]
      refine WL.appendRow (t := 22) (n := i) (m := 1) (olds := kcells (Nod.exK f i)) Try.underlying22 elemKey rfl rfl (by repeat (first | exact Pick.here | apply Pick.there)) (by rw [kcells_len (Nod.exK_wf (by omega)), Nod.exK_len]) hk (Rd.row (.head _)) (by rw [hkw]) (kv_one _) (by omega) (by simp only [maxLen]; omega) rfl fun q1 hq1 => ?_
      rw [← kcells_snoc, ← Nod.exK_succ]
      (repeat (first | refine WL.step (Yl.fld0 (t := 26) Try.underlying26 fl26 rfl rfl) rfl ?_))
      refine WL.storeAt (T := 22) Try.sizeOf22 rfl rfl rfl (by repeat (first | exact Pick.here | apply Pick.there)) rfl ?_
      (repeat (first | refine WL.step (Yl.move rfl) rfl ?_ | (refine WL.k_load ?_; refine WL.step (Yl.loadBlk (T := 24) Try.isAgg24 rfl (by repeat (first | exact .head _ | refine .tail _ ?_)) (by rfl)) rfl ?_) | refine WL.step (Yl.fld0 (t := 26) Try.underlying26 fl26 rfl rfl) rfl ?_ | (refine WL.k_bin .add ?_; first | refine WL.step (Yl.add64C rfl (by omega)) rfl ?_ | refine WL.step (Yl.add64N rfl rfl (by omega)) rfl ?_) | (refine WL.k_bin .sub ?_; refine WL.step (Yl.sub64N rfl rfl (by omega) (by omega)) rfl ?_) | refine WC.region ?_ | refine WL.nil ?_ | refine WN.then_normal ?_))
      refine WL.lit (vs := [.int .i64 ((k + (i + 1) : Nat) : Int)]) Try.underlying24 elemInt rfl rfl (by show some [Value.int .i64 ((k + 1 + (f + i) - f : Nat) : Int)] = some [Value.int .i64 ((k + (i + 1) : Nat) : Int)]; congr 3; omega) (by simp [Value.cells]) rfl fun b10 => ?_
      rw [show flat [Value.int .i64 ((k + (i + 1) : Nat) : Int)] = [.int .i64 ((k + (i + 1) : Nat) : Int)] from rfl]
      refine WL.appendRow (n := i + 1) (m := 1) (olds := icells (Nod.exC k (i + 1))) Try.underlying24 elemInt rfl rfl (by repeat (first | exact Pick.here | apply Pick.there)) (by rw [icells_len, Nod.exC_len, Nat.mul_one]) hv (Rd.row (.head _)) rfl (by intro u hu; simp at hu; subst hu; rfl) (by omega) (by simp only [maxLen]; omega) rfl fun q2 hq2 => ?_
      rw [← icells_snoc, ← Nod.exC_succ]
      (repeat (first | refine WL.step (Yl.fld0 (t := 26) Try.underlying26 fl26 rfl rfl) rfl ?_))
      refine WL.storeAt (T := 24) Try.sizeOf24 rfl rfl rfl (by repeat (first | exact Pick.here | apply Pick.there)) rfl ?_
      (repeat (first | refine WL.step (Yl.move rfl) rfl ?_ | refine WL.step (Yl.assign rfl) rfl ?_ | (refine WL.k_bin .add ?_; refine WL.step (Yl.add64C rfl (by omega)) rfl ?_) | refine WC.region ?_ | refine WL.nil ?_ | refine WN.then_normal ?_ | refine WN.block_normal ?_))
      exact WN.next (i + 1, q1, q2) ⟨by simp only; omega, hq1, hq2⟩ (by simp only; omega) (by repeat (first | exact Sub.nil | refine Sub.cons rfl rfl ?_)) (by repeat (first | exact Part.nil | refine Part.cons (by repeat (first | exact Pick.here | apply Pick.there)) ?_ | refine Part.free ?_))
    · obtain rfl : i = n := by omega
      (repeat (first | refine WC.exit ?_ | refine WN.then_exit ?_ | refine WN.block_here ?_))
      exact WN.join ((ka, kc), (va, vc)) ⟨hk, hv⟩ (by repeat (first | exact Sub.nil | refine Sub.cons rfl rfl ?_)) (by repeat (first | exact Part.nil | refine Part.cons (by repeat (first | exact Pick.here | apply Pick.there)) ?_ | refine Part.free ?_))
  · intro ⟨⟨ka, kc⟩, ⟨va, vc⟩⟩ ⟨hk, hv⟩
    simp only at hk hv ⊢
    (repeat (first | (refine WL.k_load ?_; refine WL.step (Yl.loadAll (T := 26) (T' := 26) Try.isAgg26 Try.sizeOf26 rfl (by repeat (first | exact .head _ | refine .tail _ ?_)) rfl) rfl ?_) | refine WC.seq ?_ | refine WC.region ?_))
    refine WL.storeWhole (T := 26) (k := 4) Try.sizeOf26 rfl rfl rfl (by repeat (first | exact Pick.here | apply Pick.there)) rfl rfl ?_
    (repeat (first | refine WL.nil ?_ | refine WN.then_normal ?_ | refine WC.ret ?_))
    have l1 := Nod.exK_len f n
    have l2 := Nod.exC_len k (n + 1)
    exact WN.ret1C rfl Try.isAgg26 Try.sizeOf26 rfl (by repeat (first | exact .head _ | refine .tail _ ?_)) rfl ⟨⟨ka, kc, none, 0, va, vc⟩, by simp only [Nod.innerN, l1]; exact hk, Nat.le_refl _, by simp only [Nod.innerN, l2]; exact hv, by simp only [id, ndv, ndl, Nod.innerN, l1, l2]; rfl, rfl⟩ (.cons (by repeat (first | exact Pick.here | apply Pick.there)) (.free (.cons (by repeat (first | exact Pick.here | apply Pick.there)) .nil)))
end Go.Proofs.Ytbfhdggfdhlkfaa
