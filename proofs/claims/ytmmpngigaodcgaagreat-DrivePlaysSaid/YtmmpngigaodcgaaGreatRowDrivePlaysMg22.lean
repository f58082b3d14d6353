import Derived.Test.YtmmpngigaodcgaaGreatRowDrivePlaysMg21
import Derived.Test.YtmmpngigaodcgaaGreatRowDrivePlaysMg10
import Derived.Test.YtmmpngigaodcgaaGreatRowDrivePlaysMg7
import Derived.Test.YtmmpngigaodcgaaGreatRowDrivePlaysMg19
import Derived.Test.YtmmpngigaodcgaaGreatRowDrivePlaysMg5
import Derived.Test.YtmmpngigaodcgaaGreatRowDrivePlaysMg3
import Derived.OpenShut
import Derived.Deep.Matrix
/- The steps of DrivePlays: their bytes; rows of numbers compared. -/
namespace Go.Proofs.YtmmpngigaodcgaaGreat
set_option linter.unusedVariables false
set_option linter.unusedSimpArgs false
open Go Go.RowKit
set_option maxRecDepth 100000
set_option maxHeartbeats 8000000
structure DStep where
  act : Int
  sec : Int
  size : Int
  fill : UInt8
  at_ : Int
  a : Option Addr
  m : Nat
  c : Nat
  K : List Int
def DStep.cs (s : DStep) : List Value := [.int .i64 s.act, .int .i64 s.sec, .int .i64 s.size, bv s.fill, .int .i64 s.at_, .slice s.a s.m s.c]
structure DStep.Ok (s : DStep) (w : World) : Prop where
  hl : s.K.length = s.m
  hc : s.m ≤ s.c
  hm : s.c ≤ 9223372036854775807
  hr : CellsAt w s.a (zcells s.K)
theorem DStep.len (s : DStep) : s.cs.length = 6 := rfl
def DStep.n (s : DStep) : Nat := (min (max s.size 0) 300).toNat
def DStep.dat (s : DStep) : List UInt8 := (List.range s.n).map fun i => s.fill + UInt8.ofNat i
theorem DStep.dat_len (s : DStep) : s.dat.length = s.n := by simp [DStep.dat]
theorem DStep.n_le (s : DStep) : s.n ≤ 300 := by simp only [DStep.n]; omega
theorem DStep.n_is (s : DStep) : (if (300 : Int) < (if 0 > s.size then 0 else s.size) then 300 else (if 0 > s.size then 0 else s.size)) = (s.n : Int) := by
  simp only [DStep.n]; split <;> split <;> omega
theorem DStep.dat_is (s : DStep) {l : List UInt8} (hl : l.length = s.n) (h : ∀ j, j < s.n → l.getD j 0 = s.fill + UInt8.ofNat j) : l = s.dat := by
  apply List.ext_getElem
  · rw [hl, s.dat_len]
  · intro j h1 h2
    have := h j (by omega)
    simp only [List.getD, h1, List.getElem?_eq_getElem, Option.getD_some] at this
    simp [DStep.dat, this]
theorem add_u8 (a b : UInt8) (i : Nat) (hi : i < 256 ∨ True) : ((((a.toNat + i % 2 ^ 8) % 2 ^ 8 : Nat) : Int)) = (((a + UInt8.ofNat i).toNat : Nat) : Int) := by
  simp [UInt8.toNat_add]
attribute [local irreducible] WL WC WN Yl WH WQ WT WE WU WG WV
theorem sdata_c (s : DStep) (w : World) : Calls Tryz.prog 9 #[.agg s.cs.toArray] w (Gives (NewRow id 5 1 s.dat.length (bs s.dat)) w) := by
  refine enter (args := [.agg s.cs.toArray]) Tryz.func9 Tryz.ntmps9 rfl rfl ?_
  have hn := s.n_le
  (repeat (first | (refine WL.k_move ?_; first | refine WL.step (Yl.move rfl) rfl ?_) | (refine WL.k_assign ?_; first | refine WL.step (Yl.assign rfl) rfl ?_) | (refine WL.k_bi .len ?_; first | refine WL.step (Yl.len (t := 38) Tryz.underlying38 rfl) rfl ?_) | (refine WL.k_bin .lss ?_; first | refine WL.step (Yl.lss rfl rfl) rfl ?_) | (refine WL.k_bin .add ?_; first | refine WL.step (Yl.add64C rfl (by omega)) rfl ?_ | refine WL.step (Yl.addC64 rfl (by omega)) rfl ?_ | refine WL.step (Yl.add64N rfl rfl (by omega)) rfl ?_ | refine WL.step (Yl.add64 rfl rfl (by omega)) rfl ?_) | refine WC.seq ?_ | refine WC.region ?_ | refine WL.nil ?_ | refine WN.then_normal ?_ | refine WC.block ?_ | refine WC.skip ?_ | refine WC.exit ?_ | refine WC.ret ?_ | refine WN.then_exit ?_ | refine WN.then_ret ?_ | refine WN.block_normal ?_ | refine WN.block_ret ?_ | refine WN.block_here ?_ | refine WN.block_past (by decide) ?_))
  refine WL.boxA rfl rfl fun b1 => ?_
  (repeat (first | (refine WL.k_move ?_; first | refine WL.step (Yl.move rfl) rfl ?_) | (refine WL.k_assign ?_; first | refine WL.step (Yl.assign rfl) rfl ?_) | (refine WL.k_load ?_; first | refine WL.step (Yl.loadBlk (T := 3) Tryz.isAgg3 rfl (by repeat (first | exact .head _ | refine .tail _ ?_)) (by rfl)) rfl ?_) | (refine WL.k_fld ?_; first | refine WL.step (Yl.fldN0 (i := 0) (o := 0) (by kernel_rfl) rfl) rfl ?_ | refine WL.step (Yl.fldN0 (i := 1) (o := 1) (by kernel_rfl) rfl) rfl ?_ | refine WL.step (Yl.fldN0 (i := 2) (o := 2) (by kernel_rfl) rfl) rfl ?_ | refine WL.step (Yl.fldN0 (i := 3) (o := 3) (by kernel_rfl) rfl) rfl ?_ | refine WL.step (Yl.fldN0 (i := 4) (o := 4) (by kernel_rfl) rfl) rfl ?_) | (refine WL.k_bi .max ?_; first | refine WL.step (Yl.max2 rfl rfl) rfl ?_) | (refine WL.k_bi .min ?_; first | refine WL.step (Yl.min2 rfl rfl) rfl ?_) | (refine WL.k_bi .len ?_; first | refine WL.step (Yl.len (t := 38) Tryz.underlying38 rfl) rfl ?_) | (refine WL.k_bin .lss ?_; first | refine WL.step (Yl.lss rfl rfl) rfl ?_) | (refine WL.k_bin .add ?_; first | refine WL.step (Yl.add64C rfl (by omega)) rfl ?_ | refine WL.step (Yl.addC64 rfl (by omega)) rfl ?_ | refine WL.step (Yl.add64N rfl rfl (by omega)) rfl ?_ | refine WL.step (Yl.add64 rfl rfl (by omega)) rfl ?_) | refine WC.seq ?_ | refine WC.region ?_ | refine WL.nil ?_ | refine WN.then_normal ?_ | refine WC.block ?_ | refine WC.skip ?_ | refine WC.exit ?_ | refine WC.ret ?_ | refine WN.then_exit ?_ | refine WN.then_ret ?_ | refine WN.block_normal ?_ | refine WN.block_ret ?_ | refine WN.block_here ?_ | refine WN.block_past (by decide) ?_))
  rw [s.n_is]
  refine WL.make (t := 38) (m := s.n) (n := s.n) Tryz.underlying38 elemU8 rfl rfl rfl (Nat.le_refl _) (by omega) (by simp only [maxLen]; omega) rfl fun b => ?_
  (repeat (first | (refine WL.k_move ?_; first | refine WL.step (Yl.move rfl) rfl ?_) | (refine WL.k_assign ?_; first | refine WL.step (Yl.assign rfl) rfl ?_) | (refine WL.k_bi .len ?_; first | refine WL.step (Yl.len (t := 38) Tryz.underlying38 rfl) rfl ?_) | (refine WL.k_bin .lss ?_; first | refine WL.step (Yl.lss rfl rfl) rfl ?_) | (refine WL.k_bin .add ?_; first | refine WL.step (Yl.add64C rfl (by omega)) rfl ?_ | refine WL.step (Yl.addC64 rfl (by omega)) rfl ?_ | refine WL.step (Yl.add64N rfl rfl (by omega)) rfl ?_ | refine WL.step (Yl.add64 rfl rfl (by omega)) rfl ?_) | refine WC.seq ?_ | refine WC.region ?_ | refine WL.nil ?_ | refine WN.then_normal ?_ | refine WC.block ?_ | refine WC.skip ?_ | refine WC.exit ?_ | refine WC.ret ?_ | refine WN.then_exit ?_ | refine WN.then_ret ?_ | refine WN.block_normal ?_ | refine WN.block_ret ?_ | refine WN.block_here ?_ | refine WN.block_past (by decide) ?_))
  refine WC.loop (α := Nat × List UInt8) (fun g => [(1, .pointer (some ⟨b1, 0, none⟩)), (3, .slice (some ⟨b, 0, none⟩) s.n s.n), (11, .int .i64 (s.n : Int)), (12, .int .i64 (g.1 : Int))]) (fun g => [.row (some ⟨b, 0, none⟩) s.n 5 1 (bs g.2), .blk b1 (.cells s.cs.toArray 35 (0, 0))])
    (fun g => g.1 ≤ s.n ∧ g.2.length = s.n ∧ ∀ j, j < g.1 → g.2.getD j 0 = s.fill + UInt8.ofNat j) (fun g => s.n - g.1) (0, List.replicate s.n 0) (by repeat (first | exact Sub.nil | refine Sub.cons rfl rfl ?_)) (by rw [show bs ((0, List.replicate s.n 0) : Nat × List UInt8).2 = List.replicate s.n (.int .u8 0) by simp [bs, bv]]; exact Part.refl _) ⟨Nat.zero_le _, List.length_replicate, fun j hj => by simp only at hj; omega⟩ ?_
  rintro ⟨i, l⟩ ⟨hi, hl, hp⟩
  simp only at hi hl hp ⊢
  (repeat (first | (refine WL.k_move ?_; first | refine WL.step (Yl.move rfl) rfl ?_) | (refine WL.k_assign ?_; first | refine WL.step (Yl.assign rfl) rfl ?_) | (refine WL.k_bi .len ?_; first | refine WL.step (Yl.len (t := 38) Tryz.underlying38 rfl) rfl ?_) | (refine WL.k_bin .lss ?_; first | refine WL.step (Yl.lss rfl rfl) rfl ?_) | (refine WL.k_bin .add ?_; first | refine WL.step (Yl.add64C rfl (by omega)) rfl ?_ | refine WL.step (Yl.addC64 rfl (by omega)) rfl ?_ | refine WL.step (Yl.add64N rfl rfl (by omega)) rfl ?_ | refine WL.step (Yl.add64 rfl rfl (by omega)) rfl ?_) | refine WC.seq ?_ | refine WC.region ?_ | refine WL.nil ?_ | refine WN.then_normal ?_ | refine WC.block ?_ | refine WC.skip ?_ | refine WC.exit ?_ | refine WC.ret ?_ | refine WN.then_exit ?_ | refine WN.then_ret ?_ | refine WN.block_normal ?_ | refine WN.block_ret ?_ | refine WN.block_here ?_ | refine WN.block_past (by decide) ?_))
  refine WC.ite rfl (fun h1 => ?_) (fun h1 => ?_)
  · have hin : i < l.length := by omega
    have hu := s.fill.toNat_lt
    (repeat (first | (refine WL.k_move ?_; first | refine WL.step (Yl.move rfl) rfl ?_) | (refine WL.k_assign ?_; first | refine WL.step (Yl.assign rfl) rfl ?_) | (refine WL.k_load ?_; first | refine WL.step (Yl.loadBlk (T := 5) Tryz.isAgg5 rfl (by repeat (first | exact .head _ | refine .tail _ ?_)) (by rfl)) rfl ?_) | (refine WL.k_fld ?_; first | refine WL.step (Yl.fldN0 (i := 0) (o := 0) (by kernel_rfl) rfl) rfl ?_ | refine WL.step (Yl.fldN0 (i := 1) (o := 1) (by kernel_rfl) rfl) rfl ?_ | refine WL.step (Yl.fldN0 (i := 2) (o := 2) (by kernel_rfl) rfl) rfl ?_ | refine WL.step (Yl.fldN0 (i := 3) (o := 3) (by kernel_rfl) rfl) rfl ?_ | refine WL.step (Yl.fldN0 (i := 4) (o := 4) (by kernel_rfl) rfl) rfl ?_) | (refine WL.k_conv ?_; first | refine WL.step (Yl.convN (s := 3) (t := 5) Tryz.underlying3 Tryz.underlying5 rfl rfl) rfl ?_) | (refine WL.k_bin .add ?_; first | refine WL.step (Yl.addN rfl rfl rfl) rfl ?_ | refine WL.step (Yl.add64C rfl (by omega)) rfl ?_ | refine WL.step (Yl.addC64 rfl (by omega)) rfl ?_ | refine WL.step (Yl.add64N rfl rfl (by omega)) rfl ?_ | refine WL.step (Yl.add64 rfl rfl (by omega)) rfl ?_) | (refine WL.k_idxa ?_; first | refine WL.step (Yl.indexAddr1 (t := 38) (j := i) Tryz.underlying38 Tryz.sizeOf5 rfl rfl (Rd.row (.head _)) (bs_ne hin) (by omega)) rfl ?_) | (refine WL.k_bi .len ?_; first | refine WL.step (Yl.len (t := 38) Tryz.underlying38 rfl) rfl ?_) | (refine WL.k_bin .lss ?_; first | refine WL.step (Yl.lss rfl rfl) rfl ?_) | refine WC.seq ?_ | refine WC.region ?_ | refine WL.nil ?_ | refine WN.then_normal ?_ | refine WC.block ?_ | refine WC.skip ?_ | refine WC.exit ?_ | refine WC.ret ?_ | refine WN.then_exit ?_ | refine WN.then_ret ?_ | refine WN.block_normal ?_ | refine WN.block_ret ?_ | refine WN.block_here ?_ | refine WN.block_past (by decide) ?_))
    refine WL.storeRow (T := 5) (i := i) (vs := bs l) Tryz.sizeOf5 rfl rfl rfl .here (by rw [bs_length]; exact hin) ?_
    rw [show (bs l).set i (.int .u8 (((s.fill.toNat + i % 2 ^ IntKind.u8.bits) % 2 ^ IntKind.u8.bits : Nat) : Int)) = bs (l.set i (s.fill + UInt8.ofNat i)) by
      rw [bs_set, bv]; exact congrArg (fun z => (bs l).set i (Value.int .u8 z)) (add_u8 s.fill 0 i (.inr trivial))]
    (repeat (first | (refine WL.k_move ?_; first | refine WL.step (Yl.move rfl) rfl ?_) | (refine WL.k_assign ?_; first | refine WL.step (Yl.assign rfl) rfl ?_) | (refine WL.k_bi .len ?_; first | refine WL.step (Yl.len (t := 38) Tryz.underlying38 rfl) rfl ?_) | (refine WL.k_bin .lss ?_; first | refine WL.step (Yl.lss rfl rfl) rfl ?_) | (refine WL.k_bin .add ?_; first | refine WL.step (Yl.add64C rfl (by omega)) rfl ?_ | refine WL.step (Yl.addC64 rfl (by omega)) rfl ?_ | refine WL.step (Yl.add64N rfl rfl (by omega)) rfl ?_ | refine WL.step (Yl.add64 rfl rfl (by omega)) rfl ?_) | refine WC.seq ?_ | refine WC.region ?_ | refine WL.nil ?_ | refine WN.then_normal ?_ | refine WC.block ?_ | refine WC.skip ?_ | refine WC.exit ?_ | refine WC.ret ?_ | refine WN.then_exit ?_ | refine WN.then_ret ?_ | refine WN.block_normal ?_ | refine WN.block_ret ?_ | refine WN.block_here ?_ | refine WN.block_past (by decide) ?_))
    refine WN.next (i + 1, l.set i (s.fill + UInt8.ofNat i)) ⟨by simp only; omega, by simp only [List.length_set]; exact hl, fun j hj => ?_⟩ (by simp only; omega) (by repeat (first | exact Sub.nil | refine Sub.cons rfl rfl ?_)) (by repeat (first | exact Part.nil | refine Part.cons (by repeat (first | exact Pick.here | apply Pick.there)) ?_ | refine Part.free ?_))
    simp only at hj ⊢
    by_cases e : j = i
    · subst e; simp [List.getD, hin]
    · rw [show (l.set i (s.fill + UInt8.ofNat i)).getD j 0 = l.getD j 0 by simp [List.getD, List.getElem?_set_ne (Ne.symm e)]]
      exact hp j (by omega)
  · (repeat (first | (refine WL.k_move ?_; first | refine WL.step (Yl.move rfl) rfl ?_) | (refine WL.k_assign ?_; first | refine WL.step (Yl.assign rfl) rfl ?_) | (refine WL.k_bi .len ?_; first | refine WL.step (Yl.len (t := 38) Tryz.underlying38 rfl) rfl ?_) | (refine WL.k_bin .lss ?_; first | refine WL.step (Yl.lss rfl rfl) rfl ?_) | (refine WL.k_bin .add ?_; first | refine WL.step (Yl.add64C rfl (by omega)) rfl ?_ | refine WL.step (Yl.addC64 rfl (by omega)) rfl ?_ | refine WL.step (Yl.add64N rfl rfl (by omega)) rfl ?_ | refine WL.step (Yl.add64 rfl rfl (by omega)) rfl ?_) | refine WC.seq ?_ | refine WC.region ?_ | refine WL.nil ?_ | refine WN.then_normal ?_ | refine WC.block ?_ | refine WC.skip ?_ | refine WC.exit ?_ | refine WC.ret ?_ | refine WN.then_exit ?_ | refine WN.then_ret ?_ | refine WN.block_normal ?_ | refine WN.block_ret ?_ | refine WN.block_here ?_ | refine WN.block_past (by decide) ?_))
    have e : l = s.dat := s.dat_is hl fun j hj => hp j (by omega)
    rw [e]
    refine WN.ret1 rfl rfl ⟨some ⟨b, 0, none⟩, s.n, by rw [s.dat_len]; exact Nat.le_refl _, by rw [s.dat_len]; rfl, rfl⟩ (by repeat (first | exact Part.nil | refine Part.cons (by repeat (first | exact Pick.here | apply Pick.there)) ?_ | refine Part.free ?_))
theorem iequal_t (a b : Option Addr) (n c1 c2 : Nat) (l : List Int) (w : World) (hl : l.length = n) (hn : n ≤ 9223372036854775807) (hr : CellsAt w a (zcells l)) (hr2 : CellsAt w b (zcells l)) :
    Calls Tryz.prog 18 #[.slice a n c1, .slice b n c2] w (Gives (Val (.bool true)) w) := by
  refine enter (args := [_, _]) Tryz.func18 Tryz.ntmps18 rfl rfl ?_
  (repeat (first | (refine WL.k_move ?_; first | refine WL.step (Yl.move rfl) rfl ?_) | (refine WL.k_assign ?_; first | refine WL.step (Yl.assign rfl) rfl ?_) | (refine WL.k_bi .len ?_; first | refine WL.step (Yl.len (t := 31) Tryz.underlying31 rfl) rfl ?_ | refine WL.step (Yl.len (t := 38) Tryz.underlying38 rfl) rfl ?_) | (refine WL.k_bin .neq ?_; first | refine WL.step (Yl.neqF rfl rfl rfl) rfl ?_ | refine WL.step (Yl.strNeq rfl rfl) rfl ?_ | refine WL.step (Yl.neq rfl rfl) rfl ?_) | (refine WL.k_bin .lss ?_; first | refine WL.step (Yl.lss rfl rfl) rfl ?_) | (refine WL.k_bin .add ?_; first | refine WL.step (Yl.add64C rfl (by omega)) rfl ?_ | refine WL.step (Yl.addC64 rfl (by omega)) rfl ?_ | refine WL.step (Yl.add64N rfl rfl (by omega)) rfl ?_ | refine WL.step (Yl.add64 rfl rfl (by omega)) rfl ?_) | refine WC.seq ?_ | refine WC.region ?_ | refine WL.nil ?_ | refine WN.then_normal ?_ | refine WC.block ?_ | refine WC.skip ?_ | refine WC.exit ?_ | refine WC.ret ?_ | refine WN.then_exit ?_ | refine WN.then_ret ?_ | refine WN.block_normal ?_ | refine WN.block_ret ?_ | refine WN.block_here ?_ | refine WN.block_past (by decide) ?_))
  refine WC.cond_false rfl rfl ?_
  (repeat (first | (refine WL.k_move ?_; first | refine WL.step (Yl.move rfl) rfl ?_) | (refine WL.k_assign ?_; first | refine WL.step (Yl.assign rfl) rfl ?_) | (refine WL.k_bi .len ?_; first | refine WL.step (Yl.len (t := 31) Tryz.underlying31 rfl) rfl ?_ | refine WL.step (Yl.len (t := 38) Tryz.underlying38 rfl) rfl ?_) | (refine WL.k_bin .neq ?_; first | refine WL.step (Yl.strNeq rfl rfl) rfl ?_ | refine WL.step (Yl.neq rfl rfl) rfl ?_) | (refine WL.k_bin .lss ?_; first | refine WL.step (Yl.lss rfl rfl) rfl ?_) | (refine WL.k_bin .add ?_; first | refine WL.step (Yl.add64C rfl (by omega)) rfl ?_ | refine WL.step (Yl.addC64 rfl (by omega)) rfl ?_ | refine WL.step (Yl.add64N rfl rfl (by omega)) rfl ?_ | refine WL.step (Yl.add64 rfl rfl (by omega)) rfl ?_) | refine WC.seq ?_ | refine WC.region ?_ | refine WL.nil ?_ | refine WN.then_normal ?_ | refine WC.block ?_ | refine WC.skip ?_ | refine WC.exit ?_ | refine WC.ret ?_ | refine WN.then_exit ?_ | refine WN.then_ret ?_ | refine WN.block_normal ?_ | refine WN.block_ret ?_ | refine WN.block_here ?_ | refine WN.block_past (by decide) ?_))
  refine WC.loop (α := Nat) (fun i => [(0, .slice a n c1), (1, .slice b n c2), (12, .int .i64 (n : Int)), (13, .int .i64 (i : Int))]) (fun _ => []) (fun i => i ≤ n) (fun i => n - i) 0 (by repeat (first | exact Sub.nil | refine Sub.cons rfl rfl ?_)) .nil (Nat.zero_le _) ?_
  intro i hi
  (repeat (first | (refine WL.k_move ?_; first | refine WL.step (Yl.move rfl) rfl ?_) | (refine WL.k_assign ?_; first | refine WL.step (Yl.assign rfl) rfl ?_) | (refine WL.k_bi .len ?_; first | refine WL.step (Yl.len (t := 38) Tryz.underlying38 rfl) rfl ?_) | (refine WL.k_bin .neq ?_; first | refine WL.step (Yl.strNeq rfl rfl) rfl ?_ | refine WL.step (Yl.neq rfl rfl) rfl ?_) | (refine WL.k_bin .lss ?_; first | refine WL.step (Yl.lss rfl rfl) rfl ?_) | (refine WL.k_bin .add ?_; first | refine WL.step (Yl.add64C rfl (by omega)) rfl ?_ | refine WL.step (Yl.addC64 rfl (by omega)) rfl ?_ | refine WL.step (Yl.add64N rfl rfl (by omega)) rfl ?_ | refine WL.step (Yl.add64 rfl rfl (by omega)) rfl ?_) | refine WC.seq ?_ | refine WC.region ?_ | refine WL.nil ?_ | refine WN.then_normal ?_ | refine WC.block ?_ | refine WC.skip ?_ | refine WC.exit ?_ | refine WC.ret ?_ | refine WN.then_exit ?_ | refine WN.then_ret ?_ | refine WN.block_normal ?_ | refine WN.block_ret ?_ | refine WN.block_here ?_ | refine WN.block_past (by decide) ?_))
  refine WC.ite rfl (fun h1 => ?_) (fun h1 => ?_)
  · have him : i < l.length := by omega
    (repeat (first | (refine WL.k_move ?_; first | refine WL.step (Yl.move rfl) rfl ?_) | (refine WL.k_assign ?_; first | refine WL.step (Yl.assign rfl) rfl ?_) | (refine WL.k_bi .len ?_; first | refine WL.step (Yl.len (t := 38) Tryz.underlying38 rfl) rfl ?_) | (refine WL.k_bin .neq ?_; first | refine WL.step (Yl.strNeq rfl rfl) rfl ?_ | refine WL.step (Yl.neq rfl rfl) rfl ?_) | (refine WL.k_bin .lss ?_; first | refine WL.step (Yl.lss rfl rfl) rfl ?_) | (refine WL.k_bin .add ?_; first | refine WL.step (Yl.add64C rfl (by omega)) rfl ?_ | refine WL.step (Yl.addC64 rfl (by omega)) rfl ?_ | refine WL.step (Yl.add64N rfl rfl (by omega)) rfl ?_ | refine WL.step (Yl.add64 rfl rfl (by omega)) rfl ?_) | refine WC.seq ?_ | refine WC.region ?_ | refine WL.nil ?_ | refine WN.then_normal ?_ | refine WC.block ?_ | refine WC.skip ?_ | refine WC.exit ?_ | refine WC.ret ?_ | refine WN.then_exit ?_ | refine WN.then_ret ?_ | refine WN.block_normal ?_ | refine WN.block_ret ?_ | refine WN.block_here ?_ | refine WN.block_past (by decide) ?_))
    refine WC.regionH [] (by kernel_rfl) ?_
    (refine WH.order [0, 1, 2, 3, 4, 5, 6, 7, 8] (by repeat (first | exact Part.nil | refine Part.cons (by repeat (first | exact Pick.here | apply Pick.there)) ?_ | refine Part.free ?_)) (by kernel_rfl) ?_; (repeat (first | (refine WT.k_move rfl ?_; first | refine WT.take rfl rfl (fun _ _ _ h => h) (Yl.move rfl) rfl (by kernel_rfl) (by kernel_rfl) ?_) | (refine WT.k_assign rfl ?_; first | refine WT.take rfl rfl (fun _ _ _ h => h) (Yl.assign rfl) rfl (by kernel_rfl) (by kernel_rfl) ?_) | (refine WT.k_load rfl ?_; first | refine WT.take rfl rfl (fun _ _ _ h => h) (Yl.load (T := 3) (a := a) (i := i) Tryz.isAgg3 rfl (Rd.old hr) (zcells_at him)) rfl (by kernel_rfl) (by kernel_rfl) ?_ | refine WT.take rfl rfl (fun _ _ _ h => h) (Yl.load (T := 3) (a := b) (i := i) Tryz.isAgg3 rfl (Rd.old hr2) (zcells_at him)) rfl (by kernel_rfl) (by kernel_rfl) ?_) | (refine WT.k_idxa rfl ?_; first | refine WT.take rfl rfl (fun _ _ _ h => h) (Yl.indexAddr1 (t := 31) (a := a) (n := n) (cap := c1) (j := i) Tryz.underlying31 Tryz.sizeOf3 rfl rfl (Rd.old hr) (zcells_ne him) (by omega)) rfl (by kernel_rfl) (by kernel_rfl) ?_ | refine WT.take rfl rfl (fun _ _ _ h => h) (Yl.indexAddr1 (t := 31) (a := b) (n := n) (cap := c2) (j := i) Tryz.underlying31 Tryz.sizeOf3 rfl rfl (Rd.old hr2) (zcells_ne him) (by omega)) rfl (by kernel_rfl) (by kernel_rfl) ?_) | (refine WT.k_bin .neq rfl ?_; first | refine WT.take rfl rfl (fun _ _ _ h => h) (Yl.neqF rfl rfl rfl) rfl (by kernel_rfl) (by kernel_rfl) ?_ | refine WT.take rfl rfl (fun _ _ _ h => h) (Yl.strNeq rfl rfl) rfl (by kernel_rfl) (by kernel_rfl) ?_ | refine WT.take rfl rfl (fun _ _ _ h => h) (Yl.neq rfl rfl) rfl (by kernel_rfl) (by kernel_rfl) ?_) | (refine WT.k_bi .len rfl ?_; first | refine WT.take rfl rfl (fun _ _ _ h => h) (Yl.len (t := 38) Tryz.underlying38 rfl) rfl (by kernel_rfl) (by kernel_rfl) ?_) | (refine WT.k_bin .lss rfl ?_; first | refine WT.take rfl rfl (fun _ _ _ h => h) (Yl.lss rfl rfl) rfl (by kernel_rfl) (by kernel_rfl) ?_) | (refine WT.k_bin .add rfl ?_; first | refine WT.take rfl rfl (fun _ _ _ h => h) (Yl.add64C rfl (by omega)) rfl (by kernel_rfl) (by kernel_rfl) ?_ | refine WT.take rfl rfl (fun _ _ _ h => h) (Yl.addC64 rfl (by omega)) rfl (by kernel_rfl) (by kernel_rfl) ?_ | refine WT.take rfl rfl (fun _ _ _ h => h) (Yl.add64N rfl rfl (by omega)) rfl (by kernel_rfl) (by kernel_rfl) ?_ | refine WT.take rfl rfl (fun _ _ _ h => h) (Yl.add64 rfl rfl (by omega)) rfl (by kernel_rfl) (by kernel_rfl) ?_))); refine WT.nil ?_)
    refine WH.done (by kernel_rfl) ?_
    (repeat (first | (refine WL.k_move ?_; first | refine WL.step (Yl.move rfl) rfl ?_) | (refine WL.k_assign ?_; first | refine WL.step (Yl.assign rfl) rfl ?_) | (refine WL.k_bi .len ?_; first | refine WL.step (Yl.len (t := 38) Tryz.underlying38 rfl) rfl ?_) | (refine WL.k_bin .neq ?_; first | refine WL.step (Yl.strNeq rfl rfl) rfl ?_ | refine WL.step (Yl.neq rfl rfl) rfl ?_) | (refine WL.k_bin .lss ?_; first | refine WL.step (Yl.lss rfl rfl) rfl ?_) | (refine WL.k_bin .add ?_; first | refine WL.step (Yl.add64C rfl (by omega)) rfl ?_ | refine WL.step (Yl.addC64 rfl (by omega)) rfl ?_ | refine WL.step (Yl.add64N rfl rfl (by omega)) rfl ?_ | refine WL.step (Yl.add64 rfl rfl (by omega)) rfl ?_) | refine WC.seq ?_ | refine WC.region ?_ | refine WL.nil ?_ | refine WN.then_normal ?_ | refine WC.block ?_ | refine WC.skip ?_ | refine WC.exit ?_ | refine WC.ret ?_ | refine WN.then_exit ?_ | refine WN.then_ret ?_ | refine WN.block_normal ?_ | refine WN.block_ret ?_ | refine WN.block_here ?_ | refine WN.block_past (by decide) ?_))
    refine WC.cond_false rfl rfl ?_
    (repeat (first | (refine WL.k_move ?_; first | refine WL.step (Yl.move rfl) rfl ?_) | (refine WL.k_assign ?_; first | refine WL.step (Yl.assign rfl) rfl ?_) | (refine WL.k_bi .len ?_; first | refine WL.step (Yl.len (t := 38) Tryz.underlying38 rfl) rfl ?_) | (refine WL.k_bin .neq ?_; first | refine WL.step (Yl.strNeq rfl rfl) rfl ?_ | refine WL.step (Yl.neq rfl rfl) rfl ?_) | (refine WL.k_bin .lss ?_; first | refine WL.step (Yl.lss rfl rfl) rfl ?_) | (refine WL.k_bin .add ?_; first | refine WL.step (Yl.add64C rfl (by omega)) rfl ?_ | refine WL.step (Yl.addC64 rfl (by omega)) rfl ?_ | refine WL.step (Yl.add64N rfl rfl (by omega)) rfl ?_ | refine WL.step (Yl.add64 rfl rfl (by omega)) rfl ?_) | refine WC.seq ?_ | refine WC.region ?_ | refine WL.nil ?_ | refine WN.then_normal ?_ | refine WC.block ?_ | refine WC.skip ?_ | refine WC.exit ?_ | refine WC.ret ?_ | refine WN.then_exit ?_ | refine WN.then_ret ?_ | refine WN.block_normal ?_ | refine WN.block_ret ?_ | refine WN.block_here ?_ | refine WN.block_past (by decide) ?_))
    exact WN.next (i + 1) (by omega) (by omega) (by repeat (first | exact Sub.nil | refine Sub.cons rfl rfl ?_)) .nil
  · (repeat (first | (refine WL.k_move ?_; first | refine WL.step (Yl.move rfl) rfl ?_) | (refine WL.k_assign ?_; first | refine WL.step (Yl.assign rfl) rfl ?_) | (refine WL.k_bi .len ?_; first | refine WL.step (Yl.len (t := 38) Tryz.underlying38 rfl) rfl ?_) | (refine WL.k_bin .neq ?_; first | refine WL.step (Yl.strNeq rfl rfl) rfl ?_ | refine WL.step (Yl.neq rfl rfl) rfl ?_) | (refine WL.k_bin .lss ?_; first | refine WL.step (Yl.lss rfl rfl) rfl ?_) | (refine WL.k_bin .add ?_; first | refine WL.step (Yl.add64C rfl (by omega)) rfl ?_ | refine WL.step (Yl.addC64 rfl (by omega)) rfl ?_ | refine WL.step (Yl.add64N rfl rfl (by omega)) rfl ?_ | refine WL.step (Yl.add64 rfl rfl (by omega)) rfl ?_) | refine WC.seq ?_ | refine WC.region ?_ | refine WL.nil ?_ | refine WN.then_normal ?_ | refine WC.block ?_ | refine WC.skip ?_ | refine WC.exit ?_ | refine WC.ret ?_ | refine WN.then_exit ?_ | refine WN.then_ret ?_ | refine WN.block_normal ?_ | refine WN.block_ret ?_ | refine WN.block_here ?_ | refine WN.block_past (by decide) ?_))
    exact WN.ret1 rfl rfl ⟨rfl, rfl⟩ .nil
end Go.Proofs.YtmmpngigaodcgaaGreat
/- What DrivePlays looks at: the sectors of both drives, what they show. -/
namespace Go.Proofs.YtmmpngigaodcgaaGreat
set_option linter.unusedVariables false
set_option linter.unusedSimpArgs false
open Go Go.RowKit
set_option maxRecDepth 100000
set_option maxHeartbeats 8000000
theorem RbAt.cpy {w0 w : World} {A : List HA} {p p' : RP} {os fs : List Sl} {Is : List Bool} {d : List (List UInt8)} {F : Nat → Option (List UInt8)} (h : RbAt w0 p os fs Is d F) (hi : ∀ x ∈ rbI p' os fs Is, x ∈ A) (st : St w0 [] A w) : RbAt w p' os fs Is d F := by
  have m1 : HA.blk p'.br (.cells #[.slice p'.ao os.length p'.co, .slice p'.ai Is.length p'.ci, .slice p'.af fs.length p'.cf] 80 (0, 0)) ∈ A := hi _ (by simp only [rbI]; exact .head _)
  have m2 : HA.row p'.ao p'.co 38 1 (svs os) ∈ A := hi _ (by simp only [rbI]; exact .tail _ (.head _))
  have m3 : HA.row p'.ai p'.ci 4 1 (bls Is) ∈ A := hi _ (by simp only [rbI]; exact .tail _ (.tail _ (.head _)))
  have m4 : HA.row p'.af p'.cf 38 1 (svs fs) ∈ A := hi _ (by simp only [rbI]; exact .tail _ (.tail _ (.tail _ (.head _))))
  exact ⟨h.ok, h.wf, st.holds _ m1, Rd.row (X := ⟨Tryz.prog, 0, w0, []⟩) m2 w st, Rd.row (X := ⟨Tryz.prog, 0, w0, []⟩) m3 w st, Rd.row (X := ⟨Tryz.prog, 0, w0, []⟩) m4 w st, fun s hs => (h.rd s hs).keep st.kept⟩
theorem bequal_tt (a b : Option Addr) (n c1 c2 : Nat) (l : List UInt8) (w : World) (hl : l.length = n) (hr : CellsAt w a (bs l)) (hr2 : CellsAt w b (bs l)) : Calls Tryz.prog 15 #[.slice a n c1, .slice b n c2] w (Gives (Val (.bool true)) w) := by
  have := bequal_c a b n n c1 c2 l l w hl hl hr hr2
  rwa [decide_eq_true rfl] at this
attribute [local irreducible] WL WC WN Yl WH WQ WT WE WU WG WV
theorem banks_no (w : World) : Calls Tryz.prog 55 #[.pointer none, .pointer none] w (Gives (Val (.bool true)) w) := by
  refine enter (args := [_, _]) Tryz.func55 Tryz.ntmps55 rfl rfl ?_
  (repeat (first | refine WL.step (Yl.move rfl) rfl ?_ | refine WL.step (Yl.assign rfl) rfl ?_ | refine WC.seq ?_ | refine WC.region ?_ | refine WL.nil ?_ | refine WN.then_normal ?_))
  refine WL.callV (g := 48) (v := .pointer none) Tryz.call48 rfl (fun w0 st => dbank_bad _ w0 .none) rfl ?_
  (repeat (first | refine WL.step (Yl.move rfl) rfl ?_))
  refine WL.callV (g := 67) (v := .pointer none) Tryz.call67 rfl (fun w0 st => ebank_no w0) rfl ?_
  (repeat (first | refine WL.pass rfl rfl rfl rfl ?_ | refine WL.step (Yl.move rfl) rfl ?_ | refine WL.step (Yl.assign rfl) rfl ?_ | refine WL.step (Yl.pick_t rfl rfl rfl) rfl ?_ | (refine WL.k_bin .eql ?_; refine WL.step (Yl.eqlPN (by kernel_rfl) rfl) rfl ?_) | refine WC.seq ?_ | refine WC.region ?_ | refine WL.nil ?_ | refine WN.then_normal ?_))
  refine WC.cond_true rfl rfl ?_
  (repeat (first | refine WL.want rfl rfl rfl ?_ | refine WL.step (Yl.move rfl) rfl ?_ | refine WL.step (Yl.assign rfl) rfl ?_ | refine WL.step (Yl.pick_t rfl rfl rfl) rfl ?_ | (refine WL.k_bin .eql ?_; refine WL.step (Yl.eqlPN (by kernel_rfl) rfl) rfl ?_) | refine WC.seq ?_ | refine WC.region ?_ | refine WL.nil ?_ | refine WN.then_normal ?_ | refine WC.ret ?_ | refine WN.then_ret ?_))
  exact WN.ret1 rfl rfl ⟨rfl, rfl⟩ .nil
theorem shows_no (w : World) : Calls Tryz.prog 23 #[.pointer none, .pointer none] w (Gives (Val (.bool true)) w) := by
  refine enter (args := [_, _]) Tryz.func23 Tryz.ntmps23 rfl rfl ?_
  (repeat (first | refine WL.step (Yl.move rfl) rfl ?_ | refine WL.step (Yl.assign rfl) rfl ?_ | refine WC.seq ?_ | refine WC.region ?_ | refine WL.nil ?_ | refine WN.then_normal ?_))
  refine WL.callV (g := 26) (v := .bool false) Tryz.call26 rfl (fun w0 st => ddown_bad _ w0 .none) rfl ?_
  (repeat (first | refine WL.step (Yl.move rfl) rfl ?_))
  refine WL.callV (g := 50) (v := .bool false) Tryz.call50 rfl (fun w0 st => edown_no w0) rfl ?_
  (repeat (first | refine WL.want rfl rfl rfl ?_ | refine WL.step (Yl.move rfl) rfl ?_ | refine WL.step (Yl.eqlBT (t := 4) (p := false) (q := false) Tryz.underlying4 rfl rfl rfl) rfl ?_))
  refine WL.callV (g := 25) (v := .int .i64 0) Tryz.call25 rfl (fun w0 st => dops_bad _ w0 .none) rfl ?_
  (repeat (first | refine WL.want rfl rfl rfl ?_ | refine WL.step (Yl.move rfl) rfl ?_))
  refine WL.callV (g := 51) (v := .int .i64 0) Tryz.call51 rfl (fun w0 st => eops_no w0) rfl ?_
  (repeat (first | refine WL.want rfl rfl rfl ?_ | refine WL.step (Yl.move rfl) rfl ?_ | refine WL.step (Yl.pick_t rfl rfl rfl) rfl ?_ | refine WL.step (Yl.eqlT rfl rfl rfl) rfl ?_))
  refine WL.callV (g := 27) (v := .int .i64 0) Tryz.call27 rfl (fun w0 st => dreads_bad _ w0 .none) rfl ?_
  (repeat (first | refine WL.want rfl rfl rfl ?_ | refine WL.step (Yl.move rfl) rfl ?_))
  refine WL.callV (g := 52) (v := .int .i64 0) Tryz.call52 rfl (fun w0 st => ereads_no w0) rfl ?_
  (repeat (first | refine WL.want rfl rfl rfl ?_ | refine WL.step (Yl.move rfl) rfl ?_ | refine WL.step (Yl.pick_t rfl rfl rfl) rfl ?_ | refine WL.step (Yl.eqlT rfl rfl rfl) rfl ?_))
  refine WL.callV (g := 53) (v := .int .i64 0) Tryz.call53 rfl (fun w0 st => dlen_bad _ w0 .none) rfl ?_
  (repeat (first | refine WL.want rfl rfl rfl ?_ | refine WL.step (Yl.move rfl) rfl ?_))
  refine WL.callV (g := 54) (v := .int .i64 0) Tryz.call54 rfl (fun w0 st => elen_no w0) rfl ?_
  (repeat (first | refine WL.want rfl rfl rfl ?_ | refine WL.step (Yl.move rfl) rfl ?_ | refine WL.step (Yl.pick_t rfl rfl rfl) rfl ?_ | refine WL.step (Yl.eqlT rfl rfl rfl) rfl ?_))
  refine WL.callV (g := 55) (v := .bool true) Tryz.call55 rfl (fun w0 st => banks_no w0) rfl ?_
  (repeat (first | refine WL.step (Yl.assign rfl) rfl ?_ | refine WL.step (Yl.pick_t rfl rfl rfl) rfl ?_ | refine WL.nil ?_ | refine WN.then_normal ?_ | refine WC.ret ?_))
  exact WN.ret1 rfl rfl ⟨rfl, rfl⟩ .nil
section
variable {p : DP} {s : DS} {q : RDP} {t : RDS}
theorem banks_c (w : World) (h : DrAt w p s) (g : RDAt w q t) (hd : t.d = s.d) (hF : t.F = s.F) : Calls Tryz.prog 55 #[bptr p.bd, bptr q.bd] w (Gives (Val (.bool true)) w) := by
  have hwf : BkWf s.d s.F := by rw [← hd, ← hF]; exact g.ok.wf
  have hle := hwf.le
  have hg : RbAt w q.r t.os t.fs t.Is s.d s.F := by rw [← hd, ← hF]; exact g.bank
  refine enter (args := [.pointer (some ⟨p.bd, 0, none⟩), .pointer (some ⟨q.bd, 0, none⟩)]) Tryz.func55 Tryz.ntmps55 rfl rfl ?_
  (repeat (first | refine WL.step (Yl.move rfl) rfl ?_ | refine WL.step (Yl.assign rfl) rfl ?_ | refine WC.seq ?_ | refine WC.region ?_ | refine WL.nil ?_ | refine WN.then_normal ?_))
  refine WL.call (g := 48) Tryz.call48 rfl (fun w0 st => dbank_c w0 (h.keep st.kept)) rfl fun v1 B1 hv1 => ?_
  obtain ⟨bk, da, cap, mb, M, c, hcap, hM, rfl, rfl⟩ := hv1
  (repeat (first | refine WL.step (Yl.move rfl) rfl ?_))
  refine WL.call (g := 67) Tryz.call67 rfl (fun w0 st => ebank_c w0 (g.keep st.kept)) rfl fun v2 B2 hv2 => ?_
  obtain ⟨r, rfl, rfl⟩ := hv2
  obtain ⟨EM, hEM⟩ : ∃ EM, EM = rbI r t.os t.fs t.Is ++ (bankItems bk da cap mb s.d M c ++ []) := ⟨_, rfl⟩
  have hB : ∀ {A : List HA} {w1 : World}, St w [] A w1 → (∀ x ∈ EM, x ∈ A) → BankAt w1 bk da cap mb s.d s.F := fun st hi =>
    BankAt.of hwf hcap hM (hi _ (by rw [hEM]; simp [bankItems])) (hi _ (by rw [hEM]; simp [bankItems])) (hi _ (by rw [hEM]; simp [bankItems])) st
  have hR : ∀ {A : List HA} {w1 : World}, St w [] A w1 → (∀ x ∈ EM, x ∈ A) → RbAt w1 r t.os t.fs t.Is s.d s.F := fun st hi => hg.cpy (fun x hx => hi x (by rw [hEM]; exact List.mem_append_left _ hx)) st
  rw [← hEM]
  clear hEM hM hcap
  (repeat (first | refine WL.want rfl rfl rfl ?_ | refine WL.step (Yl.move rfl) rfl ?_ | refine WL.step (Yl.assign rfl) rfl ?_ | refine WL.step (Yl.pick_f rfl rfl rfl) rfl ?_ | (refine WL.k_bin .eql ?_; refine WL.step (Yl.eqlPN (by kernel_rfl) rfl) rfl ?_) | refine WC.seq ?_ | refine WC.region ?_ | refine WL.nil ?_ | refine WN.then_normal ?_))
  refine WL.callV (g := 65) (v := .int .i64 (s.d.length : Int)) Tryz.call65 rfl (fun w0 st => len_c w0 (hB st fun x hx => hx)) rfl ?_
  (repeat (first | refine WL.want rfl rfl rfl ?_ | refine WL.step (Yl.move rfl) rfl ?_))
  refine WL.callV (g := 66) (v := .int .i64 (s.d.length : Int)) Tryz.call66 rfl (fun w0 st => rlen_c w0 (hR st fun x hx => hx)) rfl ?_
  (repeat (first | refine WL.want rfl rfl rfl ?_ | refine WL.step (Yl.pick_f rfl rfl rfl) rfl ?_ | refine WL.step (Yl.neqF rfl rfl rfl) rfl ?_ | refine WL.nil ?_ | refine WN.then_normal ?_))
  refine WC.cond_false rfl rfl ?_
  (repeat (first | refine WL.step (Yl.move rfl) rfl ?_ | refine WC.seq ?_ | refine WC.region ?_ | refine WN.then_normal ?_ | refine WC.skip ?_))
  refine WL.callV (g := 66) (v := .int .i64 (s.d.length : Int)) Tryz.call66 rfl (fun w0 st => rlen_c w0 (hR st fun x hx => hx)) rfl ?_
  (repeat (first | refine WL.step (Yl.move rfl) rfl ?_ | refine WL.nil ?_ | refine WN.then_normal ?_ | refine WC.block ?_))
  refine WC.loop (α := Nat) (fun i => [(5, bptr bk), (6, bptr r.br), (40, .int .i64 (s.d.length : Int)), (41, .int .i64 (i : Int))]) (fun _ => EM) (fun i => i ≤ s.d.length) (fun i => s.d.length - i) 0 (by repeat (first | exact Sub.nil | refine Sub.cons rfl rfl ?_)) (Part.refl _) (Nat.zero_le _) ?_
  intro i hi
  (repeat (first | refine WL.step (Yl.lss rfl rfl) rfl ?_ | refine WC.seq ?_ | refine WC.region ?_ | refine WL.nil ?_ | refine WN.then_normal ?_))
  refine WC.ite rfl (fun h1 => ?_) (fun h1 => ?_)
  · (repeat (first | refine WL.step (Yl.move rfl) rfl ?_ | refine WL.step (Yl.assign rfl) rfl ?_ | refine WC.seq ?_ | refine WC.region ?_ | refine WL.nil ?_ | refine WN.then_normal ?_ | refine WC.block ?_ | refine WC.skip ?_))
    refine WL.callR (g := 41) Tryz.call41 rfl (fun w0 st => bread_c (i : Int) w0 (hB st fun x hx => hx)) rfl fun q1 hq1 => ?_
    (repeat (first | refine WL.step (Yl.move rfl) rfl ?_ | refine WL.step (Yl.assign rfl) rfl ?_ | refine WL.step (Yl.extract rfl rfl) rfl ?_ | refine WC.seq ?_ | refine WC.region ?_ | refine WL.nil ?_ | refine WN.then_normal ?_))
    refine WL.callR (g := 42) Tryz.call42 rfl (fun w0 st => rread_c (i : Int) w0 (hR st fun x hx => .tail _ hx)) rfl fun q2 hq2 => ?_
    (repeat (first | refine WL.step (Yl.move rfl) rfl ?_ | refine WL.step (Yl.assign rfl) rfl ?_ | refine WL.step (Yl.extract rfl rfl) rfl ?_ | refine WC.seq ?_ | refine WC.region ?_ | refine WL.nil ?_ | refine WN.then_normal ?_))
    refine WL.callR (g := 68) Tryz.call68 rfl (fun w0 st => bdur_c (i : Int) w0 (hB st fun x hx => .tail _ (.tail _ hx))) rfl fun q3 hq3 => ?_
    (repeat (first | refine WL.step (Yl.move rfl) rfl ?_ | refine WL.step (Yl.assign rfl) rfl ?_ | refine WL.step (Yl.extract rfl rfl) rfl ?_ | refine WC.seq ?_ | refine WC.region ?_ | refine WL.nil ?_ | refine WN.then_normal ?_))
    refine WL.callR (g := 69) Tryz.call69 rfl (fun w0 st => rdur_c (i : Int) w0 (hR st fun x hx => .tail _ (.tail _ (.tail _ hx)))) rfl fun q4 hq4 => ?_
    (repeat (first | refine WL.step (Yl.move rfl) rfl ?_ | refine WL.step (Yl.assign rfl) rfl ?_ | refine WL.step (Yl.extract rfl rfl) rfl ?_ | refine WC.seq ?_ | refine WC.region ?_ | refine WL.nil ?_ | refine WN.then_normal ?_))
    refine WL.callV (g := 15) (v := .bool true) Tryz.call15 rfl (fun w0 st => bequal_tt q1.1 q2.1 _ q1.2 q2.2 (readR s.d s.F i).1 w0 rfl (Rd.row (by repeat (first | exact .head _ | refine .tail _ ?_)) w0 st) (Rd.row (by repeat (first | exact .head _ | refine .tail _ ?_)) w0 st)) rfl ?_
    (repeat (first | refine WL.want rfl rfl rfl ?_ | refine WL.step (Yl.move rfl) rfl ?_ | refine WL.step (Yl.pick_f rfl rfl rfl) rfl ?_ | refine WL.step (Yl.neqF rfl rfl rfl) rfl ?_ | refine WL.step (Yl.not rfl) rfl ?_))
    refine WL.callV (g := 15) (v := .bool true) Tryz.call15 rfl (fun w0 st => bequal_tt q3.1 q4.1 _ q3.2 q4.2 (durR s.d i).1 w0 rfl (Rd.row (by repeat (first | exact .head _ | refine .tail _ ?_)) w0 st) (Rd.row (by repeat (first | exact .head _ | refine .tail _ ?_)) w0 st)) rfl ?_
    (repeat (first | refine WL.want rfl rfl rfl ?_ | refine WL.step (Yl.move rfl) rfl ?_ | refine WL.step (Yl.pick_f rfl rfl rfl) rfl ?_ | refine WL.step (Yl.neqF rfl rfl rfl) rfl ?_ | refine WL.step (Yl.not rfl) rfl ?_ | refine WL.nil ?_ | refine WN.then_normal ?_))
    refine WC.cond_false rfl rfl ?_
    (repeat (first | refine WL.step (Yl.move rfl) rfl ?_ | (refine WL.k_bin .add ?_; refine WL.step (Yl.add64C rfl (by omega)) rfl ?_) | refine WC.region ?_ | refine WL.nil ?_ | refine WN.then_normal ?_ | refine WC.skip ?_ | refine WN.block_normal ?_))
    exact WN.next (i + 1) (by omega) (by omega) (by repeat (first | exact Sub.nil | refine Sub.cons rfl rfl ?_)) (.more (.more (.more (.more (Part.refl _)))))
  · (repeat (first | refine WL.step (Yl.assign rfl) rfl ?_ | refine WC.seq ?_ | refine WC.region ?_ | refine WL.nil ?_ | refine WN.then_normal ?_ | refine WC.exit ?_ | refine WC.ret ?_ | refine WN.then_exit ?_ | refine WN.block_here ?_))
    exact WN.ret1 rfl rfl ⟨rfl, rfl⟩ .nil
theorem shows_c (w : World) (h : DrAt w p s) (g : RDAt w q t) (hv : t.v = s.v) : Calls Tryz.prog 23 #[bptr p.bd, bptr q.bd] w (Gives (Val (.bool true)) w) := by
  have e1 : t.down = s.down := congrArg DV.down hv
  have e2 : t.ops = s.ops := congrArg DV.ops hv
  have e3 : t.rd = s.rd := congrArg DV.rd hv
  have e4 : t.d = s.d := congrArg DV.d hv
  have e5 : t.F = s.F := congrArg DV.F hv
  refine enter (args := [.pointer (some ⟨p.bd, 0, none⟩), .pointer (some ⟨q.bd, 0, none⟩)]) Tryz.func23 Tryz.ntmps23 rfl rfl ?_
  (repeat (first | refine WL.step (Yl.move rfl) rfl ?_ | refine WL.step (Yl.assign rfl) rfl ?_ | refine WC.seq ?_ | refine WC.region ?_ | refine WL.nil ?_ | refine WN.then_normal ?_))
  refine WL.callV (g := 26) (v := .bool s.down) Tryz.call26 rfl (fun w0 st => ddown_c w0 (h.keep st.kept)) rfl ?_
  (repeat (first | refine WL.step (Yl.move rfl) rfl ?_))
  refine WL.callV (g := 50) (v := .bool s.down) Tryz.call50 rfl (fun w0 st => by rw [← e1]; exact edown_c w0 (g.keep st.kept)) rfl ?_
  (repeat (first | refine WL.want rfl rfl rfl ?_ | refine WL.step (Yl.move rfl) rfl ?_ | refine WL.step (Yl.eqlBT (t := 4) (p := s.down) (q := s.down) Tryz.underlying4 rfl rfl rfl) rfl ?_))
  refine WL.callV (g := 25) (v := .int .i64 (s.ops : Int)) Tryz.call25 rfl (fun w0 st => dops_c w0 (h.keep st.kept)) rfl ?_
  (repeat (first | refine WL.want rfl rfl rfl ?_ | refine WL.step (Yl.move rfl) rfl ?_))
  refine WL.callV (g := 51) (v := .int .i64 (s.ops : Int)) Tryz.call51 rfl (fun w0 st => by rw [← e2]; exact eops_c w0 (g.keep st.kept)) rfl ?_
  (repeat (first | refine WL.want rfl rfl rfl ?_ | refine WL.step (Yl.move rfl) rfl ?_ | refine WL.step (Yl.pick_t rfl rfl rfl) rfl ?_ | refine WL.step (Yl.eqlT rfl rfl rfl) rfl ?_))
  refine WL.callV (g := 27) (v := .int .i64 (s.rd : Int)) Tryz.call27 rfl (fun w0 st => dreads_c w0 (h.keep st.kept)) rfl ?_
  (repeat (first | refine WL.want rfl rfl rfl ?_ | refine WL.step (Yl.move rfl) rfl ?_))
  refine WL.callV (g := 52) (v := .int .i64 (s.rd : Int)) Tryz.call52 rfl (fun w0 st => by rw [← e3]; exact ereads_c w0 (g.keep st.kept)) rfl ?_
  (repeat (first | refine WL.want rfl rfl rfl ?_ | refine WL.step (Yl.move rfl) rfl ?_ | refine WL.step (Yl.pick_t rfl rfl rfl) rfl ?_ | refine WL.step (Yl.eqlT rfl rfl rfl) rfl ?_))
  refine WL.callV (g := 53) (v := .int .i64 (s.d.length : Int)) Tryz.call53 rfl (fun w0 st => dlen_c w0 (h.keep st.kept)) rfl ?_
  (repeat (first | refine WL.want rfl rfl rfl ?_ | refine WL.step (Yl.move rfl) rfl ?_))
  refine WL.callV (g := 54) (v := .int .i64 (s.d.length : Int)) Tryz.call54 rfl (fun w0 st => by rw [← e4]; exact elen_c w0 (g.keep st.kept)) rfl ?_
  (repeat (first | refine WL.want rfl rfl rfl ?_ | refine WL.step (Yl.move rfl) rfl ?_ | refine WL.step (Yl.pick_t rfl rfl rfl) rfl ?_ | refine WL.step (Yl.eqlT rfl rfl rfl) rfl ?_))
  refine WL.callV (g := 55) (v := .bool true) Tryz.call55 rfl (fun w0 st => banks_c w0 (h.keep st.kept) (g.keep st.kept) e4 e5) rfl ?_
  (repeat (first | refine WL.step (Yl.assign rfl) rfl ?_ | refine WL.step (Yl.pick_t rfl rfl rfl) rfl ?_ | refine WL.nil ?_ | refine WN.then_normal ?_ | refine WC.ret ?_))
  exact WN.ret1 rfl rfl ⟨rfl, rfl⟩ .nil
end
end Go.Proofs.YtmmpngigaodcgaaGreat
/- Drives: counters and lengths; bits of whole numbers. -/
namespace Go.Proofs.YtmmpngigaodcgaaGreat
set_option linter.unusedVariables false
set_option linter.unusedSimpArgs false
open Go Go.RowKit
set_option maxRecDepth 100000
set_option maxHeartbeats 8000000
section
variable {X : Cx} {ρ : Env} {A : List HA} {ty t u : TypeId} {x y : Operand}
theorem Yl.and64 {m n : Nat} (hx : ev ρ x = some (.int .i64 (m : Int))) (hy : ev ρ y = some (.int .i64 (n : Int))) (hm : m < 9223372036854775808) (hn : n < 9223372036854775808) :
    Yl X (.binOp .and t x y u) ty ρ A (.int .i64 ((m &&& n : Nat) : Int)) := Yl.intro fun o ho _ a w f _ => by
  have h : m &&& n < 9223372036854775808 := Nat.lt_of_le_of_lt Nat.and_le_left hm
  have h64 : (2 : Nat) ^ IntKind.i64.bits = 18446744073709551616 := by decide
  have e : (BitVec.ofInt IntKind.i64.bits (m : Int) &&& BitVec.ofInt IntKind.i64.bits (n : Int)).toNat = m &&& n := by rw [BitVec.toNat_and, ofInt_nat (by omega), ofInt_nat (by omega)]
  simp only [execOp, ho, f.ev hx, f.ev hy, eqGuard, binOp, Op.intBits, e, wrap64_fits (z := ((m &&& n : Nat) : Int)) (by omega) (by omega)]
  simp
end
structure DSx (v : DV) (dn : Bool) (pl : Option (Nat × List Int)) (o r n : Nat) : Prop where
  sh : DSh v dn pl o
  rd : v.rd = r
  len : v.d.length = n
section
variable {v : DV} {pl : Option (Nat × List Int)} {o r n : Nat} {K : List Int} {dn : Bool}
theorem op_x (hw : BkWf v.d v.F) (hr : v.rd = r) (hl : v.d.length = n) (f : DV → DV) (hf : ∀ u, BkWf u.d u.F → (f u).rd = u.rd ∧ (f u).d.length = u.d.length) : (v.op f).1.rd = r ∧ (v.op f).1.d.length = n := by
  unfold DV.op
  split
  · exact ⟨(hf _ (by exact hw)).1.trans hr, (hf _ (by exact hw)).2.trans hl⟩
  · split
    · refine ⟨hr, ?_⟩
      simp only [DV.crash]
      rw [(crash_wf _ hw).2]; exact hl
    · exact ⟨(hf _ (by exact hw)).1.trans hr, (hf _ (by exact hw)).2.trans hl⟩
theorem done_x (u : DV) (hw : BkWf u.d u.F) : u.done.rd = u.rd ∧ u.done.d.length = u.d.length := ⟨rfl, (crash_wf _ hw).2⟩
theorem id_x (u : DV) (hw : BkWf u.d u.F) : (id u).rd = u.rd ∧ (id u).d.length = u.d.length := ⟨rfl, rfl⟩
/-- An operation that is done: its code, and what it leaves. -/
structure OpX (i k : Nat) (pl : Option (Nat × List Int)) (e : Nat) (dn : Bool) (pl' : Option (Nat × List Int)) : Prop where
  at_ : i = k → e = 11 ∧ dn = true ∧ pl' = none
  no : i ≠ k → e = 0 ∧ dn = false
  op : ∀ (v : DV) (o : Nat) (f : DV → DV), (∀ u, (f u).down = u.down ∧ (f u).pl = u.pl ∧ (f u).ops = u.ops) → DSh v false pl o → (v.op f).2 = e ∧ DSh (v.op f).1 dn pl' (o + 1)
def planAt (K : List Int) (k i : Nat) : Option (Nat × List Int) := if i ≤ k then some (k - i + 1, K) else none
theorem opX (K : List Int) (i k : Nat) : ∃ e dn pl', OpX i k (planAt K k i) e dn pl' ∧ (pl' = planAt K k (i + 1)) := by
  by_cases h1 : i < k
  · refine ⟨0, false, some (k - i, K), ⟨fun h => by omega, fun _ => ⟨rfl, rfl⟩, fun v o f hf h => ?_⟩, ?_⟩
    · rw [planAt, if_pos (by omega)] at h
      exact op_sh h (by omega) f hf
    · rw [planAt, if_pos (by omega), show k - (i + 1) + 1 = k - i by omega]
  · by_cases h2 : i = k
    · refine ⟨11, true, none, ⟨fun _ => ⟨rfl, rfl, rfl⟩, fun h => absurd h2 h, fun v o f hf h => ?_⟩, ?_⟩
      · rw [planAt, if_pos (by omega), show k - i + 1 = 1 by omega] at h
        exact op_sh1 h f
      · rw [planAt, if_neg (by omega)]
    · refine ⟨0, false, none, ⟨fun h => absurd h h2, fun _ => ⟨rfl, rfl⟩, fun v o f hf h => ?_⟩, ?_⟩
      · rw [planAt, if_neg (by omega)] at h
        exact op_sh0 h f hf
      · rw [planAt, if_neg (by omega)]
theorem bchk_lt {n i : Nat} (h : i < n) : bchk n (i : Int) = 0 := if_neg (by omega)
theorem write_bad {sec : Int} {x : List UInt8} (h : v.down = false) (he : writeE v.d.length sec x ≠ 0) : (v.write sec x).2 = writeE v.d.length sec x ∧ (v.write sec x).1 = v := by
  rw [DV.write, if_neg (by rw [h]; decide), if_pos he]; exact ⟨rfl, rfl⟩
theorem write_ok {sec : Int} {x : List UInt8} (h : v.down = false) (he : writeE v.d.length sec x = 0) : v.write sec x = ({ v with F := writeF v.d.length v.F sec x } : DV).op id := by
  rw [DV.write, if_neg (by rw [h]; decide), if_neg (by omega)]
theorem write_dn {sec : Int} {x : List UInt8} (h : v.down = true) : (v.write sec x).2 = 11 ∧ (v.write sec x).1 = v := by
  rw [DV.write, if_pos h]; exact ⟨rfl, rfl⟩
theorem writeE_ok {n i : Nat} {x : List UInt8} (h : i < n) (hx : x.length = 128) : writeE n (i : Int) x = 0 := by
  rw [writeE, if_pos (bchk_lt h), if_pos hx]
theorem writeE_far {n : Nat} {s : Int} {x : List UInt8} (h : s < 0 ∨ (n : Int) ≤ s) : writeE n s x = 3 := by
  rw [writeE, if_neg (by rw [bchk, if_pos h]; decide)]
theorem writeE_len {n i : Nat} {x : List UInt8} (h : i < n) (hx : x.length ≠ 128) : writeE n (i : Int) x = 2 := by
  rw [writeE, if_pos (bchk_lt h), if_neg hx]
theorem read_ok {i : Nat} (h : DSx v false pl o r n) (hi : i < n) : (v.read (i : Int)).2.2 = 0 ∧ DSx (v.read (i : Int)).1 false pl o (r + 1) n := by
  have hc : (readR v.d v.F (i : Int)).2 = 0 := by rw [readR, if_pos (bchk_lt (by rw [h.len]; exact hi))]
  rw [DV.read, if_neg (by rw [h.sh.down]; decide), if_pos hc]
  exact ⟨hc, ⟨h.sh.down, h.sh.pl, h.sh.ops⟩, by simp only [h.rd], h.len⟩
theorem read_dn {s : Int} (h : v.down = true) : (v.read s).2 = ([], 11) ∧ (v.read s).1 = v := by
  rw [DV.read, if_pos h]; exact ⟨rfl, rfl⟩
theorem read_far {s : Int} (h : v.down = false) (hs : s < 0 ∨ (v.d.length : Int) ≤ s) : (v.read s).2 = ([], 3) ∧ (v.read s).1 = v := by
  have hc : readR v.d v.F s = ([], 3) := by rw [readR, if_neg (by rw [bchk, if_pos hs]; decide)]
  rw [DV.read, if_neg (by rw [h]; decide), hc]; exact ⟨rfl, rfl⟩
theorem wf_v {s : DS} {p : DP} (h : s.Ok p) : BkWf s.v.d s.v.F := h.wf
end
end Go.Proofs.YtmmpngigaodcgaaGreat
/- In which operation a drive crashes. -/
namespace Go.Proofs.YtmmpngigaodcgaaGreat
set_option linter.unusedVariables false
set_option linter.unusedSimpArgs false
open Go Go.RowKit
set_option maxRecDepth 100000
set_option maxHeartbeats 8000000
attribute [local irreducible] WL WC WN Yl WH WQ WT WE WU WG WV
end Go.Proofs.YtmmpngigaodcgaaGreat
/- From what a row's proof knows of the arguments to what the contracts ask. -/
namespace Go.Proofs.YtmmpngigaodcgaaGreat
set_option linter.unusedVariables false
set_option linter.unusedSimpArgs false
open Go Go.RowKit
theorem good {w w' : World} {e : Ending} (h : Gives (Val (.bool true)) w e w') : e = .returned (.bool true) ∧ Below w.heap.size w w' := by
  obtain ⟨v, B, rfl, ⟨rfl, rfl⟩, s⟩ := h
  exact ⟨rfl, s.below⟩
theorem wf_u8 {n : Int} (h : (Lit.int .u8 n).wf = true) : 0 ≤ n ∧ n < 256 := by
  simp [Lit.wf, IntKind.min, IntKind.max, IntKind.signed, IntKind.bits] at h; omega
theorem wf_u16 {n : Int} (h : (Lit.int .u16 n).wf = true) : ∃ m : Nat, n = (m : Int) ∧ m < 65536 := by
  simp [Lit.wf, IntKind.min, IntKind.max, IntKind.signed, IntKind.bits] at h; exact ⟨n.toNat, by omega, by omega⟩
theorem wf_u32 {n : Int} (h : (Lit.int .u32 n).wf = true) : ∃ m : Nat, n = (m : Int) ∧ m < 4294967296 := by
  simp [Lit.wf, IntKind.min, IntKind.max, IntKind.signed, IntKind.bits] at h; exact ⟨n.toNat, by omega, by omega⟩
theorem wf_u64 {n : Int} (h : (Lit.int .u64 n).wf = true) : ∃ m : Nat, n = (m : Int) ∧ m < 18446744073709551616 := by
  simp [Lit.wf, IntKind.min, IntKind.max, IntKind.signed, IntKind.bits] at h; exact ⟨n.toNat, by omega, by omega⟩
theorem wf_i64 {n : Int} (h : (Lit.int .i64 n).wf = true) : -9223372036854775808 ≤ n ∧ n ≤ 9223372036854775807 := by
  simp [Lit.wf, IntKind.min, IntKind.max, IntKind.signed, IntKind.bits] at h; omega
theorem wf_byte {n : Int} (h : (Lit.int .u8 n).wf = true) : ∃ c : UInt8, n = (c.toNat : Int) := by
  have := wf_u8 h
  have e := UInt8.toNat_ofNat_of_lt' (show n.toNat < UInt8.size by simp only [UInt8.size]; omega)
  exact ⟨UInt8.ofNat n.toNat, by rw [e]; omega⟩
/-- A slice of bytes that came in. -/
theorem bytes_in {w : World} {a : Option Addr} {len cap : Nat} {zs : List Int}
    (h : (a = none ∧ len = 0 ∧ cap = 0 ∧ zs = []) ∨ ∃ x, a = some x ∧ len ≤ cap ∧ cap ≤ maxLen ∧ zs.length = cap ∧ (∀ i, i < zs.length → w.cell? (x.add i) = some (.int .u8 (zs.getD i 0))) ∧ ∀ n ∈ zs, (Lit.int .u8 n).wf = true) :
    ∃ l : List UInt8, l.length = len ∧ len ≤ cap ∧ cap ≤ 9223372036854775807 ∧ CellsAt w a (bs l) := by
  rcases h with ⟨rfl, rfl, rfl, rfl⟩ | ⟨x, rfl, hl, hm, hz, hc, hw⟩
  · exact ⟨[], rfl, Nat.le_refl _, by omega, .nil _ _⟩
  · refine ⟨(zs.take len).map fun n => UInt8.ofNat n.toNat, by simp; omega, hl, by simpa [maxLen] using hm, ?_⟩
    by_cases h0 : len = 0
    · subst h0; exact .inl (by simp [bs])
    · have hx := hc 0 (by rw [hz]; omega)
      obtain ⟨b, off, spot⟩ := x
      have hspot : spot = none := by simpa [Addr.add] using World.cell?_spot hx
      subst hspot
      refine .inr ⟨b, off, rfl, fun i v hv => ?_⟩
      have hi : i < len := by
        have := (List.getElem?_eq_some_iff.1 hv).1
        simp [bs] at this; omega
      have hiz : i < zs.length := by rw [hz]; omega
      have hci := hc i hiz
      have ea : (⟨b, off, none⟩ : Addr).add i = ⟨b, off + i, none⟩ := by unfold Addr.add; split <;> simp_all
      rw [ea] at hci
      rw [hci, ← hv]
      have hwf := wf_u8 (hw zs[i] (List.getElem_mem hiz))
      simp only [bs, List.map_map, List.getElem?_map, List.getElem?_take, hi, if_true, List.getElem?_eq_getElem hiz, Option.map_some, Function.comp, bv, List.getD_eq_getElem?_getD, Option.getD_some]
      have e := UInt8.toNat_ofNat_of_lt' (show zs[i].toNat < UInt8.size by simp only [UInt8.size]; omega)
      rw [e]
      congr 2; omega
/-- A row of bytes, as a cell of a row of rows has it. -/
theorem bytes_at {w : World} {a : Option Addr} {n c : Nat} {zs : List Int} (hnc : n ≤ c) (hz : zs.length = c) (hw : ∀ n ∈ zs, (Lit.int .u8 n).wf = true) (hn : a = none → c = 0)
    (hc : ∀ x, a = some x → ∀ i, i < c → w.cell? (x.add i) = some (.int .u8 (zs.getD i 0))) : ∃ l : List UInt8, l.length = n ∧ CellsAt w a (bs l) := by
  refine ⟨(zs.take n).map fun n => UInt8.ofNat n.toNat, by simp; omega, ?_⟩
  cases a with
  | none =>
    have := hn rfl
    obtain rfl : n = 0 := by omega
    exact .inl (by simp [bs])
  | some x =>
    by_cases h0 : n = 0
    · subst h0; exact .inl (by simp [bs])
    · have hx := hc x rfl 0 (by omega)
      obtain ⟨b, off, spot⟩ := x
      have hspot : spot = none := by simpa [Addr.add] using World.cell?_spot hx
      subst hspot
      refine .inr ⟨b, off, rfl, fun i v hv => ?_⟩
      have hi : i < n := by
        have := (List.getElem?_eq_some_iff.1 hv).1
        simp [bs] at this; omega
      have hiz : i < zs.length := by rw [hz]; omega
      have hci := hc _ rfl i (by omega)
      have ea : (⟨b, off, none⟩ : Addr).add i = ⟨b, off + i, none⟩ := by unfold Addr.add; split <;> simp_all
      rw [ea] at hci
      rw [hci, ← hv]
      have hwf := wf_u8 (hw zs[i] (List.getElem_mem hiz))
      simp only [bs, List.map_map, List.getElem?_map, List.getElem?_take, hi, if_true, List.getElem?_eq_getElem hiz, Option.map_some, Function.comp, bv, List.getD_eq_getElem?_getD, Option.getD_some]
      have e := UInt8.toNat_ofNat_of_lt' (show zs[i].toNat < UInt8.size by simp only [UInt8.size]; omega)
      rw [e]
      congr 2; omega
/-- A slice of slices of bytes. -/
def Deep (w : World) (a : Option Addr) (n : Nat) (vs : List Value) : Prop :=
  vs.length = n ∧ n ≤ 9223372036854775807 ∧ CellsAt w a vs ∧ ∀ (i : Nat) (v : Value), vs[i]? = some v → ∃ (b : Option Addr) (m c : Nat) (l : List UInt8), v = Value.slice b m c ∧ l.length = m ∧ m ≤ c ∧ c ≤ 9223372036854775807 ∧ CellsAt w b (bs l)
theorem deep_in {H : Type} {enc : TypeId × Value → H} {P : Program} {w : World} {t e q : TypeId} {fuel n cap : Nat} {a : Option Addr} {x : DataW H × List MemPlace} (ht : P.underlying t = some (.slice e)) (he : P.underlying e = some (.slice q)) (hq : P.underlying q = some (.int .u8))
    (ce : P.cellsOf e = 1) (cq : P.cellsOf q = 1) (h : DataW.trod enc P w 0 (fun _ => true) true fuel t [.slice a n cap] = some x) : ∃ vs, Deep w a n vs := by
  rcases Go.Deep.open_int_rows ht he hq ce cq h with ⟨hcs, _⟩ | ⟨b, l, c, A, L, C, Z, hcs, _, hl, hm, _, hx⟩
  · simp at hcs
    obtain ⟨rfl, rfl, rfl⟩ := hcs
    exact ⟨[], rfl, by omega, .nil _ _, fun i v hv => by simp at hv⟩
  · simp at hcs
    obtain ⟨rfl, rfl, rfl⟩ := hcs
    refine ⟨(List.range n).map fun r => .slice (A r) (L r) (C r), by simp, ?_, ?_, fun i v hv => ?_⟩
    · simp only [maxLen] at hm; omega
    · by_cases h0 : n = 0
      · subst h0; exact .inl rfl
      · have h1 := (hx 0 (by omega)).1
        obtain ⟨b, off, spot⟩ := b
        have hspot : spot = none := by simpa [Addr.add] using World.cell?_spot h1
        subst hspot
        refine .inr ⟨b, off, rfl, fun i v hv => ?_⟩
        have ea : (⟨b, off, none⟩ : Addr).add i = ⟨b, off + i, none⟩ := by unfold Addr.add; split <;> simp_all
        simp only [List.getElem?_map, Option.map_eq_some_iff] at hv
        obtain ⟨j, hj, rfl⟩ := hv
        have hjn := List.getElem?_eq_some_iff.1 hj
        simp at hjn
        obtain ⟨hlt, rfl⟩ := hjn
        have h2 := (hx i (by omega)).1
        rw [ea] at h2
        exact h2
    · simp only [List.getElem?_map, Option.map_eq_some_iff] at hv
      obtain ⟨j, hj, rfl⟩ := hv
      have hjn := List.getElem?_eq_some_iff.1 hj
      simp at hjn
      obtain ⟨hlt, rfl⟩ := hjn
      obtain ⟨_, h2, h3, h4, h5, h6, h7⟩ := hx i (by omega)
      obtain ⟨l, hl1, hl2⟩ := bytes_at h2 h4 h5 h6 (fun a' ha c hc => (h7 a' ha).2 c hc)
      exact ⟨A i, L i, C i, l, rfl, hl1, h2, by simpa [maxLen] using h3, hl2⟩
end Go.Proofs.YtmmpngigaodcgaaGreat
