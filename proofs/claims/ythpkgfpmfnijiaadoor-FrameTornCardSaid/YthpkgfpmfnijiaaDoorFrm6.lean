/- The numbers of a frame, as function values. -/
import Derived.Test.YthpkgfpmfnijiaaDoorFrm5
import Derived.Test.YthpkgfpmfnijiaaDoorFrmEnc
namespace Go.Proofs.YthpkgfpmfnijiaaDoor
open Go Go.RowKit
set_option maxHeartbeats 4000000
set_option maxRecDepth 100000
attribute [local irreducible] WL WC WN Yl WH WQ WT
theorem field1_c (c b : Nat) (w : World) (h : CellsAt w (some ⟨c, 0, none⟩) [.pointer (some ⟨b, 0, none⟩)]) :
    Calls Tryd.prog 45 #[.pointer (some ⟨c, 0, none⟩)] w (Gives (Val (.pointer (some ⟨b, 0, none⟩))) w) := by
  refine enter (args := [_]) Tryd.func45 Tryd.ntmps45 rfl rfl ?_
  (repeat (first | (refine WL.k_assign ?_; first | refine WL.step (Yl.assign rfl) rfl ?_) | (refine WL.k_load ?_; first | refine WL.step (Yl.loadRd (T := 83) (v := .pointer (some ⟨b, 0, none⟩)) Tryd.isAgg83 rfl (Rd.old h) rfl) rfl ?_) | (refine WL.k_fld ?_; first | refine WL.step (Yl.fld0 (t := 24) Tryd.underlying24 fl24 rfl rfl) rfl ?_) | (refine WL.k_nilc ?_; first | refine WL.step (Yl.nilCheck rfl) rfl ?_) | refine WC.seq ?_ | refine WC.region ?_ | refine WL.nil ?_ | refine WN.then_normal ?_ | refine WC.skip ?_ | refine WC.ret ?_ | refine WN.then_ret ?_))
  exact WN.ret1 rfl rfl ⟨rfl, rfl⟩ .nil
theorem field2_c (c b : Nat) (w : World) (h : CellsAt w (some ⟨c, 0, none⟩) [.pointer (some ⟨b, 0, none⟩)]) :
    Calls Tryd.prog 46 #[.pointer (some ⟨c, 0, none⟩)] w (Gives (Val (.pointer (some ⟨b, 2, none⟩))) w) := by
  refine enter (args := [_]) Tryd.func46 Tryd.ntmps46 rfl rfl ?_
  (repeat (first | (refine WL.k_assign ?_; first | refine WL.step (Yl.assign rfl) rfl ?_) | (refine WL.k_load ?_; first | refine WL.step (Yl.loadRd (T := 83) (v := .pointer (some ⟨b, 0, none⟩)) Tryd.isAgg83 rfl (Rd.old h) rfl) rfl ?_) | (refine WL.k_fld ?_; first | refine WL.step (Yl.fld0 (t := 24) Tryd.underlying24 fl24 rfl rfl) rfl ?_) | (refine WL.k_nilc ?_; first | refine WL.step (Yl.nilCheck rfl) rfl ?_) | refine WC.seq ?_ | refine WC.region ?_ | refine WL.nil ?_ | refine WN.then_normal ?_ | refine WC.skip ?_ | refine WC.ret ?_ | refine WN.then_ret ?_))
  exact WN.ret1 rfl rfl ⟨rfl, rfl⟩ .nil
theorem field3_c (c b : Nat) (w : World) (h : CellsAt w (some ⟨c, 0, none⟩) [.pointer (some ⟨b, 0, none⟩)]) :
    Calls Tryd.prog 47 #[.pointer (some ⟨c, 0, none⟩)] w (Gives (Val (.pointer (some ⟨b, 3, none⟩))) w) := by
  refine enter (args := [_]) Tryd.func47 Tryd.ntmps47 rfl rfl ?_
  (repeat (first | (refine WL.k_assign ?_; first | refine WL.step (Yl.assign rfl) rfl ?_) | (refine WL.k_load ?_; first | refine WL.step (Yl.loadRd (T := 83) (v := .pointer (some ⟨b, 0, none⟩)) Tryd.isAgg83 rfl (Rd.old h) rfl) rfl ?_) | (refine WL.k_fld ?_; first | refine WL.step (Yl.fld0 (t := 24) Tryd.underlying24 fl24 rfl rfl) rfl ?_) | (refine WL.k_nilc ?_; first | refine WL.step (Yl.nilCheck rfl) rfl ?_) | refine WC.seq ?_ | refine WC.region ?_ | refine WL.nil ?_ | refine WN.then_normal ?_ | refine WC.skip ?_ | refine WC.ret ?_ | refine WN.then_ret ?_))
  exact WN.ret1 rfl rfl ⟨rfl, rfl⟩ .nil
theorem field4_c (c b : Nat) (w : World) (h : CellsAt w (some ⟨c, 0, none⟩) [.pointer (some ⟨b, 0, none⟩)]) :
    Calls Tryd.prog 48 #[.pointer (some ⟨c, 0, none⟩)] w (Gives (Val (.pointer (some ⟨b, 4, none⟩))) w) := by
  refine enter (args := [_]) Tryd.func48 Tryd.ntmps48 rfl rfl ?_
  (repeat (first | (refine WL.k_assign ?_; first | refine WL.step (Yl.assign rfl) rfl ?_) | (refine WL.k_load ?_; first | refine WL.step (Yl.loadRd (T := 83) (v := .pointer (some ⟨b, 0, none⟩)) Tryd.isAgg83 rfl (Rd.old h) rfl) rfl ?_) | (refine WL.k_fld ?_; first | refine WL.step (Yl.fld0 (t := 24) Tryd.underlying24 fl24 rfl rfl) rfl ?_) | (refine WL.k_nilc ?_; first | refine WL.step (Yl.nilCheck rfl) rfl ?_) | refine WC.seq ?_ | refine WC.region ?_ | refine WL.nil ?_ | refine WN.then_normal ?_ | refine WC.skip ?_ | refine WC.ret ?_ | refine WN.then_ret ?_))
  exact WN.ret1 rfl rfl ⟨rfl, rfl⟩ .nil
/-- The function values, each of which holds the variable c. -/
def fcells (c : Nat) : List Value := [.int .i64 1, .func (.func 45) #[] #[.pointer (some ⟨c, 0, none⟩)], .int .i64 4, .func (.func 46) #[] #[.pointer (some ⟨c, 0, none⟩)],
  .int .i64 2, .func (.func 47) #[] #[.pointer (some ⟨c, 0, none⟩)], .int .i64 4, .func (.func 48) #[] #[.pointer (some ⟨c, 0, none⟩)]]
def Fields (b : Nat) : Value → List HA → Prop := fun v B => ∃ c q, v = .slice (some ⟨q, 0, none⟩) 4 4 ∧ B = [.row (some ⟨q, 0, none⟩) 4 63 2 (fcells c), .blk c (.cells #[.pointer (some ⟨b, 0, none⟩)] 83 (0, 0))]
theorem elemField : ElemT Tryd.prog 63 (.agg #[.int .i64 0, .nilFunc]) 2 16 := ElemT.of (by kernel_rfl) rfl (by decide)
theorem buildField (m : Int) (g : FuncId) (c : Value) (w : World) : (Instr.build 63 [(0, Value.int .i64 m), (1, Value.func (.func g) #[] #[c])].toArray).run Tryd.prog w = .ok (.agg #[.int .i64 m, .func (.func g) #[] #[c]]) w := by
  simp [Instr.build, Tryd.zeroValue63, run_underlying Tryd.underlying63, Tryd.sizeOf3, Tryd.sizeOf61, Value.cells, Instr.fill]
theorem fields_c (b : Nat) (w : World) : Calls Tryd.prog 29 #[.pointer (some ⟨b, 0, none⟩)] w (Gives (Fields b) w) := by
  refine enter (args := [_]) Tryd.func29 Tryd.ntmps29 rfl rfl ?_
  (repeat (first | (refine WL.k_assign ?_; first | refine WL.step (Yl.assign rfl) rfl ?_) | refine WC.seq ?_ | refine WC.region ?_ | refine WL.nil ?_ | refine WN.then_normal ?_ | refine WC.skip ?_ | refine WC.ret ?_ | refine WN.then_ret ?_))
  refine WL.box rfl rfl fun c => ?_
  (repeat (first | (refine WL.k_assign ?_; first | refine WL.step (Yl.assign rfl) rfl ?_) | (refine WL.k_func ?_; first | refine WL.step (Yl.makeFunc (xs := [.tmp 1]) rfl) rfl ?_) | (refine WL.k_build ?_; first | refine WL.step (Yl.build rfl (buildField _ _ _)) rfl ?_) | refine WC.seq ?_ | refine WC.region ?_ | refine WL.nil ?_ | refine WN.then_normal ?_ | refine WC.skip ?_ | refine WC.ret ?_ | refine WN.then_ret ?_))
  refine WL.lit (t := 59) Tryd.underlying59 elemField rfl rfl rfl (by simp [Value.cells]) rfl fun q => ?_
  (repeat (first | (refine WL.k_assign ?_; first | refine WL.step (Yl.assign rfl) rfl ?_) | refine WC.seq ?_ | refine WC.region ?_ | refine WL.nil ?_ | refine WN.then_normal ?_ | refine WC.skip ?_ | refine WC.ret ?_ | refine WN.then_ret ?_))
  exact WN.ret1 rfl rfl ⟨c, q, rfl, rfl⟩ (.cons .here (.cons .here .nil))
end Go.Proofs.YthpkgfpmfnijiaaDoor
