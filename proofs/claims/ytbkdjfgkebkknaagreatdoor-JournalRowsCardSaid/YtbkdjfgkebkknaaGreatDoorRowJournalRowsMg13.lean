import Derived.Test.YtbkdjfgkebkknaaGreatDoorRowJournalRowsMg10
import Derived.Test.YtbkdjfgkebkknaaGreatDoorRowJournalRowsMg12
import Derived.Test.YtbkdjfgkebkknaaGreatDoorRowJournalRowsMg3
namespace Go.Proofs.YtbkdjfgkebkknaaGreatDoor.Frm
set_option linter.unusedVariables false
set_option linter.unusedSimpArgs false
def head (kd tx ix no : Nat) : List UInt8 := Big.be 1 kd ++ Big.be 4 tx ++ Big.be 2 ix ++ Big.be 4 no
def payload (kd tx ix no : Nat) (d : List UInt8) : List UInt8 := Crc.sealed (head kd tx ix no ++ d)
def chunks (ep : Int) (p : List UInt8) : Nat → List UInt8
  | 0 => []
  | k + 1 => chunks ep p k ++ stamp ep ((p.drop (112 * k)).take 112)
def enc (kd ep tx ix no : Int) (d : List UInt8) : Nat × List UInt8 :=
  if Ok kd ep tx ix no d.length then (0, chunks ep (payload kd.toNat tx.toNat ix.toNat no.toNat d) (secs kd).1) else (2, [])
theorem chunks_succ (ep : Int) (p : List UInt8) (k : Nat) : chunks ep p (k + 1) = chunks ep p k ++ stamp ep ((p.drop (112 * k)).take 112) := rfl
theorem chunks_zero (ep : Int) (p : List UInt8) : chunks ep p 0 = [] := rfl
theorem head_length (kd tx ix no : Nat) : (head kd tx ix no).length = 11 := by simp only [head, List.length_append, Big.be_length]
theorem sealed_length (l : List UInt8) : (Crc.sealed l).length = l.length + 4 := by simp [Crc.sealed, Crc.be4]
theorem payload_length (kd tx ix no : Nat) (d : List UInt8) : (payload kd tx ix no d).length = d.length + 15 := by
  unfold payload; rw [sealed_length, List.length_append, head_length]; omega
theorem chunks_length (ep : Int) (p : List UInt8) (k : Nat) : (chunks ep p k).length = 128 * k := by
  induction k with
  | zero => rfl
  | succ k ih => rw [chunks, List.length_append, ih, stamp_length (by rw [List.length_take]; omega)]; omega
theorem stamp_zeros (n : Int) (d : List UInt8) (k : Nat) (h : d.length + k ≤ 112) : stamp n (d ++ List.replicate k 0) = stamp n d := by
  unfold stamp
  rw [List.length_append, List.length_replicate, List.append_assoc (Big.be 8 n.toNat) (d ++ _), List.append_assoc d, List.replicate_append_replicate, List.append_assoc (Big.be 8 n.toNat) d]
  rw [show k + (112 - (d.length + k)) = 112 - d.length by omega]
theorem stamp_pad (n : Int) (p : List UInt8) (m j : Nat) : stamp n (((p ++ List.replicate m 0).drop (112 * j)).take 112) = stamp n ((p.drop (112 * j)).take 112) := by
  by_cases h : 112 * j ≤ p.length
  · rw [List.drop_append_of_le_length h]
    by_cases h2 : 112 ≤ (p.drop (112 * j)).length
    · rw [List.take_append_of_le_length h2]
    · rw [List.take_append, List.take_of_length_le (by omega : (p.drop (112 * j)).length ≤ 112), List.take_replicate, stamp_zeros]
      omega
  · have e1 : (p.drop (112 * j)) = [] := List.drop_eq_nil_of_le (by omega)
    have e2 : (p ++ List.replicate m (0 : UInt8)).drop (112 * j) = List.replicate (m - (112 * j - p.length)) 0 := by
      rw [List.drop_append, e1, List.nil_append, List.drop_replicate]
    rw [e1, e2, List.take_replicate, List.take_nil]
    have := stamp_zeros n [] (min 112 (m - (112 * j - p.length))) (by simp; omega)
    rwa [List.nil_append] at this
end Go.Proofs.YtbkdjfgkebkknaaGreatDoor.Frm
namespace Go.Proofs.YtbkdjfgkebkknaaGreatDoor
set_option linter.unusedVariables false
set_option linter.unusedSimpArgs false
open Go Go.RowKit
set_option maxHeartbeats 4000000
set_option maxRecDepth 100000
attribute [local irreducible] WL WC WN Yl WH WQ WT
theorem field1_c (c b : Nat) (w : World) (h : CellsAt w (some ⟨c, 0, none⟩) [.pointer (some ⟨b, 0, none⟩)]) :
    Calls Tryz.prog 180 #[.pointer (some ⟨c, 0, none⟩)] w (Gives (Val (.pointer (some ⟨b, 0, none⟩))) w) := by
  refine enter (args := [_]) Tryz.func180 Tryz.ntmps180 rfl rfl ?_
  (repeat (first | refine WL.step (Yl.assign rfl) rfl ?_ | refine WL.step (Yl.loadRd (T := 237) (v := .pointer (some ⟨b, 0, none⟩)) Tryz.isAgg237 rfl (Rd.old h) rfl) rfl ?_ | refine WL.step (Yl.fld0 (t := 121) Tryz.underlying121 fl121 rfl rfl) rfl ?_ | refine WL.step (Yl.nilCheck rfl) rfl ?_ | refine WC.seq ?_ | refine WC.region ?_ | refine WL.nil ?_ | refine WN.then_normal ?_ | refine WC.ret ?_))
  exact WN.ret1 rfl rfl ⟨rfl, rfl⟩ .nil
theorem field2_c (c b : Nat) (w : World) (h : CellsAt w (some ⟨c, 0, none⟩) [.pointer (some ⟨b, 0, none⟩)]) :
    Calls Tryz.prog 181 #[.pointer (some ⟨c, 0, none⟩)] w (Gives (Val (.pointer (some ⟨b, 2, none⟩))) w) := by
  refine enter (args := [_]) Tryz.func181 Tryz.ntmps181 rfl rfl ?_
  (repeat (first | refine WL.step (Yl.assign rfl) rfl ?_ | refine WL.step (Yl.loadRd (T := 237) (v := .pointer (some ⟨b, 0, none⟩)) Tryz.isAgg237 rfl (Rd.old h) rfl) rfl ?_ | refine WL.step (Yl.fld0 (t := 121) Tryz.underlying121 fl121 rfl rfl) rfl ?_ | refine WL.step (Yl.nilCheck rfl) rfl ?_ | refine WC.seq ?_ | refine WC.region ?_ | refine WL.nil ?_ | refine WN.then_normal ?_ | refine WC.ret ?_))
  exact WN.ret1 rfl rfl ⟨rfl, rfl⟩ .nil
theorem field3_c (c b : Nat) (w : World) (h : CellsAt w (some ⟨c, 0, none⟩) [.pointer (some ⟨b, 0, none⟩)]) :
    Calls Tryz.prog 182 #[.pointer (some ⟨c, 0, none⟩)] w (Gives (Val (.pointer (some ⟨b, 3, none⟩))) w) := by
  refine enter (args := [_]) Tryz.func182 Tryz.ntmps182 rfl rfl ?_
  (repeat (first | refine WL.step (Yl.assign rfl) rfl ?_ | refine WL.step (Yl.loadRd (T := 237) (v := .pointer (some ⟨b, 0, none⟩)) Tryz.isAgg237 rfl (Rd.old h) rfl) rfl ?_ | refine WL.step (Yl.fld0 (t := 121) Tryz.underlying121 fl121 rfl rfl) rfl ?_ | refine WL.step (Yl.nilCheck rfl) rfl ?_ | refine WC.seq ?_ | refine WC.region ?_ | refine WL.nil ?_ | refine WN.then_normal ?_ | refine WC.ret ?_))
  exact WN.ret1 rfl rfl ⟨rfl, rfl⟩ .nil
theorem field4_c (c b : Nat) (w : World) (h : CellsAt w (some ⟨c, 0, none⟩) [.pointer (some ⟨b, 0, none⟩)]) :
    Calls Tryz.prog 183 #[.pointer (some ⟨c, 0, none⟩)] w (Gives (Val (.pointer (some ⟨b, 4, none⟩))) w) := by
  refine enter (args := [_]) Tryz.func183 Tryz.ntmps183 rfl rfl ?_
  (repeat (first | refine WL.step (Yl.assign rfl) rfl ?_ | refine WL.step (Yl.loadRd (T := 237) (v := .pointer (some ⟨b, 0, none⟩)) Tryz.isAgg237 rfl (Rd.old h) rfl) rfl ?_ | refine WL.step (Yl.fld0 (t := 121) Tryz.underlying121 fl121 rfl rfl) rfl ?_ | refine WL.step (Yl.nilCheck rfl) rfl ?_ | refine WC.seq ?_ | refine WC.region ?_ | refine WL.nil ?_ | refine WN.then_normal ?_ | refine WC.ret ?_))
  exact WN.ret1 rfl rfl ⟨rfl, rfl⟩ .nil
def fcells (c : Nat) : List Value := [.int .i64 1, .func (.func 180) #[] #[.pointer (some ⟨c, 0, none⟩)], .int .i64 4, .func (.func 181) #[] #[.pointer (some ⟨c, 0, none⟩)],
  .int .i64 2, .func (.func 182) #[] #[.pointer (some ⟨c, 0, none⟩)], .int .i64 4, .func (.func 183) #[] #[.pointer (some ⟨c, 0, none⟩)]]
def Fields (b : Nat) : Value → List HA → Prop := fun v B => ∃ c q, v = .slice (some ⟨q, 0, none⟩) 4 4 ∧ B = [.row (some ⟨q, 0, none⟩) 4 206 2 (fcells c), .blk c (.cells #[.pointer (some ⟨b, 0, none⟩)] 237 (0, 0))]
theorem elemField : ElemT Tryz.prog 206 (.agg #[.int .i64 0, .nilFunc]) 2 16 := ElemT.of (by kernel_rfl) rfl (by decide)
theorem buildField (m : Int) (g : FuncId) (c : Value) (w : World) : (Instr.build 206 [(0, Value.int .i64 m), (1, Value.func (.func g) #[] #[c])].toArray).run Tryz.prog w = .ok (.agg #[.int .i64 m, .func (.func g) #[] #[c]]) w := by
  simp [Instr.build, Tryz.zeroValue206, run_underlying Tryz.underlying206, Tryz.sizeOf3, Tryz.sizeOf204, Value.cells, Instr.fill]
theorem fields_c (b : Nat) (w : World) : Calls Tryz.prog 145 #[.pointer (some ⟨b, 0, none⟩)] w (Gives (Fields b) w) := by
  refine enter (args := [_]) Tryz.func145 Tryz.ntmps145 rfl rfl ?_
  (repeat (first | refine WC.seq ?_ | refine WC.region ?_))
  refine WL.box rfl rfl fun c => ?_
  (repeat (first | refine WL.step (Yl.assign rfl) rfl ?_ | refine WL.step (Yl.makeFunc (xs := [.tmp 1]) rfl) rfl ?_ | refine WL.step (Yl.build rfl (buildField _ _ _)) rfl ?_ | refine WC.seq ?_ | refine WC.region ?_ | refine WL.nil ?_ | refine WN.then_normal ?_))
  refine WL.lit (t := 202) Tryz.underlying202 elemField rfl rfl rfl (by simp [Value.cells]) rfl fun q => ?_
  (repeat (first | refine WL.step (Yl.assign rfl) rfl ?_ | refine WL.nil ?_ | refine WN.then_normal ?_ | refine WC.ret ?_))
  exact WN.ret1 rfl rfl ⟨c, q, rfl, rfl⟩ (.cons .here (.cons .here .nil))
end Go.Proofs.YtbkdjfgkebkknaaGreatDoor
namespace Go.Proofs.YtbkdjfgkebkknaaGreatDoor
set_option linter.unusedVariables false
set_option linter.unusedSimpArgs false
open Go Go.RowKit
set_option maxHeartbeats 4000000
set_option maxRecDepth 100000
attribute [local irreducible] WL WC WN Yl WH WQ WT
theorem nonzero_c (c : UInt8) (w : World) : Calls Tryz.prog 189 #[bv c] w (Gives (Val (.bool (decide (c ≠ 0)))) w) := by
  refine enter (args := [_]) Tryz.func189 Tryz.ntmps189 rfl rfl ?_
  by_cases h : c = 0
  · subst h
    (repeat (first | refine WL.step (Yl.move rfl) rfl ?_ | refine WL.step (Yl.assign rfl) rfl ?_ | refine WL.step (Yl.neqF rfl rfl rfl) rfl ?_ | refine WC.seq ?_ | refine WC.region ?_ | refine WL.nil ?_ | refine WN.then_normal ?_ | refine WC.ret ?_))
    exact WN.ret1 rfl rfl ⟨rfl, rfl⟩ .nil
  · have h0 : (0 : UInt8).toNat = 0 := rfl
    have h2 : (c.toNat : Int) ≠ 0 := fun h3 => h (UInt8.toNat_inj.1 (by omega))
    rw [decide_eq_true h]
    (repeat (first | refine WL.step (Yl.move rfl) rfl ?_ | refine WL.step (Yl.assign rfl) rfl ?_ | refine WL.step (Yl.neqT (n := 0) rfl rfl h2) rfl ?_ | refine WC.seq ?_ | refine WC.region ?_ | refine WL.nil ?_ | refine WN.then_normal ?_ | refine WC.ret ?_))
    exact WN.ret1 rfl rfl ⟨rfl, rfl⟩ .nil
def First (l : List UInt8) : Value → List HA → Prop := fun v B => ∃ r : Int, v = .int .i64 r ∧ B = [] ∧ (0 ≤ r ↔ ¬ ∀ c ∈ l, c = 0)
theorem index_c (a : Option Addr) (n cap : Nat) (l : List UInt8) (w : World) (hl : l.length = n) (hn : n ≤ 9223372036854775807) (hr : CellsAt w a (bs l)) :
    Calls Tryz.prog 200 #[.slice a n cap, .func (.func 189) #[] #[]] w (Gives (First l) w) := by
  refine enter (args := [_, _]) Tryz.func200 Tryz.ntmps200 rfl rfl ?_
  (repeat (first | refine WL.step (Yl.move rfl) rfl ?_ | refine WL.step (Yl.assign rfl) rfl ?_ | refine WL.step (Yl.len (t := 23) Tryz.underlying23 rfl) rfl ?_ | refine WC.seq ?_ | refine WC.region ?_ | refine WL.nil ?_ | refine WN.then_normal ?_ | refine WC.block ?_))
  refine WC.loop (α := Nat) (fun i => [(0, .slice a n cap), (1, .func (.func 189) #[] #[]), (7, .int .i64 (n : Int)), (8, .int .i64 (i : Int))]) (fun _ => []) (fun i => i ≤ n ∧ ∀ j, j < i → l.getD j 0 = 0) (fun i => n - i) 0 zS .nil ⟨by omega, by omega⟩ ?_
  intro i ⟨hi, hz⟩
  (repeat (first | refine WL.step (Yl.lss rfl rfl) rfl ?_ | refine WC.seq ?_ | refine WC.region ?_ | refine WL.nil ?_ | refine WN.then_normal ?_))
  refine WC.ite rfl (fun h1 => ?_) (fun h1 => ?_)
  · have hil : i < l.length := by omega
    (repeat (first | refine WL.step (Yl.move rfl) rfl ?_ | refine WL.step (Yl.assign rfl) rfl ?_ | refine WL.step (Yl.load (T := 5) Tryz.isAgg5 rfl (.old hr) (bs_get hil)) rfl ?_ | (refine WL.k_idxa ?_; refine WL.step (Yl.indexAddr1 (t := 23) Tryz.underlying23 Tryz.sizeOf5 rfl rfl (.old hr) (bs_ne hil) (by omega)) rfl ?_) | refine WL.callFV (g := 189) (cs := []) Tryz.call189 rfl rfl (fun w _ => nonzero_c (l.getD i 0) w) rfl ?_ | refine WC.seq ?_ | refine WC.region ?_ | refine WL.nil ?_ | refine WN.then_normal ?_ | refine WC.block ?_ | refine WC.skip ?_))
    refine WC.ite rfl (fun h2 => ?_) (fun h2 => ?_)
    · (repeat (first | refine WL.step (Yl.move rfl) rfl ?_ | refine WL.step (Yl.assign rfl) rfl ?_ | refine WC.seq ?_ | refine WC.region ?_ | refine WL.nil ?_ | refine WN.then_normal ?_ | refine WC.ret ?_ | refine WN.then_ret ?_ | refine WN.block_ret ?_))
      refine WN.ret1 rfl rfl ⟨(i : Int), rfl, rfl, ?_⟩ .nil
      refine ⟨fun _ h => h2 (h _ ?_), fun _ => by omega⟩
      rw [List.getD_eq_getElem?_getD, List.getElem?_eq_getElem hil, Option.getD_some]
      exact List.getElem_mem hil
    · have h3 : l.getD i 0 = 0 := Decidable.not_not.1 h2
      (repeat (first | refine WL.step (Yl.move rfl) rfl ?_ | (refine WL.k_bin .add ?_; refine WL.step (Yl.add64C rfl (by omega)) rfl ?_) | refine WC.region ?_ | refine WL.nil ?_ | refine WN.then_normal ?_ | refine WC.skip ?_ | refine WN.block_normal ?_))
      exact WN.next (i + 1) ⟨by omega, fun j hj => by rcases Nat.lt_or_ge j i with h | h; exact hz j h; rwa [show j = i by omega]⟩ (by omega) zS .nil
  · (repeat (first | refine WL.step (Yl.assign rfl) rfl ?_ | refine WC.seq ?_ | refine WC.region ?_ | refine WL.nil ?_ | refine WN.then_normal ?_ | refine WC.exit ?_ | refine WC.ret ?_ | refine WN.then_exit ?_ | refine WN.block_here ?_))
    refine WN.ret1 rfl rfl ⟨-1, rfl, rfl, ?_⟩ .nil
    refine ⟨fun h => by omega, fun h => absurd (fun c hc => ?_) h⟩
    obtain ⟨j, hj, rfl⟩ := List.mem_iff_getElem.1 hc
    have := hz j (by omega)
    rwa [List.getD_eq_getElem?_getD, List.getElem?_eq_getElem hj, Option.getD_some] at this
theorem contains_c (a : Option Addr) (n cap : Nat) (l : List UInt8) (w : World) (hl : l.length = n) (hn : n ≤ 9223372036854775807) (hr : CellsAt w a (bs l)) :
    Calls Tryz.prog 188 #[.slice a n cap, .func (.func 189) #[] #[]] w (Gives (Val (.bool (decide (¬ ∀ c ∈ l, c = 0)))) w) := by
  refine enter (args := [_, _]) Tryz.func188 Tryz.ntmps188 rfl rfl ?_
  (repeat (first | refine WL.step (Yl.move rfl) rfl ?_ | refine WL.step (Yl.assign rfl) rfl ?_ | refine WC.seq ?_ | refine WC.region ?_ | refine WL.nil ?_ | refine WN.then_normal ?_))
  refine WL.call (g := 200) Tryz.call200 rfl (fun w s => index_c a n cap l w hl hn (Rd.old hr w s)) rfl fun v B hv => ?_
  obtain ⟨r, rfl, rfl, h⟩ := hv
  rw [List.nil_append]
  (repeat (first | refine WL.step (Yl.assign rfl) rfl ?_ | refine WL.step (Yl.geq rfl rfl) rfl ?_ | refine WL.nil ?_ | refine WN.then_normal ?_ | refine WC.ret ?_))
  exact WN.ret1 rfl rfl ⟨by rw [decide_eq_decide.2 h], rfl⟩ .nil
theorem zeros_c (a : Option Addr) (n cap : Nat) (l : List UInt8) (w : World) (hl : l.length = n) (hn : n ≤ 9223372036854775807) (hr : CellsAt w a (bs l)) :
    Calls Tryz.prog 154 #[.slice a n cap] w (Gives (Val (.bool (decide (∀ c ∈ l, c = 0)))) w) := by
  refine enter (args := [_]) Tryz.func154 Tryz.ntmps154 rfl rfl ?_
  (repeat (first | refine WL.step (Yl.move rfl) rfl ?_ | refine WL.step (Yl.assign rfl) rfl ?_ | (refine WL.k_call 188 ?_; refine WL.callV (g := 188) Tryz.call188 rfl (fun w s => contains_c a n cap l w hl hn (Rd.old hr w s)) rfl ?_) | refine WL.step (Yl.not rfl) rfl ?_ | refine WC.seq ?_ | refine WC.region ?_ | refine WL.nil ?_ | refine WN.then_normal ?_ | refine WC.ret ?_))
  exact WN.ret1 rfl rfl ⟨by rw [decide_not, Bool.not_not], rfl⟩ .nil
theorem number_c (a : Option Addr) (n cap : Nat) (l : List UInt8) (w : World) (hl : l.length = n) (hn : n ≤ 4) (hr : CellsAt w a (bs l)) :
    Calls Tryz.prog 168 #[.slice a n cap] w (Gives (Val (.int .i64 ((Big.val 0 l : Nat) : Int))) w) := by
  refine enter (args := [_]) Tryz.func168 Tryz.ntmps168 rfl rfl ?_
  (repeat (first | refine WL.step (Yl.assign rfl) rfl ?_ | refine WC.seq ?_ | refine WC.region ?_ | refine WL.nil ?_ | refine WN.then_normal ?_ | refine WC.block ?_))
  refine WC.loop (α := Nat) (fun i => [(0, .slice a n cap), (3, .int .i64 ((Big.val 0 (l.take i) : Nat) : Int)), (4, .int .i64 (i : Int))]) (fun _ => []) (fun i => i ≤ n) (fun i => n - i) 0 zS .nil (by omega) ?_
  intro i hi
  (repeat (first | refine WL.step (Yl.move rfl) rfl ?_ | refine WL.step (Yl.len (t := 23) Tryz.underlying23 rfl) rfl ?_ | refine WL.step (Yl.lss rfl rfl) rfl ?_ | refine WC.seq ?_ | refine WC.region ?_ | refine WL.nil ?_ | refine WN.then_normal ?_))
  refine WC.ite rfl (fun h1 => ?_) (fun h1 => ?_)
  · have hil : i < l.length := by omega
    have hc := byte_lt (l.getD i 0)
    have hv : Big.val 0 (l.take i) < 16777216 := by
      have h1 := Big.val_lt (l.take i)
      have h2 : (l.take i).length ≤ 3 := by rw [List.length_take]; omega
      have h3 : 256 ^ (l.take i).length ≤ 256 ^ 3 := Nat.pow_le_pow_right (by decide) h2
      omega
    have hs : Big.val 0 (l.take i) * 2 ^ 8 ||| (l.getD i 0).toNat = Big.val 0 (l.take (i + 1)) := by
      rw [take_snoc _ 0 hil, Big.val_snoc, ← Nat.shiftLeft_eq, ← Nat.shiftLeft_add_eq_or_of_lt (by omega), Nat.shiftLeft_eq]
    (repeat (first | refine WL.step (Yl.move rfl) rfl ?_ | refine WL.step (Yl.assign rfl) rfl ?_ | refine WL.step (Yl.load (T := 5) Tryz.isAgg5 rfl (.old hr) (bs_get hil)) rfl ?_ | (refine WL.k_bin .shl ?_; refine WL.step (Yl.shl64 (c := 8) rfl rfl (by decide) (by omega)) rfl ?_) | (refine WL.k_idxa ?_; refine WL.step (Yl.indexAddr1 (t := 23) Tryz.underlying23 Tryz.sizeOf5 rfl rfl (.old hr) (bs_ne hil) (by omega)) rfl ?_) | (refine WL.k_conv ?_; refine WL.step (Yl.conv64 (s := 5) (t := 2) Tryz.underlying5 Tryz.underlying2 rfl (by omega)) rfl ?_) | (refine WL.k_bin .or ?_; refine WL.step (Yl.or64 rfl rfl (by omega) (by omega)) rfl ?_) | (refine WL.k_bin .add ?_; refine WL.step (Yl.add64C rfl (by omega)) rfl ?_) | refine WC.seq ?_ | refine WC.region ?_ | refine WL.nil ?_ | refine WN.then_normal ?_ | refine WC.block ?_ | refine WC.skip ?_ | refine WN.block_normal ?_))
    exact WN.next (i + 1) (by omega) (by omega) (.cons rfl rfl (.cons rfl (by rw [hs]) (.cons rfl rfl .nil))) .nil
  · obtain rfl : i = n := by omega
    (repeat (first | refine WL.step (Yl.move rfl) rfl ?_ | refine WL.step (Yl.assign rfl) rfl ?_ | refine WC.seq ?_ | refine WC.region ?_ | refine WL.nil ?_ | refine WN.then_normal ?_ | refine WC.exit ?_ | refine WC.ret ?_ | refine WN.then_exit ?_ | refine WN.block_here ?_))
    exact WN.ret1 rfl rfl ⟨by rw [List.take_of_length_le (by omega)], rfl⟩ .nil
end Go.Proofs.YtbkdjfgkebkknaaGreatDoor
namespace Go.Proofs.YtbkdjfgkebkknaaGreatDoor.Frm
set_option linter.unusedVariables false
set_option linter.unusedSimpArgs false
def gather (b : List UInt8) (n : Int) : Nat → Nat × List UInt8
  | 0 => (0, [])
  | k + 1 => if (gather b n k).1 ≠ 0 then gather b n k else if (unst (b.drop (128 * k)) n).1 ≠ 0 then ((unst (b.drop (128 * k)) n).1, []) else (0, (gather b n k).2 ++ (unst (b.drop (128 * k)) n).2)
structure Out where
  err : Nat
  sec : Nat
  kd : Int
  ep : Int
  tx : Int
  ix : Int
  no : Int
  data : List UInt8
def bad (e : Nat) : Out := ⟨e, 0, 0, 0, 0, 0, 0, []⟩
def dl (K : Nat) : Nat := if K = 1 then 512 else 0
def vk (D : List UInt8) : Nat := Big.val 0 (D.take 1)
def vt (D : List UInt8) : Nat := Big.val 0 ((D.drop 1).take 4)
def vi (D : List UInt8) : Nat := Big.val 0 ((D.drop 5).take 2)
def vn (D : List UInt8) : Nat := Big.val 0 ((D.drop 7).take 4)
def fin (K : Nat) (n : Int) (D : List UInt8) : Out :=
  if (Crc.opened (D.take (15 + dl K))).1 ≠ 0 then bad 12
  else if (∀ c ∈ D.drop (15 + dl K), c = 0) ∧ check (vk D) n (vt D) (vi D) (vn D) ((Crc.opened (D.take (15 + dl K))).2.drop 11).length = 0
    then ⟨0, (secs K).1, vk D, n, vt D, vi D, vn D, (Crc.opened (D.take (15 + dl K))).2.drop 11⟩ else bad 8
def kindOf (d : List UInt8) : Nat := (d.getD 0 0).toNat
def dec (b : List UInt8) (n : Int) : Out :=
  if (unst b n).1 ≠ 0 then bad (unst b n).1
  else if ¬ (kindOf (unst b n).2 = 1 ∨ kindOf (unst b n).2 = 2) then bad 8
  else if (gather b n (secs (kindOf (unst b n).2)).1).1 ≠ 0 then bad (gather b n (secs (kindOf (unst b n).2)).1).1
  else fin (kindOf (unst b n).2) n (gather b n (secs (kindOf (unst b n).2)).1).2
theorem unst_zero {b : List UInt8} {n : Int} (h : (unst b n).1 = 0) : Ep n ∧ 128 ≤ b.length ∧ unst b n = (0, (b.drop 8).take 112) ∧ (unst b n).2.length = 112 := by
  unfold unst at h ⊢
  by_cases he : Ep n
  · rw [if_neg (not_not_intro he)] at h ⊢
    by_cases ht : Torn b n
    · rw [if_pos ht] at h; cases h
    · have hl : 128 ≤ b.length := by
        by_cases hb : b.length < 128
        · exact absurd (.inl hb) ht
        · omega
      rw [if_neg ht]
      exact ⟨he, hl, rfl, by simp only [List.length_take, List.length_drop]; omega⟩
  · rw [if_pos he] at h; cases h
theorem gather_zero (b : List UInt8) (n : Int) : gather b n 0 = (0, []) := rfl
theorem gather_bad {b : List UInt8} {n : Int} {k : Nat} (h : (gather b n k).1 ≠ 0) : gather b n (k + 1) = gather b n k := by rw [gather, if_pos h]
theorem gather_stop {b : List UInt8} {n : Int} {k : Nat} (h : (gather b n k).1 = 0) (h2 : (unst (b.drop (128 * k)) n).1 ≠ 0) : gather b n (k + 1) = ((unst (b.drop (128 * k)) n).1, []) := by
  rw [gather, if_neg (not_not_intro h), if_pos h2]
theorem gather_step {b : List UInt8} {n : Int} {k : Nat} (h : (gather b n k).1 = 0) (h2 : (unst (b.drop (128 * k)) n).1 = 0) : gather b n (k + 1) = (0, (gather b n k).2 ++ (unst (b.drop (128 * k)) n).2) := by
  rw [gather, if_neg (not_not_intro h), if_neg (not_not_intro h2)]
theorem gather_keep {b : List UInt8} {n : Int} {k m : Nat} (h : (gather b n k).1 ≠ 0) (hm : k ≤ m) : gather b n m = gather b n k := by
  induction m with
  | zero => obtain rfl : k = 0 := by omega
            rfl
  | succ m ih =>
    by_cases e : k = m + 1
    · rw [e]
    · have := ih (by omega)
      rw [gather_bad (by rw [this]; exact h), this]
theorem secs_of {K : Nat} (h : K = 1 ∨ K = 2) : 1 ≤ (secs (K : Int)).1 ∧ (secs (K : Int)).1 ≤ 5 ∧ 15 + dl K ≤ 112 * (secs (K : Int)).1 := by
  rcases h with rfl | rfl <;> decide
end Go.Proofs.YtbkdjfgkebkknaaGreatDoor.Frm
