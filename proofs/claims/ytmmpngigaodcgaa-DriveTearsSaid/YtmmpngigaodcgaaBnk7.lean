/- Banks: all made durable; what cannot crash; sectors that are torn, by package sector and by the reference; sectors of one letter. -/
import Derived.Test.YtmmpngigaodcgaaBnk6
namespace Go.Proofs.Ytmmpngigaodcgaa
set_option linter.unusedVariables false
set_option linter.unusedSimpArgs false
open Go Go.RowKit
set_option maxRecDepth 100000
set_option maxHeartbeats 4000000
theorem elemZ : ElemT Try.prog 3 (.int .i64 0) 1 8 := ElemT.of (by kernel_rfl) rfl (by decide)
theorem cutOf32 {w : World} {a : Option Addr} {cap : Nat} {l : List UInt8} (lo m : Nat) (hr : CellsAt w a (bs l)) (hc : l.length ≤ cap) : CellsAt w (cutA a lo cap 1) (bs ((l.drop lo).take m)) := by
  have := Rd.cut (lo := lo) (cap := cap) (k := 1) (m := m) (Rd.old (P := Try.prog) (n := 0) (A := []) hr) (by rw [bs_length]; omega) w (St.start w)
  rwa [Nat.mul_one, ← bs_drop, ← bs_take] at this
theorem bs_put32 (l m : List UInt8) (k : Nat) : (bs l).take k ++ bs m ++ (bs l).drop (k + (bs m).length) = bs (l.take k ++ m ++ l.drop (k + m.length)) := by
  simp only [bs, List.map_append, List.map_take, List.map_drop, List.length_map]
attribute [local irreducible] WL WC WN Yl WH WQ WT WE WU WG
theorem bcrash_bad (v : Value) (a : Option Addr) (m c2 : Nat) (w : World) (h : BadAt w v) : Calls Try.prog 47 #[v, .slice a m c2] w (Gives (Val (.int .i64 1)) w) := by
  refine enter (args := [v, _]) Try.func47 Try.ntmps47 rfl rfl ?_
  obtain ⟨p, rfl⟩ : ∃ p, v = .pointer p := by cases h with
    | none => exact ⟨_, rfl⟩
    | zero bk _ => exact ⟨_, rfl⟩
  (repeat (first | (refine WL.kG ?_; first | refine WL.want rfl rfl rfl ?_ | refine WL.pass rfl rfl rfl rfl ?_) | (refine WL.k_move ?_; first | refine WL.step (Yl.move rfl) rfl ?_) | (refine WL.k_assign ?_; first | refine WL.step (Yl.assign rfl) rfl ?_) | (refine WL.k_pick ?_; first | refine WL.step (Yl.pick_t rfl rfl rfl) rfl ?_ | refine WL.step (Yl.pick_f rfl rfl rfl) rfl ?_) | (refine WL.k_bi .len ?_; first | refine WL.step (Yl.len (t := 30) Try.underlying30 rfl) rfl ?_) | (refine WL.k_bin .eql ?_; first | refine WL.step (Yl.eqNil (t := 30) Try.underlying30 rfl) rfl ?_ | refine WL.step (Yl.strEql rfl rfl) rfl ?_ | refine WL.step (Yl.eql rfl rfl) rfl ?_) | (refine WL.k_bin .lss ?_; first | refine WL.step (Yl.lss rfl rfl) rfl ?_) | (refine WL.k_bin .gtr ?_; first | refine WL.step (Yl.gtr rfl rfl) rfl ?_) | (refine WL.k_unop ?_; first | refine WL.step (Yl.not rfl) rfl ?_) | (refine WL.k_bin .add ?_; first | refine WL.step (Yl.add64C rfl (by omega)) rfl ?_ | refine WL.step (Yl.addC64 rfl (by omega)) rfl ?_ | refine WL.step (Yl.add64N rfl rfl (by omega)) rfl ?_ | refine WL.step (Yl.add64 rfl rfl (by omega)) rfl ?_) | (refine WL.k_bin .rem ?_; first | refine WL.step (Yl.remC rfl (by decide)) rfl ?_) | refine WC.seq ?_ | refine WC.region ?_ | refine WL.nil ?_ | refine WN.then_normal ?_ | refine WC.block ?_ | refine WC.skip ?_ | refine WC.ret ?_ | refine WN.then_ret ?_ | refine WN.block_normal ?_ | refine WN.block_ret ?_ | refine WN.block_here ?_ | refine WN.block_past (by decide) ?_))
  refine WL.box rfl rfl fun b2 => ?_
  refine WL.box rfl rfl fun b3 => ?_
  (repeat (first | (refine WL.kG ?_; first | refine WL.want rfl rfl rfl ?_ | refine WL.pass rfl rfl rfl rfl ?_) | (refine WL.k_move ?_; first | refine WL.step (Yl.move rfl) rfl ?_) | (refine WL.k_assign ?_; first | refine WL.step (Yl.assign rfl) rfl ?_) | (refine WL.k_load ?_; first | refine WL.step (Yl.loadBlk (T := 52) Try.isAgg52 rfl (by repeat (first | exact .head _ | refine .tail _ ?_)) (by rfl)) rfl ?_) | (refine WL.k_pick ?_; first | refine WL.step (Yl.pick_t rfl rfl rfl) rfl ?_ | refine WL.step (Yl.pick_f rfl rfl rfl) rfl ?_) | (refine WL.k_call 50 ?_; first | refine WL.callV (g := 50) (v := .bool false) Try.call50 rfl (fun w s => valid_bad w (h.keep s.kept)) rfl ?_) | (refine WL.k_bi .len ?_; first | refine WL.step (Yl.len (t := 30) Try.underlying30 rfl) rfl ?_) | (refine WL.k_bin .eql ?_; first | refine WL.step (Yl.eqNil (t := 30) Try.underlying30 rfl) rfl ?_ | refine WL.step (Yl.strEql rfl rfl) rfl ?_ | refine WL.step (Yl.eql rfl rfl) rfl ?_) | (refine WL.k_bin .lss ?_; first | refine WL.step (Yl.lss rfl rfl) rfl ?_) | (refine WL.k_bin .gtr ?_; first | refine WL.step (Yl.gtr rfl rfl) rfl ?_) | (refine WL.k_unop ?_; first | refine WL.step (Yl.not rfl) rfl ?_) | (refine WL.k_bin .add ?_; first | refine WL.step (Yl.add64C rfl (by omega)) rfl ?_ | refine WL.step (Yl.addC64 rfl (by omega)) rfl ?_ | refine WL.step (Yl.add64N rfl rfl (by omega)) rfl ?_ | refine WL.step (Yl.add64 rfl rfl (by omega)) rfl ?_) | (refine WL.k_bin .rem ?_; first | refine WL.step (Yl.remC rfl (by decide)) rfl ?_) | refine WC.seq ?_ | refine WC.region ?_ | refine WL.nil ?_ | refine WN.then_normal ?_ | refine WC.block ?_ | refine WC.skip ?_ | refine WC.ret ?_ | refine WN.then_ret ?_ | refine WN.block_normal ?_ | refine WN.block_ret ?_ | refine WN.block_here ?_ | refine WN.block_past (by decide) ?_))
  refine WC.cond_true rfl rfl ?_
  (repeat (first | (refine WL.kG ?_; first | refine WL.want rfl rfl rfl ?_ | refine WL.pass rfl rfl rfl rfl ?_) | (refine WL.k_move ?_; first | refine WL.step (Yl.move rfl) rfl ?_) | (refine WL.k_assign ?_; first | refine WL.step (Yl.assign rfl) rfl ?_) | (refine WL.k_pick ?_; first | refine WL.step (Yl.pick_t rfl rfl rfl) rfl ?_ | refine WL.step (Yl.pick_f rfl rfl rfl) rfl ?_) | (refine WL.k_bi .len ?_; first | refine WL.step (Yl.len (t := 30) Try.underlying30 rfl) rfl ?_) | (refine WL.k_bin .eql ?_; first | refine WL.step (Yl.eqNil (t := 30) Try.underlying30 rfl) rfl ?_ | refine WL.step (Yl.strEql rfl rfl) rfl ?_ | refine WL.step (Yl.eql rfl rfl) rfl ?_) | (refine WL.k_bin .lss ?_; first | refine WL.step (Yl.lss rfl rfl) rfl ?_) | (refine WL.k_bin .gtr ?_; first | refine WL.step (Yl.gtr rfl rfl) rfl ?_) | (refine WL.k_unop ?_; first | refine WL.step (Yl.not rfl) rfl ?_) | (refine WL.k_bin .add ?_; first | refine WL.step (Yl.add64C rfl (by omega)) rfl ?_ | refine WL.step (Yl.addC64 rfl (by omega)) rfl ?_ | refine WL.step (Yl.add64N rfl rfl (by omega)) rfl ?_ | refine WL.step (Yl.add64 rfl rfl (by omega)) rfl ?_) | (refine WL.k_bin .rem ?_; first | refine WL.step (Yl.remC rfl (by decide)) rfl ?_) | refine WC.seq ?_ | refine WC.region ?_ | refine WL.nil ?_ | refine WN.then_normal ?_ | refine WC.block ?_ | refine WC.skip ?_ | refine WC.ret ?_ | refine WN.then_ret ?_ | refine WN.block_normal ?_ | refine WN.block_ret ?_ | refine WN.block_here ?_ | refine WN.block_past (by decide) ?_))
  exact WN.ret1 rfl rfl ⟨rfl, rfl⟩ .nil
theorem bsync_bad (v : Value) (w : World) (h : BadAt w v) : Calls Try.prog 41 #[v] w (Gives (Val (.int .i64 1)) w) := by
  refine enter (args := [v]) Try.func41 Try.ntmps41 rfl rfl ?_
  (repeat (first | (refine WL.k_move ?_; first | refine WL.step (Yl.move rfl) rfl ?_) | (refine WL.k_assign ?_; first | refine WL.step (Yl.assign rfl) rfl ?_) | refine WC.seq ?_ | refine WC.region ?_ | refine WL.nil ?_ | refine WN.then_normal ?_ | refine WC.skip ?_ | refine WC.ret ?_ | refine WN.then_ret ?_))
  refine WL.lit (t := 22) (vs := [.int .i64 128]) Try.underlying22 elemZ rfl rfl rfl (fun u hu => by rw [List.mem_singleton.1 hu]; rfl) rfl fun b9 => ?_
  (repeat (first | (refine WL.k_move ?_; first | refine WL.step (Yl.move rfl) rfl ?_) | (refine WL.k_assign ?_; first | refine WL.step (Yl.assign rfl) rfl ?_) | (refine WL.k_call 47 ?_; first | refine WL.callV (g := 47) (v := .int .i64 1) Try.call47 rfl (fun w s => bcrash_bad v _ _ _ w (h.keep s.kept)) rfl ?_) | refine WC.seq ?_ | refine WC.region ?_ | refine WL.nil ?_ | refine WN.then_normal ?_ | refine WC.skip ?_ | refine WC.ret ?_ | refine WN.then_ret ?_))
  exact WN.ret1 rfl rfl ⟨rfl, rfl⟩ .nil
section
variable {bk cap mb : Nat} {da : Option Addr} {d : List (List UInt8)} {F : Nat → Option (List UInt8)}
theorem bsync_r (M : List (Nat × List UInt8 × Nat)) (c : Nat) (w : World) (hwf : BkWf d F) (hcap : d.length ≤ cap) (hM : MapIs d.length F M c)
    (st : St w ((bankItems bk da cap mb d M c).filterMap HA.foot) (bankItems bk da cap mb d M c) w) :
    Calls Try.prog 41 #[bptr bk] w (GivesS ((bankItems bk da cap mb d M c).filterMap HA.foot) (BankV bk da cap mb (crashR [128] d F).1.1 (crashR [128] d F).1.2 (crashR [128] d F).2) w) := by
  refine enterS (args := [.pointer (some ⟨bk, 0, none⟩)]) Try.func41 Try.ntmps41 rfl rfl st ?_
  generalize hS : List.filterMap HA.foot (bankItems bk da cap mb d M c) = S at *
  rw [bankItems] at *
  (repeat (first | (refine WL.k_move ?_; first | refine WL.step (Yl.move rfl) rfl ?_) | (refine WL.k_assign ?_; first | refine WL.step (Yl.assign rfl) rfl ?_) | refine WC.seq ?_ | refine WC.region ?_ | refine WL.nil ?_ | refine WN.then_normal ?_ | refine WC.skip ?_ | refine WC.ret ?_ | refine WN.then_ret ?_))
  refine WL.lit (t := 22) (vs := [.int .i64 128]) Try.underlying22 elemZ rfl rfl rfl (fun u hu => by rw [List.mem_singleton.1 hu]; rfl) rfl fun b9 => ?_
  rw [show flat [Value.int .i64 128] = zcells [128] from rfl]
  (repeat (first | (refine WL.k_move ?_; first | refine WL.step (Yl.move rfl) rfl ?_) | (refine WL.k_assign ?_; first | refine WL.step (Yl.assign rfl) rfl ?_) | refine WC.seq ?_ | refine WC.region ?_ | refine WL.nil ?_ | refine WN.then_normal ?_ | refine WC.skip ?_ | refine WC.ret ?_ | refine WN.then_ret ?_))
  refine WL.callS3 Try.call47 rfl (.there .here) (.there .here) (.there .here) (fun w s hp s1 => bcrash_r _ 1 1 [128] M c w hwf hcap hM rfl (by decide) s1 (row_out s hp (.head _))) rfl fun v C hv => ?_
  obtain ⟨M', c', hM', rfl, rfl⟩ := hv
  rw [bankItems]
  simp only [List.cons_append, List.nil_append]
  (repeat (first | (refine WL.k_move ?_; first | refine WL.step (Yl.move rfl) rfl ?_) | (refine WL.k_assign ?_; first | refine WL.step (Yl.assign rfl) rfl ?_) | refine WC.seq ?_ | refine WC.region ?_ | refine WL.nil ?_ | refine WN.then_normal ?_ | refine WC.skip ?_ | refine WC.ret ?_ | refine WN.then_ret ?_))
  refine WN.ret1S rfl rfl ⟨M', c', hM', rfl, rfl⟩ ?_
  rw [bankItems]
  exact (by repeat (first | exact Part.nil | refine Part.cons (by repeat (first | exact Pick.here | apply Pick.there)) ?_ | refine Part.free ?_))
end
def tearR (l m : List UInt8) (k : Int) : List UInt8 × Nat := if l.length = 128 ∧ m.length = 128 ∧ 0 ≤ k ∧ k ≤ 128 then (m.take k.toNat ++ l.drop k.toNat, 0) else ([], 2)
theorem tearR_len (l m : List UInt8) (k : Int) : (tearR l m k).1.length ≤ 128 := by
  unfold tearR; split
  · simp only [List.length_append, List.length_take, List.length_drop]; omega
  · simp
end Go.Proofs.Ytmmpngigaodcgaa
