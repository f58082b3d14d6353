/- Banks: made, copied, written. -/
import Derived.Test.YtmmpngigaodcgaaBnk1
import Derived.Laws.MakeOwn
namespace Go.Proofs.Ytmmpngigaodcgaa
set_option linter.unusedVariables false
set_option linter.unusedSimpArgs false
open Go Go.RowKit
set_option maxRecDepth 100000
set_option maxHeartbeats 8000000
section
variable {X : Cx} {ops : Array Oper} {Q : Exit → Act → World → Prop} {ρ : Env} {A B : List HA} {rest : List Oper} {d : Tmp} {ty : TypeId} {ps : String} {af : Array Edge}
theorem madeCells_same {z : Value} {k : Nat} (hk : 0 < k) (n : Nat) : madeCells (List.replicate k z).toArray n = (List.replicate n z).toArray := by
  apply Array.ext
  · simp [madeCells]
  · intro i h1 h2
    have : i % k < k := Nat.mod_lt _ hk
    simp [madeCells, this]
/-- 'make' of elements of several cells that are all the same. -/
theorem WL.makeSame {x y : Operand} {t e : TypeId} {z z0 : Value} {bytes k m n : Nat} {k1 k2 : IntKind} (hu : X.P.underlying t = some (.slice e)) (he : ElemT X.P e z k bytes) (hz0 : z.cells = (List.replicate k z0).toArray)
    (hx : ev ρ x = some (.int k1 (m : Int))) (hy : ev ρ y = some (.int k2 (n : Int))) (hmn : m ≤ n) (hb : bytes * n ≤ 281474976710656) (h63 : n ≤ maxLen) (hd : Nat.blt d X.n = true)
    (h : ∀ b : Nat, WL X ops Q rest ((d, .slice (some ⟨b, 0, none⟩) m n) :: ρ) (.row (some ⟨b, 0, none⟩) n e k (List.replicate (n * k) z0) :: A)) :
    WL X ops Q (⟨some d, .makeSlice t x y, ty, ps, af, none⟩ :: rest) ρ A :=
  WL.stepE (fun b : Nat => .slice (some ⟨b, 0, none⟩) m n) (fun b => .row (some ⟨b, 0, none⟩) n e k (List.replicate (n * k) z0) :: A) (fun o ho _ a w f s => by
    obtain ⟨i, hi, hz, hk, hby⟩ := he.info
    have h63' : (n : Int) ≤ 9223372036854775807 := by simp only [maxLen] at h63; omega
    have hb' : (i.bytes : Int) * (n : Int) ≤ 281474976710656 := by
      have h : ((i.bytes * n : Nat) : Int) ≤ 281474976710656 := by rw [hby]; omega
      rwa [Int.natCast_mul] at h
    have hr := run_make (P := X.P) w t e i z hu hi hz k1 k2 m n (by omega) (by omega) hb' h63'
    rw [hz0, madeCells_same he.pos, Int.toNat_natCast, Int.toNat_natCast, hk] at hr
    refine ⟨w.heap.size, { w with heap := w.heap.push (.cells (List.replicate (n * k) z0).toArray e) }, ?_, s.new (Kept.alloc w _) (.inr ⟨w.heap.size, (List.replicate (n * k) z0).toArray, rfl, by simp, by simp, h63, by simp, by simp⟩) (fun b hb => ?_)⟩
    · simp only [execOp, ho, f.ev hx, f.ev hy, Sem.run_bind, hr, Result.andThen_ok, Sem.run_pure]
      rfl
    · simp only [HA.foot] at hb
      split at hb
      · cases hb
      · simp only [Option.map_some, Option.some.injEq] at hb; omega) hd h
/-- Memory of the caller's that is not lent. -/
theorem row_out {w0 w : World} {S : List Nat} {A A0 B : List HA} {a : Option Addr} {cap k : Nat} {T : TypeId} {vs : List Value} (s : St w0 S A w) (hp : A.Perm (A0 ++ B)) (hm : HA.row a cap T k vs ∈ B) : CellsOut w (A0.filterMap HA.foot) a vs := by
  have s1 := s.perm hp
  rcases s1.holds _ (List.mem_append_right _ hm) with ⟨_, h⟩ | ⟨b, cs, rfl, hc, hsz, _, hl, ht⟩
  · exact .inl h
  · by_cases h0 : cap = 0
    · subst h0
      simp only [Nat.zero_mul] at hsz
      exact .inl (List.eq_nil_of_length_eq_zero (by omega))
    · refine .inr ⟨b, 0, rfl, fun hb => ?_, fun i v hv => ?_⟩
      · have hap := s1.apart
        rw [List.filterMap_append, List.nodup_append] at hap
        exact hap.2.2 b hb b (List.mem_filterMap.2 ⟨_, hm, by simp [HA.foot, h0]⟩) rfl
      · have : cs.toList[i]? = some v := by
          rw [← ht] at hv
          rw [List.getElem?_take] at hv
          split at hv
          · exact hv
          · cases hv
        rw [Nat.zero_add]
        simp only [World.cell?, hc]
        simpa using this
theorem old_out {w0 w : World} {S : List Nat} {A A0 B : List HA} {a : Option Addr} {vs : List Value} (s : St w0 S A w) (hp : A.Perm (A0 ++ B)) (h : CellsOut w0 S a vs) : CellsOut w (A0.filterMap HA.foot) a vs :=
  h.pass s fun b hb => by
    obtain ⟨x, hx, hf⟩ := List.mem_filterMap.1 hb
    exact ⟨x, hp.mem_iff.2 (List.mem_append_left _ hx), hf⟩
/-- A call to which three items are lent. -/
theorem WL.callS3 {x1 x2 x3 : HA} {A1 A2 : List HA} {R : Value → List HA → Prop} {g : FuncId} {xs : List Operand} {ts : Array TypeId} {vs : List Value} (he : ∀ args w, (callFunc g args).run X.P w = .ok (.enter g args) w) (hx : evs ρ xs = some vs)
    (p1 : Pick x1 A A1) (p2 : Pick x2 A1 A2) (p3 : Pick x3 A2 B)
    (hc : ∀ w, St X.w0 X.S A w → A.Perm ([x1, x2, x3] ++ B) → St w ([x1, x2, x3].filterMap HA.foot) [x1, x2, x3] w → Calls X.P g vs.toArray w (GivesS ([x1, x2, x3].filterMap HA.foot) R w)) (hd : Nat.blt d X.n = true) (h : ∀ v C, R v C → WL X ops Q rest ((d, v) :: ρ) (C ++ B)) :
    WL X ops Q (⟨some d, .call { callee := .value (.func g), args := xs.toArray, argTypes := ts }, ty, ps, af, none⟩ :: rest) ρ A := by
  have hp : A.Perm ([x1, x2, x3] ++ B) := (p1.perm).trans (((p2.perm).trans ((p3.perm).cons _)).cons _)
  exact WL.callS he hx hp (fun w s s1 => hc w s hp s1) hd h
end
theorem elemBlk : ElemT Try.prog 76 (encB zblk) 128 128 := ElemT.of (by kernel_rfl) rfl (by decide)
def bankItems (bk : Nat) (da : Option Addr) (cap mb : Nat) (d : List (List UInt8)) (M : List (Nat × List UInt8 × Nat)) (c : Nat) : List HA :=
  [.blk bk (.cells #[.slice da d.length cap, .map (some mb)] 80 (0, 0)), .row da cap 76 128 (bs d.flatten), .blk mb (mobj encB M c)]
theorem BankAt.of {w0 : World} {S : List Nat} {A : List HA} {w : World} {bk cap mb c : Nat} {da : Option Addr} {d : List (List UInt8)} {F : Nat → Option (List UInt8)} {M : List (Nat × List UInt8 × Nat)} (hw : BkWf d F) (hcap : d.length ≤ cap) (hM : MapIs d.length F M c)
    (h1 : HA.blk bk (.cells #[.slice da d.length cap, .map (some mb)] 80 (0, 0)) ∈ A) (h2 : HA.row da cap 76 128 (bs d.flatten) ∈ A) (h3 : HA.blk mb (mobj encB M c) ∈ A) (s : St w0 S A w) : BankAt w bk da cap mb d F :=
  ⟨hw, s.holds _ h1, Rd.row (X := ⟨Try.prog, 0, w0, S⟩) h2 w s, hcap, M, c, s.holds _ h3, hM⟩
theorem buildBank (a : Option Addr) (n c : Nat) (m : Option Nat) (w : World) : (Instr.build 80 [(0, Value.slice a n c), (1, .map m)].toArray).run Try.prog w = .ok (.agg #[.slice a n c, .map m]) w := by
  simp [Instr.build, Try.zeroValue80, run_underlying Try.underlying80, Try.sizeOf77, Try.sizeOf78, Value.cells, Instr.fill]
attribute [local irreducible] WL WC WN Yl WH WQ WT WE WU
def NewV (n : Nat) : Value → List HA → Prop := fun u B => ∃ bk da cap mb, n ≤ cap ∧ u = .tuple #[bptr bk, .int .i64 0] ∧ B = bankItems bk da cap mb (List.replicate n zblk) [] 0
theorem flat_zeros (n : Nat) : bs (List.replicate n zblk).flatten = List.replicate (n * 128) (.int .u8 0) := by
  have : (List.replicate n zblk).flatten = List.replicate (n * 128) 0 := by
    induction n with
    | zero => rfl
    | succ n ih => rw [List.replicate_succ, List.flatten_cons, ih, zblk, List.replicate_append_replicate]; congr 1; omega
  rw [this]; simp [bs, bv]
theorem bnew_c (n : Nat) (w : World) (h1 : 1 ≤ n) (h2 : n ≤ 4096) : Calls Try.prog 39 #[.int .i64 (n : Int)] w (Gives (NewV n) w) := by
  refine enter (args := [_]) Try.func39 Try.ntmps39 rfl rfl ?_
  (repeat (first | (refine WL.kG ?_; first | refine WL.want rfl rfl rfl ?_ | refine WL.pass rfl rfl rfl rfl ?_) | (refine WL.k_move ?_; first | refine WL.step (Yl.move rfl) rfl ?_) | (refine WL.k_assign ?_; first | refine WL.step (Yl.assign rfl) rfl ?_) | (refine WL.k_pick ?_; first | refine WL.step (Yl.pick_t rfl rfl rfl) rfl ?_ | refine WL.step (Yl.pick_f rfl rfl rfl) rfl ?_) | (refine WL.k_bin .lss ?_; first | refine WL.step (Yl.lssF rfl rfl (by omega)) rfl ?_ | refine WL.step (Yl.lss rfl rfl) rfl ?_) | (refine WL.k_bin .gtr ?_; first | refine WL.step (Yl.gtrF rfl rfl (by omega)) rfl ?_ | refine WL.step (Yl.gtr rfl rfl) rfl ?_) | refine WC.seq ?_ | refine WC.region ?_ | refine WL.nil ?_ | refine WN.then_normal ?_ | refine WC.skip ?_ | refine WC.ret ?_ | refine WN.then_ret ?_))
  refine WC.cond_false rfl rfl ?_
  (repeat (first | (refine WL.kG ?_; first | refine WL.want rfl rfl rfl ?_ | refine WL.pass rfl rfl rfl rfl ?_) | (refine WL.k_move ?_; first | refine WL.step (Yl.move rfl) rfl ?_) | (refine WL.k_assign ?_; first | refine WL.step (Yl.assign rfl) rfl ?_) | (refine WL.k_pick ?_; first | refine WL.step (Yl.pick_t rfl rfl rfl) rfl ?_ | refine WL.step (Yl.pick_f rfl rfl rfl) rfl ?_) | (refine WL.k_bin .lss ?_; first | refine WL.step (Yl.lss rfl rfl) rfl ?_) | (refine WL.k_bin .gtr ?_; first | refine WL.step (Yl.gtr rfl rfl) rfl ?_) | refine WC.seq ?_ | refine WC.region ?_ | refine WL.nil ?_ | refine WN.then_normal ?_ | refine WC.skip ?_ | refine WC.ret ?_ | refine WN.then_ret ?_))
  refine WL.makeSame (z0 := .int .u8 0) Try.underlying77 elemBlk rfl rfl rfl (Nat.le_refl _) (by omega) (by simp only [maxLen]; omega) rfl fun b1 => ?_
  refine WL.makeMap (enc := encB) rfl fun b2 => ?_
  (repeat (first | (refine WL.kG ?_; first | refine WL.want rfl rfl rfl ?_ | refine WL.pass rfl rfl rfl rfl ?_) | (refine WL.k_move ?_; first | refine WL.step (Yl.move rfl) rfl ?_) | (refine WL.k_assign ?_; first | refine WL.step (Yl.assign rfl) rfl ?_) | (refine WL.k_pick ?_; first | refine WL.step (Yl.pick_t rfl rfl rfl) rfl ?_ | refine WL.step (Yl.pick_f rfl rfl rfl) rfl ?_) | (refine WL.k_build ?_; first | refine WL.step (Yl.build (ps := [(0, .tmp 11), (1, .tmp 12)]) rfl (buildBank _ _ _ _)) rfl ?_) | (refine WL.k_bin .lss ?_; first | refine WL.step (Yl.lss rfl rfl) rfl ?_) | (refine WL.k_bin .gtr ?_; first | refine WL.step (Yl.gtr rfl rfl) rfl ?_) | refine WC.seq ?_ | refine WC.region ?_ | refine WL.nil ?_ | refine WN.then_normal ?_ | refine WC.skip ?_ | refine WC.ret ?_ | refine WN.then_ret ?_))
  refine WL.boxA rfl rfl fun b3 => ?_
  (repeat (first | (refine WL.kG ?_; first | refine WL.want rfl rfl rfl ?_ | refine WL.pass rfl rfl rfl rfl ?_) | (refine WL.k_move ?_; first | refine WL.step (Yl.move rfl) rfl ?_) | (refine WL.k_assign ?_; first | refine WL.step (Yl.assign rfl) rfl ?_) | (refine WL.k_pick ?_; first | refine WL.step (Yl.pick_t rfl rfl rfl) rfl ?_ | refine WL.step (Yl.pick_f rfl rfl rfl) rfl ?_) | (refine WL.k_bin .lss ?_; first | refine WL.step (Yl.lss rfl rfl) rfl ?_) | (refine WL.k_bin .gtr ?_; first | refine WL.step (Yl.gtr rfl rfl) rfl ?_) | refine WC.seq ?_ | refine WC.region ?_ | refine WL.nil ?_ | refine WN.then_normal ?_ | refine WC.skip ?_ | refine WC.ret ?_ | refine WN.then_ret ?_))
  exact WN.ret2 rfl rfl rfl ⟨b3, some ⟨b1, 0, none⟩, n, b2, Nat.le_refl _, rfl, by rw [bankItems, flat_zeros, List.length_replicate]⟩ (by repeat (first | exact Part.nil | refine Part.cons (by repeat (first | exact Pick.here | apply Pick.there)) ?_ | refine Part.free ?_))
theorem bnew_no (s : Int) (w : World) (h : s < 1 ∨ 4096 < s) : Calls Try.prog 39 #[.int .i64 s] w (Gives (Val (.tuple #[.pointer none, .int .i64 2])) w) := by
  refine enter (args := [_]) Try.func39 Try.ntmps39 rfl rfl ?_
  by_cases h1 : s < 1
  · (repeat (first | (refine WL.kG ?_; first | refine WL.want rfl rfl rfl ?_ | refine WL.pass rfl rfl rfl rfl ?_) | (refine WL.k_move ?_; first | refine WL.step (Yl.move rfl) rfl ?_) | (refine WL.k_assign ?_; first | refine WL.step (Yl.assign rfl) rfl ?_) | (refine WL.k_pick ?_; first | refine WL.step (Yl.pick_t rfl rfl rfl) rfl ?_ | refine WL.step (Yl.pick_f rfl rfl rfl) rfl ?_) | (refine WL.k_bin .lss ?_; first | refine WL.step (Yl.lssT rfl rfl h1) rfl ?_ | refine WL.step (Yl.lss rfl rfl) rfl ?_) | (refine WL.k_bin .gtr ?_; first | refine WL.step (Yl.gtr rfl rfl) rfl ?_) | refine WC.seq ?_ | refine WC.region ?_ | refine WL.nil ?_ | refine WN.then_normal ?_ | refine WC.skip ?_ | refine WC.ret ?_ | refine WN.then_ret ?_))
    refine WC.cond_true rfl rfl ?_
    (repeat (first | (refine WL.kG ?_; first | refine WL.want rfl rfl rfl ?_ | refine WL.pass rfl rfl rfl rfl ?_) | (refine WL.k_move ?_; first | refine WL.step (Yl.move rfl) rfl ?_) | (refine WL.k_assign ?_; first | refine WL.step (Yl.assign rfl) rfl ?_) | (refine WL.k_pick ?_; first | refine WL.step (Yl.pick_t rfl rfl rfl) rfl ?_ | refine WL.step (Yl.pick_f rfl rfl rfl) rfl ?_) | (refine WL.k_bin .lss ?_; first | refine WL.step (Yl.lss rfl rfl) rfl ?_) | (refine WL.k_bin .gtr ?_; first | refine WL.step (Yl.gtr rfl rfl) rfl ?_) | refine WC.seq ?_ | refine WC.region ?_ | refine WL.nil ?_ | refine WN.then_normal ?_ | refine WC.skip ?_ | refine WC.ret ?_ | refine WN.then_ret ?_))
    exact WN.ret2 rfl rfl rfl ⟨rfl, rfl⟩ .nil
  · (repeat (first | (refine WL.kG ?_; first | refine WL.want rfl rfl rfl ?_ | refine WL.pass rfl rfl rfl rfl ?_) | (refine WL.k_move ?_; first | refine WL.step (Yl.move rfl) rfl ?_) | (refine WL.k_assign ?_; first | refine WL.step (Yl.assign rfl) rfl ?_) | (refine WL.k_pick ?_; first | refine WL.step (Yl.pick_t rfl rfl rfl) rfl ?_ | refine WL.step (Yl.pick_f rfl rfl rfl) rfl ?_) | (refine WL.k_bin .lss ?_; first | refine WL.step (Yl.lssF rfl rfl h1) rfl ?_ | refine WL.step (Yl.lss rfl rfl) rfl ?_) | (refine WL.k_bin .gtr ?_; first | refine WL.step (Yl.gtrT rfl rfl (by omega)) rfl ?_ | refine WL.step (Yl.gtr rfl rfl) rfl ?_) | refine WC.seq ?_ | refine WC.region ?_ | refine WL.nil ?_ | refine WN.then_normal ?_ | refine WC.skip ?_ | refine WC.ret ?_ | refine WN.then_ret ?_))
    refine WC.cond_true rfl rfl ?_
    (repeat (first | (refine WL.kG ?_; first | refine WL.want rfl rfl rfl ?_ | refine WL.pass rfl rfl rfl rfl ?_) | (refine WL.k_move ?_; first | refine WL.step (Yl.move rfl) rfl ?_) | (refine WL.k_assign ?_; first | refine WL.step (Yl.assign rfl) rfl ?_) | (refine WL.k_pick ?_; first | refine WL.step (Yl.pick_t rfl rfl rfl) rfl ?_ | refine WL.step (Yl.pick_f rfl rfl rfl) rfl ?_) | (refine WL.k_bin .lss ?_; first | refine WL.step (Yl.lss rfl rfl) rfl ?_) | (refine WL.k_bin .gtr ?_; first | refine WL.step (Yl.gtr rfl rfl) rfl ?_) | refine WC.seq ?_ | refine WC.region ?_ | refine WL.nil ?_ | refine WN.then_normal ?_ | refine WC.skip ?_ | refine WC.ret ?_ | refine WN.then_ret ?_))
    exact WN.ret2 rfl rfl rfl ⟨rfl, rfl⟩ .nil
theorem clb_c (a : Addr) (n cap : Nat) (d : List (List UInt8)) (w : World) (hl : d.length = n) (hn : n ≤ 4096) (hw : ∀ k ∈ d, k.length = 128) (hr : CellsAt w (some a) (bs d.flatten)) :
    Calls Try.prog 51 #[.slice (some a) n cap] w (Gives (NewRow id 76 128 n (bs d.flatten)) w) := by
  have hkl := flat_len128 hw
  refine enter (args := [_]) Try.func51 Try.ntmps51 rfl rfl ?_
  (repeat (first | (refine WL.k_move ?_; first | refine WL.step (Yl.move rfl) rfl ?_) | (refine WL.k_assign ?_; first | refine WL.step (Yl.assign rfl) rfl ?_) | (refine WL.k_bin .eql ?_; first | refine WL.step (Yl.eqNil (t := 77) Try.underlying77 rfl) rfl ?_ | refine WL.step (Yl.eqNil (t := 30) Try.underlying30 rfl) rfl ?_ | refine WL.step (Yl.strEql rfl rfl) rfl ?_ | refine WL.step (Yl.eql rfl rfl) rfl ?_) | refine WC.seq ?_ | refine WC.region ?_ | refine WL.nil ?_ | refine WN.then_normal ?_ | refine WC.block ?_ | refine WC.skip ?_ | refine WC.ret ?_ | refine WN.then_ret ?_ | refine WN.block_normal ?_ | refine WN.block_ret ?_ | refine WN.block_here ?_ | refine WN.block_past (by decide) ?_))
  refine WC.cond_false rfl rfl ?_
  (repeat (first | (refine WL.k_move ?_; first | refine WL.step (Yl.move rfl) rfl ?_) | (refine WL.k_assign ?_; first | refine WL.step (Yl.assign rfl) rfl ?_) | (refine WL.k_bin .eql ?_; first | refine WL.step (Yl.eqNil (t := 30) Try.underlying30 rfl) rfl ?_ | refine WL.step (Yl.strEql rfl rfl) rfl ?_ | refine WL.step (Yl.eql rfl rfl) rfl ?_) | refine WC.seq ?_ | refine WC.region ?_ | refine WL.nil ?_ | refine WN.then_normal ?_ | refine WC.block ?_ | refine WC.skip ?_ | refine WC.ret ?_ | refine WN.then_ret ?_ | refine WN.block_normal ?_ | refine WN.block_ret ?_ | refine WN.block_here ?_ | refine WN.block_past (by decide) ?_))
  refine WL.lit (t := 77) Try.underlying77 elemBlk rfl rfl rfl (by simp) rfl fun b => ?_
  (repeat (first | (refine WL.k_move ?_; first | refine WL.step (Yl.move rfl) rfl ?_) | (refine WL.k_assign ?_; first | refine WL.step (Yl.assign rfl) rfl ?_) | (refine WL.k_bin .eql ?_; first | refine WL.step (Yl.eqNil (t := 30) Try.underlying30 rfl) rfl ?_ | refine WL.step (Yl.strEql rfl rfl) rfl ?_ | refine WL.step (Yl.eql rfl rfl) rfl ?_) | refine WC.seq ?_ | refine WC.region ?_ | refine WL.nil ?_ | refine WN.then_normal ?_ | refine WC.block ?_ | refine WC.skip ?_ | refine WC.ret ?_ | refine WN.then_ret ?_ | refine WN.block_normal ?_ | refine WN.block_ret ?_ | refine WN.block_here ?_ | refine WN.block_past (by decide) ?_))
  refine WL.appendRow (t := 77) Try.underlying77 elemBlk rfl rfl .here rfl (by omega) (.old hr) (by rw [hkl, hl]) (bs_one _) (by omega) (by simp only [maxLen]; omega) rfl fun p hp => ?_
  (repeat (first | (refine WL.k_move ?_; first | refine WL.step (Yl.move rfl) rfl ?_) | (refine WL.k_assign ?_; first | refine WL.step (Yl.assign rfl) rfl ?_) | (refine WL.k_bin .eql ?_; first | refine WL.step (Yl.eqNil (t := 30) Try.underlying30 rfl) rfl ?_ | refine WL.step (Yl.strEql rfl rfl) rfl ?_ | refine WL.step (Yl.eql rfl rfl) rfl ?_) | refine WC.seq ?_ | refine WC.region ?_ | refine WL.nil ?_ | refine WN.then_normal ?_ | refine WC.block ?_ | refine WC.skip ?_ | refine WC.ret ?_ | refine WN.then_ret ?_ | refine WN.block_normal ?_ | refine WN.block_ret ?_ | refine WN.block_here ?_ | refine WN.block_past (by decide) ?_))
  exact WN.ret1 rfl rfl ⟨p.1, p.2, by omega, by rw [Nat.zero_add]; rfl, rfl⟩ (.cons .here .nil)
def MapV (M : List (Nat × List UInt8 × Nat)) (c : Nat) : Value → List HA → Prop := fun u B => ∃ b, u = .map (some b) ∧ B = [.blk b (mobj encB M c)]
theorem clm_c (mb : Nat) (M : List (Nat × List UInt8 × Nat)) (c : Nat) (w : World) (h : w.heap[mb]? = some (mobj encB M c)) :
    Calls Try.prog 52 #[.map (some mb)] w (Gives (MapV M c) w) := by
  refine (AnyW.maps_Clone cloneL mb _ _ w h).mono ?_
  rintro e w' ⟨rfl, rfl⟩
  exact ⟨_, _, rfl, ⟨_, rfl, rfl⟩, (St.start w).alloc _⟩
section
variable {bk cap mb : Nat} {da : Option Addr} {d : List (List UInt8)} {F : Nat → Option (List UInt8)}
def CopyV (d : List (List UInt8)) (F : Nat → Option (List UInt8)) : Value → List HA → Prop := fun u B => ∃ bk da cap mb M c, d.length ≤ cap ∧ MapIs d.length F M c ∧ u = bptr bk ∧ B = bankItems bk da cap mb d M c
theorem bcopy_c (w : World) (h : BankAt w bk da cap mb d F) : Calls Try.prog 42 #[bptr bk] w (Gives (CopyV d F) w) := by
  obtain ⟨M, c, hm, hM⟩ := h.map
  have hpos := h.wf.pos
  have hle := h.wf.le
  obtain ⟨ad, had⟩ : ∃ ad, da = some ad := by
    have := h.row
    rcases this with h0 | ⟨b, off, rfl, _⟩
    · exact absurd h0 (flat_ne h.wf.len hpos)
    · exact ⟨_, rfl⟩
  subst had
  refine enter (args := [.pointer (some ⟨bk, 0, none⟩)]) Try.func42 Try.ntmps42 rfl rfl ?_
  (repeat (first | (refine WL.k_move ?_; first | refine WL.step (Yl.move rfl) rfl ?_) | (refine WL.k_assign ?_; first | refine WL.step (Yl.assign rfl) rfl ?_) | (refine WL.k_call 50 ?_; first | refine WL.callV (g := 50) (v := .bool true) Try.call50 rfl (fun w s => valid_ok w (h.keep s.kept)) rfl ?_) | (refine WL.k_unop ?_; first | refine WL.step (Yl.not rfl) rfl ?_) | refine WC.seq ?_ | refine WC.region ?_ | refine WL.nil ?_ | refine WN.then_normal ?_ | refine WC.skip ?_ | refine WC.ret ?_ | refine WN.then_ret ?_))
  refine WC.cond_false rfl rfl ?_
  (repeat (first | (refine WL.k_move ?_; first | refine WL.step (Yl.move rfl) rfl ?_) | (refine WL.k_assign ?_; first | refine WL.step (Yl.assign rfl) rfl ?_) | (refine WL.k_unop ?_; first | refine WL.step (Yl.not rfl) rfl ?_) | refine WC.seq ?_ | refine WC.region ?_ | refine WL.nil ?_ | refine WN.then_normal ?_ | refine WC.skip ?_ | refine WC.ret ?_ | refine WN.then_ret ?_))
  refine WC.regionH [] (by kernel_rfl) ?_
  (refine WH.order [0, 1, 2, 3, 5, 6, 7, 8] (by repeat (first | exact Part.nil | refine Part.cons (by repeat (first | exact Pick.here | apply Pick.there)) ?_ | refine Part.free ?_)) (by kernel_rfl) ?_; (repeat (first | (refine WT.k_move rfl ?_; first | refine WT.take rfl rfl (fun _ _ _ h => h) (Yl.move rfl) rfl (by kernel_rfl) (by kernel_rfl) ?_) | (refine WT.k_assign rfl ?_; first | refine WT.take rfl rfl (fun _ _ _ h => h) (Yl.assign rfl) rfl (by kernel_rfl) (by kernel_rfl) ?_) | (refine WT.k_load rfl ?_; first | refine WT.take rfl rfl (fun _ _ _ h => h) (Yl.loadH Try.isAgg77 rfl (Has.old h.blk) rfl) rfl (by kernel_rfl) (by kernel_rfl) ?_ | refine WT.take rfl rfl (fun _ _ _ h => h) (Yl.loadH Try.isAgg78 rfl (Has.old h.blk) rfl) rfl (by kernel_rfl) (by kernel_rfl) ?_) | (refine WT.k_fld rfl ?_; first | refine WT.take rfl rfl (fun _ _ _ h => h) (Yl.fld0 (t := 80) Try.underlying80 fl80 rfl rfl) rfl (by kernel_rfl) (by kernel_rfl) ?_) | (refine WT.k_nilc rfl ?_; first | refine WT.take rfl rfl (fun _ _ _ h => h) (Yl.nilCheck rfl) rfl (by kernel_rfl) (by kernel_rfl) ?_) | (refine WT.k_unop rfl ?_; first | refine WT.take rfl rfl (fun _ _ _ h => h) (Yl.not rfl) rfl (by kernel_rfl) (by kernel_rfl) ?_))); refine WT.nil ?_)
  refine WH.only (i := 4) (by kernel_rfl) rfl ?_
  refine WL.callR (g := 51) Try.call51 rfl (fun w s => clb_c ad d.length cap d w rfl hle h.wf.len (h.keep s.kept).row) rfl fun q hq => ?_
  refine WL.nil (WN.nextH (by repeat (first | exact Part.nil | refine Part.cons (by repeat (first | exact Pick.here | apply Pick.there)) ?_ | refine Part.free ?_)) ?_)
  refine WH.only (i := 9) (by kernel_rfl) rfl ?_
  refine WL.call (g := 52) Try.call52 rfl (fun w s => clm_c mb M c w ((s.kept.block mb (lt_of_heap hm) (by simp)).trans hm)) rfl fun v1 B1 hv1 => ?_
  obtain ⟨b2, rfl, rfl⟩ := hv1
  simp only [List.cons_append, List.nil_append, id]
  refine WL.nil (WN.nextH (by repeat (first | exact Part.nil | refine Part.cons (by repeat (first | exact Pick.here | apply Pick.there)) ?_ | refine Part.free ?_)) ?_)
  (refine WH.order [10] (by repeat (first | exact Part.nil | refine Part.cons (by repeat (first | exact Pick.here | apply Pick.there)) ?_ | refine Part.free ?_)) (by kernel_rfl) ?_; (repeat (first | (refine WT.k_move rfl ?_; first | refine WT.take rfl rfl (fun _ _ _ h => h) (Yl.move rfl) rfl (by kernel_rfl) (by kernel_rfl) ?_) | (refine WT.k_assign rfl ?_; first | refine WT.take rfl rfl (fun _ _ _ h => h) (Yl.assign rfl) rfl (by kernel_rfl) (by kernel_rfl) ?_) | (refine WT.k_build rfl ?_; first | refine WT.take rfl rfl (fun _ _ _ h => h) (Yl.build (ps := [(0, .tmp 10), (1, .tmp 15)]) rfl (buildBank _ _ _ _)) rfl (by kernel_rfl) (by kernel_rfl) ?_) | (refine WT.k_unop rfl ?_; first | refine WT.take rfl rfl (fun _ _ _ h => h) (Yl.not rfl) rfl (by kernel_rfl) (by kernel_rfl) ?_))); refine WT.nil ?_)
  refine WH.only (i := 11) (by kernel_rfl) rfl ?_
  refine WL.boxA rfl rfl fun b3 => ?_
  refine WL.nil (WN.nextH (by repeat (first | exact Part.nil | refine Part.cons (by repeat (first | exact Pick.here | apply Pick.there)) ?_ | refine Part.free ?_)) ?_)
  (refine WH.order [12] (by repeat (first | exact Part.nil | refine Part.cons (by repeat (first | exact Pick.here | apply Pick.there)) ?_ | refine Part.free ?_)) (by kernel_rfl) ?_; (repeat (first | (refine WT.k_move rfl ?_; first | refine WT.take rfl rfl (fun _ _ _ h => h) (Yl.move rfl) rfl (by kernel_rfl) (by kernel_rfl) ?_) | (refine WT.k_assign rfl ?_; first | refine WT.take rfl rfl (fun _ _ _ h => h) (Yl.assign rfl) rfl (by kernel_rfl) (by kernel_rfl) ?_) | (refine WT.k_unop rfl ?_; first | refine WT.take rfl rfl (fun _ _ _ h => h) (Yl.not rfl) rfl (by kernel_rfl) (by kernel_rfl) ?_))); refine WT.nil ?_)
  refine WH.done (by kernel_rfl) ?_
  (repeat (first | (refine WL.k_move ?_; first | refine WL.step (Yl.move rfl) rfl ?_) | (refine WL.k_assign ?_; first | refine WL.step (Yl.assign rfl) rfl ?_) | (refine WL.k_unop ?_; first | refine WL.step (Yl.not rfl) rfl ?_) | refine WC.seq ?_ | refine WC.region ?_ | refine WL.nil ?_ | refine WN.then_normal ?_ | refine WC.skip ?_ | refine WC.ret ?_ | refine WN.then_ret ?_))
  exact WN.ret1 rfl rfl ⟨b3, q.1, q.2, b2, M, c, hq, hM, rfl, rfl⟩ (by repeat (first | exact Part.nil | refine Part.cons (by repeat (first | exact Pick.here | apply Pick.there)) ?_ | refine Part.free ?_))
theorem bcopy_bad (v : Value) (w : World) (h : BadAt w v) : Calls Try.prog 42 #[v] w (Gives (Val (.pointer none)) w) := by
  refine enter (args := [v]) Try.func42 Try.ntmps42 rfl rfl ?_
  (repeat (first | (refine WL.k_move ?_; first | refine WL.step (Yl.move rfl) rfl ?_) | (refine WL.k_assign ?_; first | refine WL.step (Yl.assign rfl) rfl ?_) | (refine WL.k_call 50 ?_; first | refine WL.callV (g := 50) (v := .bool false) Try.call50 rfl (fun w s => valid_bad w (h.keep s.kept)) rfl ?_) | (refine WL.k_unop ?_; first | refine WL.step (Yl.not rfl) rfl ?_) | refine WC.seq ?_ | refine WC.region ?_ | refine WL.nil ?_ | refine WN.then_normal ?_ | refine WC.skip ?_ | refine WC.ret ?_ | refine WN.then_ret ?_))
  refine WC.cond_true rfl rfl ?_
  (repeat (first | (refine WL.k_move ?_; first | refine WL.step (Yl.move rfl) rfl ?_) | (refine WL.k_assign ?_; first | refine WL.step (Yl.assign rfl) rfl ?_) | (refine WL.k_unop ?_; first | refine WL.step (Yl.not rfl) rfl ?_) | refine WC.seq ?_ | refine WC.region ?_ | refine WL.nil ?_ | refine WN.then_normal ?_ | refine WC.skip ?_ | refine WC.ret ?_ | refine WN.then_ret ?_))
  exact WN.ret1 rfl rfl ⟨rfl, rfl⟩ .nil
/-- What Write does. -/
def writeF (n : Nat) (F : Nat → Option (List UInt8)) (s : Int) (x : List UInt8) : Nat → Option (List UInt8) := if bchk n s = 0 ∧ x.length = 128 then setF F s.toNat (some x) else F
def writeE (n : Nat) (s : Int) (x : List UInt8) : Nat := if bchk n s = 0 then (if x.length = 128 then 0 else 2) else 3
def BankV (bk : Nat) (da : Option Addr) (cap mb : Nat) (d : List (List UInt8)) (F : Nat → Option (List UInt8)) (e : Nat) : Value → List HA → Prop := fun u B => ∃ M c, MapIs d.length F M c ∧ u = .int .i64 (e : Int) ∧ B = bankItems bk da cap mb d M c
theorem bwrite_r (a : Option Addr) (n c2 : Nat) (x : List UInt8) (s : Int) (M : List (Nat × List UInt8 × Nat)) (c : Nat) (w : World) (hwf : BkWf d F) (hcap : d.length ≤ cap) (hM : MapIs d.length F M c) (hx : x.length = n)
    (st : St w ((bankItems bk da cap mb d M c).filterMap HA.foot) (bankItems bk da cap mb d M c) w) (hr : CellsOut w ((bankItems bk da cap mb d M c).filterMap HA.foot) a (bs x)) :
    Calls Try.prog 27 #[bptr bk, .int .i64 s, .slice a n c2] w (GivesS ((bankItems bk da cap mb d M c).filterMap HA.foot) (BankV bk da cap mb d (writeF d.length F s x) (writeE d.length s x)) w) := by
  refine enterS (args := [.pointer (some ⟨bk, 0, none⟩), _, _]) Try.func27 Try.ntmps27 rfl rfl st ?_
  have hbank : ∀ w', St w ((bankItems bk da cap mb d M c).filterMap HA.foot) (bankItems bk da cap mb d M c) w' → BankAt w' bk da cap mb d F := fun w' s' => BankAt.of hwf hcap hM (.head _) (.tail _ (.head _)) (.tail _ (.tail _ (.head _))) s'
  generalize hS : List.filterMap HA.foot (bankItems bk da cap mb d M c) = S at *
  unfold bankItems at *
  rcases bchk_cases d.length s with ⟨hc, hs⟩ | ⟨hc, k, rfl, hk⟩
  · rw [writeF, writeE, if_neg (by rw [hc]; simp), if_neg (by rw [hc]; decide)]
    (repeat (first | (refine WL.k_move ?_; first | refine WL.step (Yl.move rfl) rfl ?_) | (refine WL.k_assign ?_; first | refine WL.step (Yl.assign rfl) rfl ?_) | (refine WL.k_call 44 ?_; first | refine WL.callV (g := 44) (v := .int .i64 3) Try.call44 rfl (fun w s0 => by have := bcheck_c s w (hbank w s0); rwa [hc] at this) rfl ?_) | (refine WL.k_bin .neq ?_; first | refine WL.step (Yl.neqT rfl rfl (by decide)) rfl ?_ | refine WL.step (Yl.strNeq rfl rfl) rfl ?_ | refine WL.step (Yl.neq rfl rfl) rfl ?_) | (refine WL.k_bi .len ?_; first | refine WL.step (Yl.len (t := 30) Try.underlying30 rfl) rfl ?_) | refine WC.seq ?_ | refine WC.region ?_ | refine WL.nil ?_ | refine WN.then_normal ?_ | refine WC.block ?_ | refine WC.skip ?_ | refine WC.ret ?_ | refine WN.then_ret ?_ | refine WN.block_normal ?_ | refine WN.block_ret ?_ | refine WN.block_here ?_ | refine WN.block_past (by decide) ?_))
    refine WC.cond_true rfl rfl ?_
    (repeat (first | (refine WL.k_move ?_; first | refine WL.step (Yl.move rfl) rfl ?_) | (refine WL.k_assign ?_; first | refine WL.step (Yl.assign rfl) rfl ?_) | (refine WL.k_bi .len ?_; first | refine WL.step (Yl.len (t := 30) Try.underlying30 rfl) rfl ?_) | (refine WL.k_bin .neq ?_; first | refine WL.step (Yl.strNeq rfl rfl) rfl ?_ | refine WL.step (Yl.neq rfl rfl) rfl ?_) | refine WC.seq ?_ | refine WC.region ?_ | refine WL.nil ?_ | refine WN.then_normal ?_ | refine WC.block ?_ | refine WC.skip ?_ | refine WC.ret ?_ | refine WN.then_ret ?_ | refine WN.block_normal ?_ | refine WN.block_ret ?_ | refine WN.block_here ?_ | refine WN.block_past (by decide) ?_))
    exact WN.ret1S rfl rfl ⟨M, c, hM, rfl, rfl⟩ (by repeat (first | exact Part.nil | refine Part.cons (by repeat (first | exact Pick.here | apply Pick.there)) ?_ | refine Part.free ?_))
  · (repeat (first | (refine WL.k_move ?_; first | refine WL.step (Yl.move rfl) rfl ?_) | (refine WL.k_assign ?_; first | refine WL.step (Yl.assign rfl) rfl ?_) | (refine WL.k_call 44 ?_; first | refine WL.callV (g := 44) (v := .int .i64 0) Try.call44 rfl (fun w s0 => by have := bcheck_c (k : Int) w (hbank w s0); rwa [hc] at this) rfl ?_) | (refine WL.k_bin .neq ?_; first | refine WL.step (Yl.neqF rfl rfl (by decide)) rfl ?_ | refine WL.step (Yl.strNeq rfl rfl) rfl ?_ | refine WL.step (Yl.neq rfl rfl) rfl ?_) | (refine WL.k_bi .len ?_; first | refine WL.step (Yl.len (t := 30) Try.underlying30 rfl) rfl ?_) | refine WC.seq ?_ | refine WC.region ?_ | refine WL.nil ?_ | refine WN.then_normal ?_ | refine WC.block ?_ | refine WC.skip ?_ | refine WC.ret ?_ | refine WN.then_ret ?_ | refine WN.block_normal ?_ | refine WN.block_ret ?_ | refine WN.block_here ?_ | refine WN.block_past (by decide) ?_))
    refine WC.cond_false rfl rfl ?_
    by_cases hn : n = 128
    · subst hn
      rw [writeF, writeE, if_pos ⟨hc, hx⟩, if_pos hc, if_pos hx, Int.toNat_natCast]
      (repeat (first | (refine WL.k_move ?_; first | refine WL.step (Yl.move rfl) rfl ?_) | (refine WL.k_assign ?_; first | refine WL.step (Yl.assign rfl) rfl ?_) | (refine WL.k_bin .neq ?_; first | refine WL.step (Yl.neqF rfl rfl rfl) rfl ?_ | refine WL.step (Yl.strNeq rfl rfl) rfl ?_ | refine WL.step (Yl.neq rfl rfl) rfl ?_) | (refine WL.k_bi .len ?_; first | refine WL.step (Yl.len (t := 30) Try.underlying30 rfl) rfl ?_) | refine WC.seq ?_ | refine WC.region ?_ | refine WL.nil ?_ | refine WN.then_normal ?_ | refine WC.block ?_ | refine WC.skip ?_ | refine WC.ret ?_ | refine WN.then_ret ?_ | refine WN.block_normal ?_ | refine WN.block_ret ?_ | refine WN.block_here ?_ | refine WN.block_past (by decide) ?_))
      refine WC.cond_false rfl rfl ?_
      (repeat (first | (refine WL.k_move ?_; first | refine WL.step (Yl.move rfl) rfl ?_) | (refine WL.k_assign ?_; first | refine WL.step (Yl.assign rfl) rfl ?_) | (refine WL.k_bi .len ?_; first | refine WL.step (Yl.len (t := 30) Try.underlying30 rfl) rfl ?_) | (refine WL.k_bin .neq ?_; first | refine WL.step (Yl.strNeq rfl rfl) rfl ?_ | refine WL.step (Yl.neq rfl rfl) rfl ?_) | refine WC.seq ?_ | refine WC.region ?_ | refine WL.nil ?_ | refine WN.then_normal ?_ | refine WC.block ?_ | refine WC.skip ?_ | refine WC.ret ?_ | refine WN.then_ret ?_ | refine WN.block_normal ?_ | refine WN.block_ret ?_ | refine WN.block_here ?_ | refine WN.block_past (by decide) ?_))
      refine WC.regionH [.blk bk (.cells #[.slice da d.length cap, .map (some mb)] 80 (0, 0))] (by kernel_rfl) ?_
      (refine WH.order [0, 1, 2, 3, 4, 5, 6, 7] (by repeat (first | exact Part.nil | refine Part.cons (by repeat (first | exact Pick.here | apply Pick.there)) ?_ | refine Part.free ?_)) (by kernel_rfl) ?_; (repeat (first | (refine WT.k_move rfl ?_; first | refine WT.take rfl rfl (fun _ _ _ h => h) (Yl.move rfl) rfl (by kernel_rfl) (by kernel_rfl) ?_) | (refine WT.k_assign rfl ?_; first | refine WT.take rfl rfl (fun _ _ _ h => h) (Yl.assign rfl) rfl (by kernel_rfl) (by kernel_rfl) ?_) | (refine WT.k_load rfl ?_; first | refine WT.take rfl rfl (fun _ _ _ h => h) (Yl.loadBlk (T := 78) Try.isAgg78 rfl (by repeat (first | exact .head _ | refine .tail _ ?_)) (by rfl)) rfl (by kernel_rfl) (by kernel_rfl) ?_ | refine WT.take rfl rfl (fun _ _ _ h => h) (Yl.loadArr (T := 76) (vs := bs x) Try.isAgg76 Try.sizeOf76 rfl (Rd.out hr) (by rw [bs_length]; exact hx) (bs_ne (i := 0) (by omega))) rfl (by kernel_rfl) (by kernel_rfl) ?_) | (refine WT.k_fld rfl ?_; first | refine WT.take rfl rfl (fun _ _ _ h => h) (Yl.fld0 (t := 80) Try.underlying80 fl80 rfl rfl) rfl (by kernel_rfl) (by kernel_rfl) ?_) | (refine WT.k_nilc rfl ?_; first | refine WT.take rfl rfl (fun _ _ _ h => h) (Yl.nilCheck rfl) rfl (by kernel_rfl) (by kernel_rfl) ?_) | (refine WT.k_s2a rfl ?_; first | refine WT.take rfl rfl (fun _ _ _ h => h) (Yl.s2a (t := 76) Try.underlying76 rfl (Nat.le_refl _)) rfl (by kernel_rfl) (by kernel_rfl) ?_) | (refine WT.k_bi .len rfl ?_; first | refine WT.take rfl rfl (fun _ _ _ h => h) (Yl.len (t := 30) Try.underlying30 rfl) rfl (by kernel_rfl) (by kernel_rfl) ?_) | (refine WT.k_bin .neq rfl ?_; first | refine WT.take rfl rfl (fun _ _ _ h => h) (Yl.strNeq rfl rfl) rfl (by kernel_rfl) (by kernel_rfl) ?_ | refine WT.take rfl rfl (fun _ _ _ h => h) (Yl.neq rfl rfl) rfl (by kernel_rfl) (by kernel_rfl) ?_))); refine WT.nil ?_)
      refine WH.only (i := 8) (by kernel_rfl) rfl ?_
      refine WL.mapUpdate (k := k) (enc := encB) (u := x) Try.underlying78 Try.underlying3 rfl rfl rfl hM hk (by repeat (first | exact Pick.here | apply Pick.there)) fun M' c' hM' => ?_
      refine WL.nil (WN.nextH (by repeat (first | exact Part.nil | refine Part.cons (by repeat (first | exact Pick.here | apply Pick.there)) ?_ | refine Part.free ?_)) ?_)
      refine WH.done (by kernel_rfl) ?_
      (repeat (first | (refine WL.k_move ?_; first | refine WL.step (Yl.move rfl) rfl ?_) | (refine WL.k_assign ?_; first | refine WL.step (Yl.assign rfl) rfl ?_) | (refine WL.k_bi .len ?_; first | refine WL.step (Yl.len (t := 30) Try.underlying30 rfl) rfl ?_) | (refine WL.k_bin .neq ?_; first | refine WL.step (Yl.strNeq rfl rfl) rfl ?_ | refine WL.step (Yl.neq rfl rfl) rfl ?_) | refine WC.seq ?_ | refine WC.region ?_ | refine WL.nil ?_ | refine WN.then_normal ?_ | refine WC.block ?_ | refine WC.skip ?_ | refine WC.ret ?_ | refine WN.then_ret ?_ | refine WN.block_normal ?_ | refine WN.block_ret ?_ | refine WN.block_here ?_ | refine WN.block_past (by decide) ?_))
      exact WN.ret1S rfl rfl ⟨M', c', hM', rfl, rfl⟩ (by repeat (first | exact Part.nil | refine Part.cons (by repeat (first | exact Pick.here | apply Pick.there)) ?_ | refine Part.free ?_))
    · rw [writeF, writeE, if_neg (by omega), if_pos hc, if_neg (by omega)]
      (repeat (first | (refine WL.k_move ?_; first | refine WL.step (Yl.move rfl) rfl ?_) | (refine WL.k_assign ?_; first | refine WL.step (Yl.assign rfl) rfl ?_) | (refine WL.k_bin .neq ?_; first | refine WL.step (Yl.neqT rfl rfl (by omega)) rfl ?_ | refine WL.step (Yl.strNeq rfl rfl) rfl ?_ | refine WL.step (Yl.neq rfl rfl) rfl ?_) | (refine WL.k_bi .len ?_; first | refine WL.step (Yl.len (t := 30) Try.underlying30 rfl) rfl ?_) | refine WC.seq ?_ | refine WC.region ?_ | refine WL.nil ?_ | refine WN.then_normal ?_ | refine WC.block ?_ | refine WC.skip ?_ | refine WC.ret ?_ | refine WN.then_ret ?_ | refine WN.block_normal ?_ | refine WN.block_ret ?_ | refine WN.block_here ?_ | refine WN.block_past (by decide) ?_))
      refine WC.cond_true rfl rfl ?_
      (repeat (first | (refine WL.k_move ?_; first | refine WL.step (Yl.move rfl) rfl ?_) | (refine WL.k_assign ?_; first | refine WL.step (Yl.assign rfl) rfl ?_) | (refine WL.k_bi .len ?_; first | refine WL.step (Yl.len (t := 30) Try.underlying30 rfl) rfl ?_) | (refine WL.k_bin .neq ?_; first | refine WL.step (Yl.strNeq rfl rfl) rfl ?_ | refine WL.step (Yl.neq rfl rfl) rfl ?_) | refine WC.seq ?_ | refine WC.region ?_ | refine WL.nil ?_ | refine WN.then_normal ?_ | refine WC.block ?_ | refine WC.skip ?_ | refine WC.ret ?_ | refine WN.then_ret ?_ | refine WN.block_normal ?_ | refine WN.block_ret ?_ | refine WN.block_here ?_ | refine WN.block_past (by decide) ?_))
      exact WN.ret1S rfl rfl ⟨M, c, hM, rfl, rfl⟩ (by repeat (first | exact Part.nil | refine Part.cons (by repeat (first | exact Pick.here | apply Pick.there)) ?_ | refine Part.free ?_))
theorem bwrite_bad (a : Option Addr) (n c2 : Nat) (s : Int) (v : Value) (w : World) (h : BadAt w v) : Calls Try.prog 27 #[v, .int .i64 s, .slice a n c2] w (Gives (Val (.int .i64 1)) w) := by
  refine enter (args := [v, _, _]) Try.func27 Try.ntmps27 rfl rfl ?_
  (repeat (first | (refine WL.k_move ?_; first | refine WL.step (Yl.move rfl) rfl ?_) | (refine WL.k_assign ?_; first | refine WL.step (Yl.assign rfl) rfl ?_) | (refine WL.k_call 44 ?_; first | refine WL.callV (g := 44) (v := .int .i64 1) Try.call44 rfl (fun w s0 => bcheck_bad s v w (h.keep s0.kept)) rfl ?_) | (refine WL.k_bin .neq ?_; first | refine WL.step (Yl.neqT rfl rfl (by decide)) rfl ?_ | refine WL.step (Yl.strNeq rfl rfl) rfl ?_ | refine WL.step (Yl.neq rfl rfl) rfl ?_) | (refine WL.k_bi .len ?_; first | refine WL.step (Yl.len (t := 30) Try.underlying30 rfl) rfl ?_) | refine WC.seq ?_ | refine WC.region ?_ | refine WL.nil ?_ | refine WN.then_normal ?_ | refine WC.block ?_ | refine WC.skip ?_ | refine WC.ret ?_ | refine WN.then_ret ?_ | refine WN.block_normal ?_ | refine WN.block_ret ?_ | refine WN.block_here ?_ | refine WN.block_past (by decide) ?_))
  refine WC.cond_true rfl rfl ?_
  (repeat (first | (refine WL.k_move ?_; first | refine WL.step (Yl.move rfl) rfl ?_) | (refine WL.k_assign ?_; first | refine WL.step (Yl.assign rfl) rfl ?_) | (refine WL.k_bi .len ?_; first | refine WL.step (Yl.len (t := 30) Try.underlying30 rfl) rfl ?_) | (refine WL.k_bin .neq ?_; first | refine WL.step (Yl.strNeq rfl rfl) rfl ?_ | refine WL.step (Yl.neq rfl rfl) rfl ?_) | refine WC.seq ?_ | refine WC.region ?_ | refine WL.nil ?_ | refine WN.then_normal ?_ | refine WC.block ?_ | refine WC.skip ?_ | refine WC.ret ?_ | refine WN.then_ret ?_ | refine WN.block_normal ?_ | refine WN.block_ret ?_ | refine WN.block_here ?_ | refine WN.block_past (by decide) ?_))
  exact WN.ret1 rfl rfl ⟨rfl, rfl⟩ .nil
end
end Go.Proofs.Ytmmpngigaodcgaa
