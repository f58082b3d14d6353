/- What bytes are decoded to, by the reference. -/
import Derived.Test.YtbfhdggfdhlkfaaNod7
import Derived.Test.YtbfhdggfdhlkfaaNod8
namespace Go.Proofs.Ytbfhdggfdhlkfaa
set_option linter.unusedVariables false
set_option linter.unusedSimpArgs false
open Go Go.RowKit
set_option maxRecDepth 100000
set_option maxHeartbeats 8000000
theorem buildRZ (w : World) : (Instr.build 32 [].toArray).run Try.prog w = .ok (.agg #[.bool false, .slice none 0 0, .slice none 0 0, .slice none 0 0]) w := by
  simp [Instr.build, Try.zeroValue32, run_underlying Try.underlying32, Value.cells, Instr.fill]
theorem buildRL (v : Bool) (w : World) : (Instr.build 32 [(0, Value.bool v)].toArray).run Try.prog w = .ok (.agg #[.bool v, .slice none 0 0, .slice none 0 0, .slice none 0 0]) w := by
  simp [Instr.build, Try.zeroValue32, run_underlying Try.underlying32, Try.sizeOf4, Value.cells, Instr.fill]
theorem buildRK (n : Nat) (w : World) : (Instr.build 45 [(0, Value.int .u64 (n : Int))].toArray).run Try.prog w = .ok (.agg (.int .u64 (n : Int) :: bs (List.replicate 32 0)).toArray) w := by
  simp [Instr.build, Try.zeroValue45, run_underlying Try.underlying45, Try.sizeOf39, Value.cells, Instr.fill]
  rfl
/-- Bytes that are filled in one by one. -/
def part (d : List UInt8) (m j : Nat) : List UInt8 := d.take j ++ List.replicate (m - j) 0
theorem part_set {d : List UInt8} {m j : Nat} (hd : d.length = m) (hj : j < m) : (part d m j).set j (d.getD j 0) = part d m (j + 1) := by
  have h1 : (d.take j).length = j := by rw [List.length_take]; omega
  have e : m - j = (m - (j + 1)) + 1 := by omega
  rw [part, part, e, List.replicate_succ, List.set_append_right _ _ (by omega), h1, Nat.sub_self, List.set_cons_zero, take_snoc _ 0 (by omega), List.append_assoc]
  rfl
theorem part_zero (d : List UInt8) (m : Nat) : part d m 0 = List.replicate m 0 := by simp [part]
theorem part_full {d : List UInt8} {m : Nat} (hd : d.length = m) : part d m m = d := by simp [part, ← hd]
theorem part_len {d : List UInt8} {m j : Nat} (hd : d.length = m) (hj : j ≤ m) : (part d m j).length = m := by simp [part]; omega
theorem getD_cut {l : List UInt8} {o m j : Nat} (hj : j < m) : ((l.drop o).take m).getD j 0 = l.getD (o + j) 0 := by
  simp only [List.getD_eq_getElem?_getD, List.getElem?_take, if_pos hj, List.getElem?_drop]
attribute [local irreducible] WL WC WN Yl WH WQ WT WE WU Nod.page Big.be
theorem rdecode_c (a : Option Addr) (n cap : Nat) (l : List UInt8) (w : World) (hl : l.length = n) (hc : n ≤ cap) (hr : CellsAt w a (bs l)) :
    Calls Try.prog 24 #[.slice a n cap] w (Gives (NdNew 45 78 (Nod.dec l) fun v => .tuple #[v, .int .i64 ((Nod.decE l : Nat) : Int)]) w) := by
  refine enter (args := [_]) Try.func24 Try.ntmps24 rfl rfl ?_
  (repeat (first | refine WC.seq ?_ | refine WC.region ?_))
  refine WL.allocA Try.zeroValue32 rfl fun b2 => ?_
  by_cases h1 : n = 512
  · subst h1
    have hb0 := bs_get (l := l) (i := 0) (by omega)
    have hne := bs_ne (l := l) (i := 0) (by omega)
    have hlt := byte_lt (l.getD 0 0)
    by_cases h2 : (l.getD 0 0).toNat ≤ 1
    · have hcw : Nod.count l < 65536 := by
        have h1 := Big.val_lt ((l.drop 1).take 2)
        have h2 : 256 ^ ((l.drop 1).take 2).length ≤ 256 ^ 2 := Nat.pow_le_pow_right (by decide) (by rw [List.length_take]; omega)
        show Big.val 0 _ < _
        omega
      have hcutR : ∀ {X : Cx} {A : List HA} (lo m : Nat), Rd X A a (bs l) → Rd X A (cutA a lo cap 1) (bs ((l.drop lo).take m)) := fun lo m h => by
        have := Rd.cut (lo := lo) (cap := cap) (k := 1) (m := m) h (by rw [bs_length]; omega)
        rwa [Nat.mul_one, ← bs_drop, ← bs_take] at this
      (repeat (first | refine WL.want rfl rfl rfl ?_ | refine WL.step (Yl.move rfl) rfl ?_ | refine WL.step (Yl.assign rfl) rfl ?_ | refine WL.step (Yl.load (T := 5) Try.isAgg5 rfl (.old hr) hb0) rfl ?_ | refine WL.step (Yl.pick_f rfl rfl rfl) rfl ?_ | refine WL.step (Yl.len (t := 34) Try.underlying34 rfl) rfl ?_ | (refine WL.k_bin .neq ?_; refine WL.step (Yl.neqF rfl rfl (by omega)) rfl ?_) | (refine WL.k_idxa ?_; refine WL.step (Yl.indexAddr1 (t := 34) (j := 0) Try.underlying34 Try.sizeOf5 rfl rfl (.old hr) hne (by omega)) rfl ?_) | (refine WL.k_bin .gtr ?_; refine WL.step (Yl.gtrF rfl rfl (by omega)) rfl ?_) | refine WC.seq ?_ | refine WC.region ?_ | refine WL.nil ?_ | refine WN.then_normal ?_))
      refine WC.cond_false rfl rfl ?_
      by_cases h3 : (l.getD 0 0).toNat = 0
      · have hmo : Nod.most (decide ((l.getD 0 0).toNat = 0)) = 8 := by rw [decide_eq_true h3]; rfl
        (repeat (first | refine WL.step (Yl.move rfl) rfl ?_ | refine WL.step (Yl.load (T := 5) Try.isAgg5 rfl (.old hr) hb0) rfl ?_ | (refine WL.k_idxa ?_; refine WL.step (Yl.indexAddr1 (t := 34) (j := 0) Try.underlying34 Try.sizeOf5 rfl rfl (.old hr) hne (by omega)) rfl ?_) | (refine WL.k_bin .eql ?_; refine WL.step (Yl.eqlT rfl rfl (by omega)) rfl ?_) | refine WL.step (Yl.build (ps := [(0, .tmp 29)]) rfl (buildRL true)) rfl ?_ | refine WC.seq ?_ | refine WC.region ?_ | refine WN.then_normal ?_ | refine WC.skip ?_))
        refine WL.allocA Try.zeroValue32 rfl fun b4 => ?_
        refine WL.storeWhole (T := 32) (k := 4) Try.sizeOf32 rfl rfl rfl .here rfl rfl ?_
        by_cases h4 : Nod.count l ≤ 8
        · (repeat (first | refine WL.want rfl rfl rfl ?_ | refine WL.step (Yl.move rfl) rfl ?_ | refine WL.step (Yl.assign rfl) rfl ?_ | (refine WL.k_load ?_; refine WL.step (Yl.loadBlk (T := 4) Try.isAgg4 rfl (by repeat (first | exact .head _ | refine .tail _ ?_)) (by rfl)) rfl ?_) | refine WL.step (Yl.fld0 (t := 32) Try.underlying32 fl32 rfl rfl) rfl ?_ | (refine WL.k_pick ?_; first | refine WL.step (Yl.pick_t rfl rfl rfl) rfl ?_ | refine WL.step (Yl.pick_f rfl rfl rfl) rfl ?_) | (refine WL.k_slice ?_; refine WL.step (Yl.cut (t := 34) (lo := 1) (hi := 3) Try.underlying34 Try.sizeOf5 rfl rfl rfl (by decide) (by omega)) rfl ?_) | (refine WL.k_call 47 ?_; refine WL.callV (g := 47) (v := .int .u64 ((Nod.count l : Nat) : Int)) Try.call47 rfl (fun w s => rnumber_c _ 2 _ ((l.drop 1).take 2) w (by rw [List.length_take, List.length_drop]; omega) (by decide) (hcutR 1 2 (Rd.old hr) w s)) rfl ?_) | (refine WL.k_conv ?_; refine WL.step (Yl.conv64 (s := 39) (t := 3) Try.underlying39 Try.underlying3 rfl (by omega)) rfl ?_) | (refine WL.k_bin .gtr ?_; refine WL.step (Yl.gtrF rfl rfl (by omega)) rfl ?_) | refine WC.seq ?_ | refine WC.region ?_ | refine WL.nil ?_ | refine WN.then_normal ?_))
          refine WC.cond_false rfl rfl ?_
          generalize hC : Nod.count l = C at *
          (repeat (first | refine WL.step (Yl.assign rfl) rfl ?_ | refine WC.seq ?_ | refine WC.region ?_ | refine WL.nil ?_ | refine WN.then_normal ?_ | refine WC.block ?_ | refine WC.skip ?_))
          refine WC.joinB (α := Option Addr × Nat) (fun g => [(0, .slice a 512 cap), (2, .pointer (some ⟨b2, 0, none⟩)), (4, .pointer (some ⟨b4, 0, none⟩)), (5, .int .i64 (C : Int)), (6, .int .i64 ((3 + C * 40 : Nat) : Int))])
            (fun g => [.row g.1 g.2 45 33 (kcells (Nod.readKeys l 3 C)), .blk b4 (.cells #[.bool true, .slice g.1 C g.2, .slice none 0 0, .slice none 0 0] 32 (0, 0)), .blk b2 (.cells #[.bool false, .slice none 0 0, .slice none 0 0, .slice none 0 0] 32 (0, 0))]) (fun g => C ≤ g.2) ?_ ?_
          · refine WC.loop (α := Nat × Option Addr × Nat) (fun g => [(0, .slice a 512 cap), (2, .pointer (some ⟨b2, 0, none⟩)), (4, .pointer (some ⟨b4, 0, none⟩)), (5, .int .i64 (C : Int)), (6, .int .i64 ((3 + g.1 * 40 : Nat) : Int)), (7, .int .i64 (g.1 : Int))])
              (fun g => [.row g.2.1 g.2.2 45 33 (kcells (Nod.readKeys l 3 g.1)), .blk b4 (.cells #[.bool true, .slice g.2.1 g.1 g.2.2, .slice none 0 0, .slice none 0 0] 32 (0, 0)), .blk b2 (.cells #[.bool false, .slice none 0 0, .slice none 0 0, .slice none 0 0] 32 (0, 0))]) (fun g => g.1 ≤ C ∧ g.1 ≤ g.2.2) (fun g => C - g.1) (0, none, 0) (by repeat (first | exact Sub.nil | refine Sub.cons rfl rfl ?_)) (.free (by repeat (first | exact Part.nil | refine Part.cons (by repeat (first | exact Pick.here | apply Pick.there)) ?_ | refine Part.free ?_))) ⟨by simp, by simp⟩ ?_
            intro ⟨i, ka, kc⟩ ⟨hi, hk⟩
            simp only at hi hk ⊢
            (repeat (first | refine WL.step (Yl.move rfl) rfl ?_ | refine WL.step (Yl.lss rfl rfl) rfl ?_ | refine WC.seq ?_ | refine WC.region ?_ | refine WL.nil ?_ | refine WN.then_normal ?_))
            refine WC.ite rfl (fun h5 => ?_) (fun h5 => ?_)
            · have hkw := readKey_wf (l := l) (at_ := 3 + i * 40) (by omega)
              have hks := kv_size hkw
              (repeat (first | refine WL.step (Yl.move rfl) rfl ?_ | (refine WL.k_slice ?_; refine WL.step (Yl.cut (t := 34) Try.underlying34 Try.sizeOf5 rfl rfl rfl (by omega) (by omega)) rfl ?_) | (refine WL.k_call 47 ?_; refine WL.callV (g := 47) Try.call47 rfl (fun w s => rnumber_c _ (3 + i * 40 + 8 - (3 + i * 40)) _ ((l.drop (3 + i * 40)).take 8) w (by rw [List.length_take, List.length_drop]; omega) (by omega) (hcutR (3 + i * 40) 8 (Rd.old hr) w s)) rfl ?_) | refine WL.step (Yl.build (ps := [(0, .tmp 56)]) rfl (buildRK _)) rfl ?_ | (refine WL.k_bin .add ?_; refine WL.step (Yl.add64C rfl (by omega)) rfl ?_) | refine WC.seq ?_ | refine WC.region ?_ | refine WN.then_normal ?_ | refine WC.block ?_ | refine WC.skip ?_))
              refine WL.allocA zeroRKey rfl fun b8 => ?_
              refine WL.storeWhole (T := 45) (k := 33) Try.sizeOf45 rfl rfl (by rfl) .here rfl rfl ?_
              have hdl : (Nod.readKey l (3 + i * 40)).d.length = 32 := hkw.2
              have hdg : ∀ j, j < 32 → (Nod.readKey l (3 + i * 40)).d.getD j 0 = l.getD (3 + i * 40 + 8 + j) 0 := fun j hj => getD_cut hj
              have hkn : kv (Nod.readKey l (3 + i * 40)) = .int .u64 ((Big.val 0 ((l.drop (3 + i * 40)).take 8) : Nat) : Int) :: bs (Nod.readKey l (3 + i * 40)).d := rfl
              have hKsucc := readKeys_succ l 3 i
              generalize Nod.readKey l (3 + i * 40) = K at *
              generalize Big.val 0 ((l.drop (3 + i * 40)).take 8) = KN at *
              (repeat (first | refine WL.step (Yl.assign rfl) rfl ?_ | refine WC.seq ?_ | refine WC.region ?_ | refine WL.nil ?_ | refine WN.then_normal ?_ | refine WC.block ?_))
              refine WC.joinB (α := Unit) (fun _ => [(0, .slice a 512 cap), (2, .pointer (some ⟨b2, 0, none⟩)), (4, .pointer (some ⟨b4, 0, none⟩)), (5, .int .i64 (C : Int)), (6, .int .i64 ((3 + i * 40 : Nat) : Int)), (7, .int .i64 (i : Int)), (8, .pointer (some ⟨b8, 0, none⟩))])
                (fun _ => [.blk b8 (.cells (kv K).toArray 45 (0, 0)), .row ka kc 45 33 (kcells (Nod.readKeys l 3 i)), .blk b4 (.cells #[.bool true, .slice ka i kc, .slice none 0 0, .slice none 0 0] 32 (0, 0)), .blk b2 (.cells #[.bool false, .slice none 0 0, .slice none 0 0, .slice none 0 0] 32 (0, 0))]) (fun _ => True) ?_ (fun _ _ => ?_)
              · refine WC.loop (α := Nat) (fun j => [(0, .slice a 512 cap), (2, .pointer (some ⟨b2, 0, none⟩)), (4, .pointer (some ⟨b4, 0, none⟩)), (5, .int .i64 (C : Int)), (6, .int .i64 ((3 + i * 40 : Nat) : Int)), (7, .int .i64 (i : Int)), (8, .pointer (some ⟨b8, 0, none⟩)), (9, .int .i64 (j : Int))])
                  (fun j => [.blk b8 (.cells (.int .u64 (KN : Int) :: bs (part K.d 32 j)).toArray 45 (0, 0)), .row ka kc 45 33 (kcells (Nod.readKeys l 3 i)), .blk b4 (.cells #[.bool true, .slice ka i kc, .slice none 0 0, .slice none 0 0] 32 (0, 0)), .blk b2 (.cells #[.bool false, .slice none 0 0, .slice none 0 0, .slice none 0 0] 32 (0, 0))]) (fun j => j ≤ 32) (fun j => 32 - j) 0 (by repeat (first | exact Sub.nil | refine Sub.cons rfl rfl ?_)) (by rw [part_zero]; exact (by repeat (first | exact Part.nil | refine Part.cons (by repeat (first | exact Pick.here | apply Pick.there)) ?_ | refine Part.free ?_))) (by decide) ?_
                intro j hj
                (repeat (first | refine WL.step (Yl.move rfl) rfl ?_ | refine WL.step (Yl.lss rfl rfl) rfl ?_ | refine WC.seq ?_ | refine WC.region ?_ | refine WL.nil ?_ | refine WN.then_normal ?_))
                refine WC.ite rfl (fun h6 => ?_) (fun h6 => ?_)
                · have hj6 : j < 32 := by omega
                  have hin : 3 + i * 40 + 8 + j < l.length := by omega
                  (repeat (first | refine WL.step (Yl.move rfl) rfl ?_ | refine WL.step (Yl.load (T := 5) Try.isAgg5 rfl (.old hr) (bs_get hin)) rfl ?_ | refine WL.step (Yl.fldN0 rkD rfl) rfl ?_ | (refine WL.k_idxa ?_; first | refine WL.step (Yl.indexAddr1 (t := 34) Try.underlying34 Try.sizeOf5 rfl rfl (.old hr) hne (by omega)) rfl ?_ | refine WL.step (Yl.indexArr (t := 40) Try.underlying40 Try.sizeOf5 rfl rfl hj6) rfl ?_) | (refine WL.k_bin .add ?_; first | refine WL.step (Yl.add64C rfl (by omega)) rfl ?_ | refine WL.step (Yl.add64N rfl rfl (by omega)) rfl ?_) | refine WC.seq ?_ | refine WC.region ?_ | refine WN.then_normal ?_ | refine WC.block ?_ | refine WC.skip ?_))
                  rw [Nat.mul_one]
                  refine WL.store1 (T := 5) Try.sizeOf5 rfl rfl rfl .here (by simp only [List.size_toArray, List.length_cons, bs_length, part_len hdl hj]; omega) ?_
                  rw [show ((Value.int .u64 (KN : Int) :: bs (part K.d 32 j)).toArray.toList.set (1 + j) (bv (l.getD (3 + i * 40 + 8 + j) 0))) = Value.int .u64 (KN : Int) :: bs (part K.d 32 (j + 1)) by rw [List.toList_toArray, Nat.add_comm 1 j, List.set_cons_succ, ← bs_set, ← hdg j hj6, part_set hdl hj6]]
                  (repeat (first | refine WL.step (Yl.move rfl) rfl ?_ | refine WL.step (Yl.assign rfl) rfl ?_ | (refine WL.k_bin .add ?_; refine WL.step (Yl.add64C rfl (by omega)) rfl ?_) | refine WC.region ?_ | refine WL.nil ?_ | refine WN.then_normal ?_ | refine WN.block_normal ?_))
                  exact WN.next (j + 1) (by omega) (by omega) (by repeat (first | exact Sub.nil | refine Sub.cons rfl rfl ?_)) (by repeat (first | exact Part.nil | refine Part.cons (by repeat (first | exact Pick.here | apply Pick.there)) ?_ | refine Part.free ?_))
                · obtain rfl : j = 32 := by omega
                  rw [part_full hdl, ← hkn]
                  (repeat (first | refine WC.exit ?_ | refine WN.then_exit ?_ | refine WN.block_here ?_))
                  exact WN.join () trivial (by repeat (first | exact Sub.nil | refine Sub.cons rfl rfl ?_)) (by repeat (first | exact Part.nil | refine Part.cons (by repeat (first | exact Pick.here | apply Pick.there)) ?_ | refine Part.free ?_))
              · (repeat (first | (refine WL.k_load ?_; first | refine WL.step (Yl.loadBlk (T := 29) Try.isAgg29 rfl (by repeat (first | exact .head _ | refine .tail _ ?_)) (by rfl)) rfl ?_ | refine WL.step (Yl.loadAll (T := 45) (T' := 45) (cs := (kv K).toArray) Try.isAgg45 Try.sizeOf45 rfl (by repeat (first | exact .head _ | refine .tail _ ?_)) hks) rfl ?_) | refine WL.step (Yl.fld0 (t := 32) Try.underlying32 fl32 rfl rfl) rfl ?_ | refine WC.seq ?_ | refine WC.region ?_))
                refine WL.lit (t := 29) Try.underlying29 elemRKey rfl rfl rfl (by simp [Value.cells, kv_len hkw]) rfl fun b9 => ?_
                rw [flatK]
                refine WL.appendRow (t := 29) (n := i) (m := 1) (olds := kcells (Nod.readKeys l 3 i)) Try.underlying29 elemRKey rfl rfl (by repeat (first | exact Pick.here | apply Pick.there)) (by rw [kcells_len (Nod.readKeys_wf (by omega)), Nod.readKeys_len]) hk (Rd.row (.head _)) (by rw [kv_len hkw]) (kv_one _) (by omega) (by simp only [maxLen]; omega) rfl fun q2 hq2 => ?_
                rw [← kcells_snoc, ← hKsucc]
                (repeat (first | refine WL.step (Yl.fld0 (t := 32) Try.underlying32 fl32 rfl rfl) rfl ?_))
                refine WL.storeAt (T := 29) Try.sizeOf29 rfl rfl rfl (by repeat (first | exact Pick.here | apply Pick.there)) rfl ?_
                (repeat (first | refine WL.step (Yl.move rfl) rfl ?_ | refine WL.step (Yl.assign rfl) rfl ?_ | (refine WL.k_bin .add ?_; refine WL.step (Yl.add64C rfl (by omega)) rfl ?_) | refine WC.region ?_ | refine WL.nil ?_ | refine WN.then_normal ?_ | refine WN.block_normal ?_))
                exact WN.next (i + 1, q2) ⟨by simp only; omega, hq2⟩ (by simp only; omega) (.cons rfl rfl (.cons rfl rfl (.cons rfl rfl (.cons rfl rfl (.cons rfl (by show Value.int _ _ = Value.int _ _; congr 1; simp only; omega) (.cons rfl rfl .nil)))))) (by repeat (first | exact Part.nil | refine Part.cons (by repeat (first | exact Pick.here | apply Pick.there)) ?_ | refine Part.free ?_))
            · obtain rfl : i = C := by omega
              (repeat (first | refine WC.exit ?_ | refine WN.then_exit ?_ | refine WN.block_here ?_))
              exact WN.join (ka, kc) hk (by repeat (first | exact Sub.nil | refine Sub.cons rfl rfl ?_)) (by repeat (first | exact Part.nil | refine Part.cons (by repeat (first | exact Pick.here | apply Pick.there)) ?_ | refine Part.free ?_))
          · intro ⟨ka, kc⟩ hkc
            simp only at hkc ⊢
            (repeat (first | refine WL.step (Yl.assign rfl) rfl ?_ | refine WC.seq ?_ | refine WC.region ?_ | refine WL.nil ?_ | refine WN.then_normal ?_ | refine WC.block ?_))
            refine WC.joinB (α := Option Addr × Nat) (fun g => [(0, .slice a 512 cap), (2, .pointer (some ⟨b2, 0, none⟩)), (4, .pointer (some ⟨b4, 0, none⟩)), (5, .int .i64 (C : Int))])
              (fun g => [.row g.1 g.2 78 20 (vcells (Nod.readVals l (3 + C * 40) C)), .row ka kc 45 33 (kcells (Nod.readKeys l 3 C)), .blk b4 (.cells #[.bool true, .slice ka C kc, .slice g.1 C g.2, .slice none 0 0] 32 (0, 0)), .blk b2 (.cells #[.bool false, .slice none 0 0, .slice none 0 0, .slice none 0 0] 32 (0, 0))]) (fun g => C ≤ g.2) ?_ ?_
            · refine WC.loop (α := Nat × Option Addr × Nat) (fun g => [(0, .slice a 512 cap), (2, .pointer (some ⟨b2, 0, none⟩)), (4, .pointer (some ⟨b4, 0, none⟩)), (5, .int .i64 (C : Int)), (6, .int .i64 ((3 + C * 40 + g.1 * 20 : Nat) : Int)), (10, .int .i64 (g.1 : Int))])
                (fun g => [.row g.2.1 g.2.2 78 20 (vcells (Nod.readVals l (3 + C * 40) g.1)), .row ka kc 45 33 (kcells (Nod.readKeys l 3 C)), .blk b4 (.cells #[.bool true, .slice ka C kc, .slice g.2.1 g.1 g.2.2, .slice none 0 0] 32 (0, 0)), .blk b2 (.cells #[.bool false, .slice none 0 0, .slice none 0 0, .slice none 0 0] 32 (0, 0))]) (fun g => g.1 ≤ C ∧ g.1 ≤ g.2.2) (fun g => C - g.1) (0, none, 0) (by repeat (first | exact Sub.nil | refine Sub.cons rfl rfl ?_)) (.free (by repeat (first | exact Part.nil | refine Part.cons (by repeat (first | exact Pick.here | apply Pick.there)) ?_ | refine Part.free ?_))) ⟨by simp, by simp⟩ ?_
              intro ⟨i, ya, yc⟩ ⟨hi, hy⟩
              simp only at hi hy ⊢
              by_cases h5 : i < C
              · have hil : 3 + C * 40 + i * 20 + 20 ≤ l.length := by omega
                (repeat (first | refine WL.want rfl rfl rfl ?_ | refine WL.step (Yl.move rfl) rfl ?_ | (refine WL.k_load ?_; refine WL.step (Yl.loadBlk (T := 4) Try.isAgg4 rfl (by repeat (first | exact .head _ | refine .tail _ ?_)) (by rfl)) rfl ?_) | refine WL.step (Yl.fld0 (t := 32) Try.underlying32 fl32 rfl rfl) rfl ?_ | refine WL.step (Yl.pick_t rfl rfl rfl) rfl ?_ | (refine WL.k_bin .lss ?_; refine WL.step (Yl.lssT rfl rfl (by omega)) rfl ?_) | refine WC.seq ?_ | refine WC.region ?_ | refine WL.nil ?_ | refine WN.then_normal ?_))
                refine WC.cond_true rfl rfl ?_
                (repeat (first | refine WC.seq ?_ | refine WC.region ?_ | refine WN.then_normal ?_ | refine WC.block ?_ | refine WC.skip ?_))
                refine WL.allocA zeroRVal rfl fun b8 => ?_
                obtain ⟨V, hV⟩ : ∃ V, V = (l.drop (3 + C * 40 + i * 20)).take 20 := ⟨_, rfl⟩
                have hdl : V.length = 20 := by rw [hV, List.length_take, List.length_drop]; omega
                have hdg : ∀ j, j < 20 → V.getD j 0 = l.getD (3 + C * 40 + i * 20 + j) 0 := fun j hj => by rw [hV]; exact getD_cut hj
                (repeat (first | refine WL.step (Yl.assign rfl) rfl ?_ | refine WC.seq ?_ | refine WC.region ?_ | refine WL.nil ?_ | refine WN.then_normal ?_ | refine WC.block ?_))
                refine WC.joinB (α := Unit) (fun _ => [(0, .slice a 512 cap), (2, .pointer (some ⟨b2, 0, none⟩)), (4, .pointer (some ⟨b4, 0, none⟩)), (5, .int .i64 (C : Int)), (6, .int .i64 ((3 + C * 40 + i * 20 : Nat) : Int)), (10, .int .i64 (i : Int)), (11, .pointer (some ⟨b8, 0, none⟩))])
                  (fun _ => [.blk b8 (.cells (bs V).toArray 78 (0, 0)), .row ya yc 78 20 (vcells (Nod.readVals l (3 + C * 40) i)), .row ka kc 45 33 (kcells (Nod.readKeys l 3 C)), .blk b4 (.cells #[.bool true, .slice ka C kc, .slice ya i yc, .slice none 0 0] 32 (0, 0)), .blk b2 (.cells #[.bool false, .slice none 0 0, .slice none 0 0, .slice none 0 0] 32 (0, 0))]) (fun _ => True) ?_ (fun _ _ => ?_)
                · refine WC.loop (α := Nat) (fun j => [(0, .slice a 512 cap), (2, .pointer (some ⟨b2, 0, none⟩)), (4, .pointer (some ⟨b4, 0, none⟩)), (5, .int .i64 (C : Int)), (6, .int .i64 ((3 + C * 40 + i * 20 : Nat) : Int)), (10, .int .i64 (i : Int)), (11, .pointer (some ⟨b8, 0, none⟩)), (12, .int .i64 (j : Int))])
                    (fun j => [.blk b8 (.cells (bs (part V 20 j)).toArray 78 (0, 0)), .row ya yc 78 20 (vcells (Nod.readVals l (3 + C * 40) i)), .row ka kc 45 33 (kcells (Nod.readKeys l 3 C)), .blk b4 (.cells #[.bool true, .slice ka C kc, .slice ya i yc, .slice none 0 0] 32 (0, 0)), .blk b2 (.cells #[.bool false, .slice none 0 0, .slice none 0 0, .slice none 0 0] 32 (0, 0))]) (fun j => j ≤ 20) (fun j => 20 - j) 0 (by repeat (first | exact Sub.nil | refine Sub.cons rfl rfl ?_)) (by rw [part_zero]; exact (by repeat (first | exact Part.nil | refine Part.cons (by repeat (first | exact Pick.here | apply Pick.there)) ?_ | refine Part.free ?_))) (by decide) ?_
                  intro j hj
                  (repeat (first | refine WL.step (Yl.move rfl) rfl ?_ | refine WL.step (Yl.lss rfl rfl) rfl ?_ | refine WC.seq ?_ | refine WC.region ?_ | refine WL.nil ?_ | refine WN.then_normal ?_))
                  refine WC.ite rfl (fun h6 => ?_) (fun h6 => ?_)
                  · have hj6 : j < 20 := by omega
                    have hin : 3 + C * 40 + i * 20 + j < l.length := by omega
                    (repeat (first | refine WL.step (Yl.move rfl) rfl ?_ | refine WL.step (Yl.load (T := 5) Try.isAgg5 rfl (.old hr) (bs_get hin)) rfl ?_ | (refine WL.k_idxa ?_; first | refine WL.step (Yl.indexAddr1 (t := 34) Try.underlying34 Try.sizeOf5 rfl rfl (.old hr) hne (by omega)) rfl ?_ | refine WL.step (Yl.indexArr (t := 78) Try.underlying78 Try.sizeOf5 rfl rfl hj6) rfl ?_) | (refine WL.k_bin .add ?_; refine WL.step (Yl.add64N rfl rfl (by omega)) rfl ?_) | refine WC.seq ?_ | refine WC.region ?_ | refine WN.then_normal ?_ | refine WC.block ?_ | refine WC.skip ?_))
                    rw [Nat.mul_one, Nat.zero_add]
                    refine WL.store1 (T := 5) Try.sizeOf5 rfl rfl rfl .here (by simp only [List.size_toArray, bs_length, part_len hdl hj]; omega) ?_
                    rw [show ((bs (part V 20 j)).toArray.toList.set j (bv (l.getD (3 + C * 40 + i * 20 + j) 0))) = bs (part V 20 (j + 1)) by rw [List.toList_toArray, ← bs_set, ← hdg j hj6, part_set hdl hj6]]
                    (repeat (first | refine WL.step (Yl.move rfl) rfl ?_ | refine WL.step (Yl.assign rfl) rfl ?_ | (refine WL.k_bin .add ?_; refine WL.step (Yl.add64C rfl (by omega)) rfl ?_) | refine WC.region ?_ | refine WL.nil ?_ | refine WN.then_normal ?_ | refine WN.block_normal ?_))
                    exact WN.next (j + 1) (by omega) (by omega) (by repeat (first | exact Sub.nil | refine Sub.cons rfl rfl ?_)) (by repeat (first | exact Part.nil | refine Part.cons (by repeat (first | exact Pick.here | apply Pick.there)) ?_ | refine Part.free ?_))
                  · obtain rfl : j = 20 := by omega
                    rw [part_full hdl]
                    (repeat (first | refine WC.exit ?_ | refine WN.then_exit ?_ | refine WN.block_here ?_))
                    exact WN.join () trivial (by repeat (first | exact Sub.nil | refine Sub.cons rfl rfl ?_)) (by repeat (first | exact Part.nil | refine Part.cons (by repeat (first | exact Pick.here | apply Pick.there)) ?_ | refine Part.free ?_))
                · have hks := bs_size hdl
                  (repeat (first | (refine WL.k_load ?_; first | refine WL.step (Yl.loadBlk (T := 30) Try.isAgg30 rfl (by repeat (first | exact .head _ | refine .tail _ ?_)) (by rfl)) rfl ?_ | refine WL.step (Yl.loadAll (T := 78) (T' := 78) (cs := (bs V).toArray) Try.isAgg78 Try.sizeOf78 rfl (by repeat (first | exact .head _ | refine .tail _ ?_)) hks) rfl ?_) | refine WL.step (Yl.fld0 (t := 32) Try.underlying32 fl32 rfl rfl) rfl ?_ | refine WC.seq ?_ | refine WC.region ?_))
                  refine WL.lit (t := 30) Try.underlying30 elemRVal rfl rfl rfl (by simp [Value.cells, bs_length, hdl]) rfl fun b9 => ?_
                  rw [flatV]
                  refine WL.appendRow (n := i) (m := 1) (olds := vcells (Nod.readVals l (3 + C * 40) i)) Try.underlying30 elemRVal rfl rfl (by repeat (first | exact Pick.here | apply Pick.there)) (by rw [vcells_len (Nod.readVals_wf (by omega)), Nod.readVals_len]) hy (Rd.row (.head _)) (by rw [bs_length, hdl]) (bs_one _) (by omega) (by simp only [maxLen]; omega) rfl fun q2 hq2 => ?_
                  rw [← vcells_snoc, hV, ← readVals_succ]
                  (repeat (first | refine WL.step (Yl.fld0 (t := 32) Try.underlying32 fl32 rfl rfl) rfl ?_))
                  refine WL.storeAt (T := 30) Try.sizeOf30 rfl rfl rfl (by repeat (first | exact Pick.here | apply Pick.there)) rfl ?_
                  (repeat (first | refine WL.step (Yl.move rfl) rfl ?_ | refine WL.step (Yl.assign rfl) rfl ?_ | (refine WL.k_bin .add ?_; refine WL.step (Yl.add64C rfl (by omega)) rfl ?_) | refine WC.region ?_ | refine WL.nil ?_ | refine WN.then_normal ?_ | refine WN.block_normal ?_))
                  exact WN.next (i + 1, q2) ⟨by simp only; omega, hq2⟩ (by simp only; omega) (.cons rfl rfl (.cons rfl rfl (.cons rfl rfl (.cons rfl rfl (.cons rfl (by show Value.int _ _ = Value.int _ _; congr 1; simp only; omega) (.cons rfl rfl .nil)))))) (by repeat (first | exact Part.nil | refine Part.cons (by repeat (first | exact Pick.here | apply Pick.there)) ?_ | refine Part.free ?_))
              · obtain rfl : i = C := by omega
                (repeat (first | refine WL.pass rfl rfl rfl rfl ?_ | refine WL.step (Yl.move rfl) rfl ?_ | refine WL.step (Yl.pick_f rfl rfl rfl) rfl ?_ | (refine WL.k_bin .lss ?_; refine WL.step (Yl.lssF rfl rfl (by omega)) rfl ?_) | refine WC.seq ?_ | refine WC.region ?_ | refine WL.nil ?_ | refine WN.then_normal ?_))
                refine WC.cond_false rfl rfl ?_
                (repeat (first | refine WC.exit ?_ | refine WN.then_exit ?_ | refine WN.block_here ?_))
                exact WN.join (ya, yc) hy (by repeat (first | exact Sub.nil | refine Sub.cons rfl rfl ?_)) (by repeat (first | exact Part.nil | refine Part.cons (by repeat (first | exact Pick.here | apply Pick.there)) ?_ | refine Part.free ?_))
            · intro ⟨ya, yc⟩ hyc
              simp only at hyc ⊢
              (repeat (first | refine WL.step (Yl.assign rfl) rfl ?_ | refine WC.seq ?_ | refine WC.region ?_ | refine WL.nil ?_ | refine WN.then_normal ?_ | refine WC.block ?_))
              refine WC.joinB (α := Unit) (fun _ => [(0, .slice a 512 cap), (2, .pointer (some ⟨b2, 0, none⟩)), (4, .pointer (some ⟨b4, 0, none⟩))])
                (fun _ => [.row ya yc 78 20 (vcells (Nod.readVals l (3 + C * 40) C)), .row ka kc 45 33 (kcells (Nod.readKeys l 3 C)), .blk b4 (.cells #[.bool true, .slice ka C kc, .slice ya C yc, .slice none 0 0] 32 (0, 0)), .blk b2 (.cells #[.bool false, .slice none 0 0, .slice none 0 0, .slice none 0 0] 32 (0, 0))]) (fun _ => True) ?_ (fun _ _ => ?_)
              · refine WC.loop (α := Unit) (fun _ => [(0, .slice a 512 cap), (2, .pointer (some ⟨b2, 0, none⟩)), (4, .pointer (some ⟨b4, 0, none⟩)), (5, .int .i64 (C : Int)), (13, .int .i64 0)])
                  (fun _ => [.row ya yc 78 20 (vcells (Nod.readVals l (3 + C * 40) C)), .row ka kc 45 33 (kcells (Nod.readKeys l 3 C)), .blk b4 (.cells #[.bool true, .slice ka C kc, .slice ya C yc, .slice none 0 0] 32 (0, 0)), .blk b2 (.cells #[.bool false, .slice none 0 0, .slice none 0 0, .slice none 0 0] 32 (0, 0))]) (fun _ => True) (fun _ => 0) () (by repeat (first | exact Sub.nil | refine Sub.cons rfl rfl ?_)) (by repeat (first | exact Part.nil | refine Part.cons (by repeat (first | exact Pick.here | apply Pick.there)) ?_ | refine Part.free ?_)) trivial ?_
                intro _ _
                (repeat (first | refine WL.want rfl rfl rfl ?_ | refine WL.step (Yl.move rfl) rfl ?_ | (refine WL.k_load ?_; refine WL.step (Yl.loadBlk (T := 4) Try.isAgg4 rfl (by repeat (first | exact .head _ | refine .tail _ ?_)) (by rfl)) rfl ?_) | refine WL.step (Yl.fld0 (t := 32) Try.underlying32 fl32 rfl rfl) rfl ?_ | refine WL.step (Yl.pick_t rfl rfl rfl) rfl ?_ | (refine WL.k_bin .leq ?_; refine WL.step (Yl.leqT rfl rfl (by omega)) rfl ?_) | refine WL.step (Yl.not rfl) rfl ?_ | refine WC.seq ?_ | refine WC.region ?_ | refine WL.nil ?_ | refine WN.then_normal ?_))
                refine WC.cond_false rfl rfl ?_
                (repeat (first | refine WC.exit ?_ | refine WN.then_exit ?_ | refine WN.block_here ?_))
                exact WN.join () trivial (by repeat (first | exact Sub.nil | refine Sub.cons rfl rfl ?_)) (by repeat (first | exact Part.nil | refine Part.cons (by repeat (first | exact Pick.here | apply Pick.there)) ?_ | refine Part.free ?_))
              · have hraw : Nod.raw l = (⟨true, Nod.readKeys l 3 C, Nod.readVals l (3 + C * 40) C, []⟩ : Nod.N) := by rw [Nod.raw_t h3, hC]
                have hwf : (Nod.raw l).Wf := Nod.raw_wf hl (by rw [hmo, hC]; exact h4)
                rw [hraw] at hwf
                have lk := Nod.readKeys_len l 3 C
                have ly := Nod.readVals_len l (3 + C * 40) C
                (repeat (first | (refine WL.k_load ?_; refine WL.step (Yl.loadAll (T' := 32) (cs := (ndl (⟨true, Nod.readKeys l 3 C, Nod.readVals l (3 + C * 40) C, []⟩ : Nod.N) (⟨ka, kc, ya, yc, none, 0⟩ : Pl)).toArray) Try.isAgg32 Try.sizeOf32 rfl (by simp only [ndl, lk, ly]; exact (by repeat (first | exact .head _ | refine .tail _ ?_))) rfl) rfl ?_) | refine WC.seq ?_ | refine WC.region ?_))
                refine WL.callR (g := 16) Try.call16 rfl (fun w s => rencode_c (⟨true, Nod.readKeys l 3 C, Nod.readVals l (3 + C * 40) C, []⟩ : Nod.N) (⟨ka, kc, ya, yc, none, 0⟩ : Pl) w hwf (NdRd.at_ ⟨Rd.row (by repeat (first | exact .head _ | refine .tail _ ?_)), Rd.row (by repeat (first | exact .head _ | refine .tail _ ?_)), Rd.nil, by simp only [lk]; exact hkc, by simp only [ly]; exact hyc, Nat.le_refl _⟩ s)) rfl fun q hq => ?_
                by_cases h5 : Nod.Ok (⟨true, Nod.readKeys l 3 C, Nod.readVals l (3 + C * 40) C, []⟩ : Nod.N)
                · have he : Nod.encR (⟨true, Nod.readKeys l 3 C, Nod.readVals l (3 + C * 40) C, []⟩ : Nod.N) = (0, Nod.page (⟨true, Nod.readKeys l 3 C, Nod.readVals l (3 + C * 40) C, []⟩ : Nod.N)) := if_pos h5
                  have hpl := Nod.page_len hwf h5
                  rw [he] at hq ⊢
                  simp only [hpl] at hq ⊢
                  by_cases h6 : Nod.page (⟨true, Nod.readKeys l 3 C, Nod.readVals l (3 + C * 40) C, []⟩ : Nod.N) = l
                  · have hg : Nod.Good l := ⟨hl, h2, by rw [hmo, hC]; exact h4, by rw [hraw]; exact h5, by rw [hraw]; exact h6⟩
                    rw [(Nod.dec_good hg).1, (Nod.dec_good hg).2, hraw]
                    (repeat (first | refine WL.want rfl rfl rfl ?_ | refine WL.step (Yl.move rfl) rfl ?_ | refine WL.step (Yl.assign rfl) rfl ?_ | refine WL.step (Yl.extract rfl rfl) rfl ?_ | refine WL.step (Yl.pick_f rfl rfl rfl) rfl ?_ | refine WL.step (Yl.neqF rfl rfl rfl) rfl ?_ | (refine WL.k_call 21 ?_; refine WL.callV (g := 21) (v := .bool true) Try.call21 rfl (fun w s => by have := same_c q.1 a 512 512 q.2 cap (Nod.page (⟨true, Nod.readKeys l 3 C, Nod.readVals l (3 + C * 40) C, []⟩ : Nod.N)) l w hpl hl (by decide) (Rd.row (by repeat (first | exact .head _ | refine .tail _ ?_)) w s) (Rd.old hr w s); rwa [decide_eq_true h6] at this) rfl ?_) | refine WL.step (Yl.not rfl) rfl ?_ | refine WC.seq ?_ | refine WC.region ?_ | refine WL.nil ?_ | refine WN.then_normal ?_))
                    refine WC.cond_false rfl rfl ?_
                    (repeat (first | (refine WL.k_load ?_; refine WL.step (Yl.loadAll (T' := 32) (cs := (ndl (⟨true, Nod.readKeys l 3 C, Nod.readVals l (3 + C * 40) C, []⟩ : Nod.N) (⟨ka, kc, ya, yc, none, 0⟩ : Pl)).toArray) Try.isAgg32 Try.sizeOf32 rfl (by simp only [ndl, lk, ly]; exact (by repeat (first | exact .head _ | refine .tail _ ?_))) rfl) rfl ?_) | refine WC.seq ?_ | refine WC.region ?_ | refine WN.then_normal ?_ | refine WC.skip ?_))
                    refine WL.storeWhole (k := 4) (us := (ndl (⟨true, Nod.readKeys l 3 C, Nod.readVals l (3 + C * 40) C, []⟩ : Nod.N) (⟨ka, kc, ya, yc, none, 0⟩ : Pl)).toArray) Try.sizeOf32 rfl rfl rfl (by repeat (first | exact Pick.here | apply Pick.there)) rfl rfl ?_
                    (repeat (first | refine WL.step (Yl.assign rfl) rfl ?_ | refine WL.nil ?_ | refine WN.then_normal ?_ | refine WC.ret ?_))
                    exact WN.ret2C rfl Try.isAgg32 Try.sizeOf32 rfl rfl (by repeat (first | exact .head _ | refine .tail _ ?_)) rfl ⟨(⟨ka, kc, ya, yc, none, 0⟩ : Pl), by simp only [lk]; exact hkc, by simp only [ly]; exact hyc, Nat.le_refl _, rfl, rfl⟩ (.cons (by repeat (first | exact Pick.here | apply Pick.there)) (.cons (by repeat (first | exact Pick.here | apply Pick.there)) (.free .nil)))
                  · have hg : ¬ Nod.Good l := fun q => h6 (by have := q.2.2.2.2; rwa [hraw] at this)
                    rw [(Nod.dec_bad hg).1, (Nod.dec_bad hg).2]
                    (repeat (first | refine WL.want rfl rfl rfl ?_ | refine WL.step (Yl.move rfl) rfl ?_ | refine WL.step (Yl.assign rfl) rfl ?_ | refine WL.step (Yl.extract rfl rfl) rfl ?_ | refine WL.step (Yl.pick_f rfl rfl rfl) rfl ?_ | refine WL.step (Yl.neqF rfl rfl rfl) rfl ?_ | (refine WL.k_call 21 ?_; refine WL.callV (g := 21) (v := .bool false) Try.call21 rfl (fun w s => by have := same_c q.1 a 512 512 q.2 cap (Nod.page (⟨true, Nod.readKeys l 3 C, Nod.readVals l (3 + C * 40) C, []⟩ : Nod.N)) l w hpl hl (by decide) (Rd.row (by repeat (first | exact .head _ | refine .tail _ ?_)) w s) (Rd.old hr w s); rwa [decide_eq_false h6] at this) rfl ?_) | refine WL.step (Yl.not rfl) rfl ?_ | refine WC.seq ?_ | refine WC.region ?_ | refine WL.nil ?_ | refine WN.then_normal ?_))
                    refine WC.cond_true rfl rfl ?_
                    (repeat (first | refine WL.step (Yl.build (ps := []) rfl buildRZ) rfl ?_ | refine WC.seq ?_ | refine WC.region ?_))
                    refine WL.storeWhole (T := 32) (k := 4) (us := (ndl Nod.zero pz).toArray) Try.sizeOf32 rfl rfl rfl (by repeat (first | exact Pick.here | apply Pick.there)) rfl rfl ?_
                    (repeat (first | refine WL.step (Yl.assign rfl) rfl ?_ | refine WL.nil ?_ | refine WN.then_normal ?_ | refine WC.ret ?_ | refine WN.then_ret ?_))
                    exact WN.ret2C rfl Try.isAgg32 Try.sizeOf32 rfl rfl (by repeat (first | exact .head _ | refine .tail _ ?_)) rfl ⟨pz, Nat.le_refl _, Nat.le_refl _, Nat.le_refl _, rfl, rfl⟩ (.free (.free (.free .nil)))
                · have he : Nod.encR (⟨true, Nod.readKeys l 3 C, Nod.readVals l (3 + C * 40) C, []⟩ : Nod.N) = (2, []) := if_neg h5
                  rw [he] at hq ⊢
                  have hg : ¬ Nod.Good l := fun q => h5 (by have := q.2.2.2.1; rwa [hraw] at this)
                  rw [(Nod.dec_bad hg).1, (Nod.dec_bad hg).2]
                  (repeat (first | refine WL.pass rfl rfl rfl rfl ?_ | refine WL.step (Yl.move rfl) rfl ?_ | refine WL.step (Yl.assign rfl) rfl ?_ | refine WL.step (Yl.extract rfl rfl) rfl ?_ | refine WL.step (Yl.pick_t rfl rfl rfl) rfl ?_ | (refine WL.k_bin .neq ?_; refine WL.step (Yl.neqT rfl rfl (by decide)) rfl ?_) | refine WC.seq ?_ | refine WC.region ?_ | refine WL.nil ?_ | refine WN.then_normal ?_))
                  refine WC.cond_true rfl rfl ?_
                  (repeat (first | refine WL.step (Yl.build (ps := []) rfl buildRZ) rfl ?_ | refine WC.seq ?_ | refine WC.region ?_))
                  refine WL.storeWhole (T := 32) (k := 4) (us := (ndl Nod.zero pz).toArray) Try.sizeOf32 rfl rfl rfl (by repeat (first | exact Pick.here | apply Pick.there)) rfl rfl ?_
                  (repeat (first | refine WL.step (Yl.assign rfl) rfl ?_ | refine WL.nil ?_ | refine WN.then_normal ?_ | refine WC.ret ?_ | refine WN.then_ret ?_))
                  exact WN.ret2C rfl Try.isAgg32 Try.sizeOf32 rfl rfl (by repeat (first | exact .head _ | refine .tail _ ?_)) rfl ⟨pz, Nat.le_refl _, Nat.le_refl _, Nat.le_refl _, rfl, rfl⟩ (.free (.free (.free .nil)))
        · have hg : ¬ Nod.Good l := fun q => h4 (by have := q.2.2.1; rwa [hmo] at this)
          rw [(Nod.dec_bad hg).1, (Nod.dec_bad hg).2]
          by_cases h4b : Nod.count l ≤ 11
          · (repeat (first | refine WL.want rfl rfl rfl ?_ | refine WL.step (Yl.move rfl) rfl ?_ | refine WL.step (Yl.assign rfl) rfl ?_ | (refine WL.k_load ?_; refine WL.step (Yl.loadBlk (T := 4) Try.isAgg4 rfl (by repeat (first | exact .head _ | refine .tail _ ?_)) (by rfl)) rfl ?_) | refine WL.step (Yl.fld0 (t := 32) Try.underlying32 fl32 rfl rfl) rfl ?_ | (refine WL.k_pick ?_; first | refine WL.step (Yl.pick_t rfl rfl rfl) rfl ?_ | refine WL.step (Yl.pick_f rfl rfl rfl) rfl ?_) | (refine WL.k_slice ?_; refine WL.step (Yl.cut (t := 34) (lo := 1) (hi := 3) Try.underlying34 Try.sizeOf5 rfl rfl rfl (by decide) (by omega)) rfl ?_) | (refine WL.k_call 47 ?_; refine WL.callV (g := 47) (v := .int .u64 ((Nod.count l : Nat) : Int)) Try.call47 rfl (fun w s => rnumber_c _ 2 _ ((l.drop 1).take 2) w (by rw [List.length_take, List.length_drop]; omega) (by decide) (hcutR 1 2 (Rd.old hr) w s)) rfl ?_) | (refine WL.k_conv ?_; refine WL.step (Yl.conv64 (s := 39) (t := 3) Try.underlying39 Try.underlying3 rfl (by omega)) rfl ?_) | (refine WL.k_bin .gtr ?_; first | refine WL.step (Yl.gtrT rfl rfl (by omega)) rfl ?_ | refine WL.step (Yl.gtrF rfl rfl (by omega)) rfl ?_) | refine WC.seq ?_ | refine WC.region ?_ | refine WL.nil ?_ | refine WN.then_normal ?_))
            refine WC.cond_true rfl rfl ?_
            (repeat (first | refine WL.step (Yl.build (ps := []) rfl buildRZ) rfl ?_ | refine WC.seq ?_ | refine WC.region ?_))
            refine WL.storeWhole (T := 32) (k := 4) (us := (ndl Nod.zero pz).toArray) Try.sizeOf32 rfl rfl rfl (by repeat (first | exact Pick.here | apply Pick.there)) rfl rfl ?_
            (repeat (first | refine WL.step (Yl.assign rfl) rfl ?_ | refine WL.nil ?_ | refine WN.then_normal ?_ | refine WC.ret ?_ | refine WN.then_ret ?_))
            exact WN.ret2C rfl Try.isAgg32 Try.sizeOf32 rfl rfl (by repeat (first | exact .head _ | refine .tail _ ?_)) rfl ⟨pz, Nat.le_refl _, Nat.le_refl _, Nat.le_refl _, rfl, rfl⟩ (.free (.free (.free .nil)))
          · (repeat (first | (refine WL.kG ?_; first | refine WL.passU rfl rfl rfl ?_ | refine WL.pass rfl rfl rfl rfl ?_) | refine WL.step (Yl.move rfl) rfl ?_ | refine WL.step (Yl.assign rfl) rfl ?_ | refine WL.step (Yl.pick_t rfl rfl rfl) rfl ?_ | (refine WL.k_slice ?_; refine WL.step (Yl.cut (t := 34) (lo := 1) (hi := 3) Try.underlying34 Try.sizeOf5 rfl rfl rfl (by decide) (by omega)) rfl ?_) | (refine WL.k_call 47 ?_; refine WL.callV (g := 47) (v := .int .u64 ((Nod.count l : Nat) : Int)) Try.call47 rfl (fun w s => rnumber_c _ 2 _ ((l.drop 1).take 2) w (by rw [List.length_take, List.length_drop]; omega) (by decide) (hcutR 1 2 (Rd.old hr) w s)) rfl ?_) | (refine WL.k_conv ?_; refine WL.step (Yl.conv64 (s := 39) (t := 3) Try.underlying39 Try.underlying3 rfl (by omega)) rfl ?_) | (refine WL.k_bin .gtr ?_; refine WL.step (Yl.gtrT rfl rfl (by omega)) rfl ?_) | refine WC.seq ?_ | refine WC.region ?_ | refine WL.nil ?_ | refine WN.then_normal ?_))
            refine WC.cond_true rfl rfl ?_
            (repeat (first | refine WL.step (Yl.build (ps := []) rfl buildRZ) rfl ?_ | refine WC.seq ?_ | refine WC.region ?_))
            refine WL.storeWhole (T := 32) (k := 4) (us := (ndl Nod.zero pz).toArray) Try.sizeOf32 rfl rfl rfl (by repeat (first | exact Pick.here | apply Pick.there)) rfl rfl ?_
            (repeat (first | refine WL.step (Yl.assign rfl) rfl ?_ | refine WL.nil ?_ | refine WN.then_normal ?_ | refine WC.ret ?_ | refine WN.then_ret ?_))
            exact WN.ret2C rfl Try.isAgg32 Try.sizeOf32 rfl rfl (by repeat (first | exact .head _ | refine .tail _ ?_)) rfl ⟨pz, Nat.le_refl _, Nat.le_refl _, Nat.le_refl _, rfl, rfl⟩ (.free (.free (.free .nil)))
      · have hmo : Nod.most (decide ((l.getD 0 0).toNat = 0)) = 11 := by rw [decide_eq_false h3]; rfl
        (repeat (first | refine WL.step (Yl.move rfl) rfl ?_ | refine WL.step (Yl.load (T := 5) Try.isAgg5 rfl (.old hr) hb0) rfl ?_ | (refine WL.k_idxa ?_; refine WL.step (Yl.indexAddr1 (t := 34) (j := 0) Try.underlying34 Try.sizeOf5 rfl rfl (.old hr) hne (by omega)) rfl ?_) | (refine WL.k_bin .eql ?_; refine WL.step (Yl.eqlF rfl rfl (by omega)) rfl ?_) | refine WL.step (Yl.build (ps := [(0, .tmp 29)]) rfl (buildRL false)) rfl ?_ | refine WC.seq ?_ | refine WC.region ?_ | refine WN.then_normal ?_ | refine WC.skip ?_))
        refine WL.allocA Try.zeroValue32 rfl fun b4 => ?_
        refine WL.storeWhole (T := 32) (k := 4) Try.sizeOf32 rfl rfl rfl .here rfl rfl ?_
        by_cases h4 : Nod.count l ≤ 11
        · (repeat (first | (refine WL.kG ?_; first | refine WL.want rfl rfl rfl ?_ | refine WL.pass rfl rfl rfl rfl ?_) | refine WL.step (Yl.move rfl) rfl ?_ | refine WL.step (Yl.assign rfl) rfl ?_ | (refine WL.k_load ?_; refine WL.step (Yl.loadBlk (T := 4) Try.isAgg4 rfl (by repeat (first | exact .head _ | refine .tail _ ?_)) (by rfl)) rfl ?_) | refine WL.step (Yl.fld0 (t := 32) Try.underlying32 fl32 rfl rfl) rfl ?_ | refine WL.step (Yl.pick_f rfl rfl rfl) rfl ?_ | (refine WL.k_slice ?_; refine WL.step (Yl.cut (t := 34) (lo := 1) (hi := 3) Try.underlying34 Try.sizeOf5 rfl rfl rfl (by decide) (by omega)) rfl ?_) | (refine WL.k_call 47 ?_; refine WL.callV (g := 47) (v := .int .u64 ((Nod.count l : Nat) : Int)) Try.call47 rfl (fun w s => rnumber_c _ 2 _ ((l.drop 1).take 2) w (by rw [List.length_take, List.length_drop]; omega) (by decide) (hcutR 1 2 (Rd.old hr) w s)) rfl ?_) | (refine WL.k_conv ?_; refine WL.step (Yl.conv64 (s := 39) (t := 3) Try.underlying39 Try.underlying3 rfl (by omega)) rfl ?_) | (refine WL.k_bin .gtr ?_; refine WL.step (Yl.gtrF rfl rfl (by omega)) rfl ?_) | refine WC.seq ?_ | refine WC.region ?_ | refine WL.nil ?_ | refine WN.then_normal ?_))
          refine WC.cond_false rfl rfl ?_
          generalize hC : Nod.count l = C at *
          (repeat (first | refine WL.step (Yl.assign rfl) rfl ?_ | refine WC.seq ?_ | refine WC.region ?_ | refine WL.nil ?_ | refine WN.then_normal ?_ | refine WC.block ?_ | refine WC.skip ?_))
          refine WC.joinB (α := Option Addr × Nat) (fun g => [(0, .slice a 512 cap), (2, .pointer (some ⟨b2, 0, none⟩)), (4, .pointer (some ⟨b4, 0, none⟩)), (5, .int .i64 (C : Int)), (6, .int .i64 ((3 + C * 40 : Nat) : Int))])
            (fun g => [.row g.1 g.2 45 33 (kcells (Nod.readKeys l 3 C)), .blk b4 (.cells #[.bool false, .slice g.1 C g.2, .slice none 0 0, .slice none 0 0] 32 (0, 0)), .blk b2 (.cells #[.bool false, .slice none 0 0, .slice none 0 0, .slice none 0 0] 32 (0, 0))]) (fun g => C ≤ g.2) ?_ ?_
          · refine WC.loop (α := Nat × Option Addr × Nat) (fun g => [(0, .slice a 512 cap), (2, .pointer (some ⟨b2, 0, none⟩)), (4, .pointer (some ⟨b4, 0, none⟩)), (5, .int .i64 (C : Int)), (6, .int .i64 ((3 + g.1 * 40 : Nat) : Int)), (7, .int .i64 (g.1 : Int))])
              (fun g => [.row g.2.1 g.2.2 45 33 (kcells (Nod.readKeys l 3 g.1)), .blk b4 (.cells #[.bool false, .slice g.2.1 g.1 g.2.2, .slice none 0 0, .slice none 0 0] 32 (0, 0)), .blk b2 (.cells #[.bool false, .slice none 0 0, .slice none 0 0, .slice none 0 0] 32 (0, 0))]) (fun g => g.1 ≤ C ∧ g.1 ≤ g.2.2) (fun g => C - g.1) (0, none, 0) (by repeat (first | exact Sub.nil | refine Sub.cons rfl rfl ?_)) (.free (by repeat (first | exact Part.nil | refine Part.cons (by repeat (first | exact Pick.here | apply Pick.there)) ?_ | refine Part.free ?_))) ⟨by simp, by simp⟩ ?_
            intro ⟨i, ka, kc⟩ ⟨hi, hk⟩
            simp only at hi hk ⊢
            (repeat (first | refine WL.step (Yl.move rfl) rfl ?_ | refine WL.step (Yl.lss rfl rfl) rfl ?_ | refine WC.seq ?_ | refine WC.region ?_ | refine WL.nil ?_ | refine WN.then_normal ?_))
            refine WC.ite rfl (fun h5 => ?_) (fun h5 => ?_)
            · have hkw := readKey_wf (l := l) (at_ := 3 + i * 40) (by omega)
              have hks := kv_size hkw
              (repeat (first | refine WL.step (Yl.move rfl) rfl ?_ | (refine WL.k_slice ?_; refine WL.step (Yl.cut (t := 34) Try.underlying34 Try.sizeOf5 rfl rfl rfl (by omega) (by omega)) rfl ?_) | (refine WL.k_call 47 ?_; refine WL.callV (g := 47) Try.call47 rfl (fun w s => rnumber_c _ (3 + i * 40 + 8 - (3 + i * 40)) _ ((l.drop (3 + i * 40)).take 8) w (by rw [List.length_take, List.length_drop]; omega) (by omega) (hcutR (3 + i * 40) 8 (Rd.old hr) w s)) rfl ?_) | refine WL.step (Yl.build (ps := [(0, .tmp 56)]) rfl (buildRK _)) rfl ?_ | (refine WL.k_bin .add ?_; refine WL.step (Yl.add64C rfl (by omega)) rfl ?_) | refine WC.seq ?_ | refine WC.region ?_ | refine WN.then_normal ?_ | refine WC.block ?_ | refine WC.skip ?_))
              refine WL.allocA zeroRKey rfl fun b8 => ?_
              refine WL.storeWhole (T := 45) (k := 33) Try.sizeOf45 rfl rfl (by rfl) .here rfl rfl ?_
              have hdl : (Nod.readKey l (3 + i * 40)).d.length = 32 := hkw.2
              have hdg : ∀ j, j < 32 → (Nod.readKey l (3 + i * 40)).d.getD j 0 = l.getD (3 + i * 40 + 8 + j) 0 := fun j hj => getD_cut hj
              have hkn : kv (Nod.readKey l (3 + i * 40)) = .int .u64 ((Big.val 0 ((l.drop (3 + i * 40)).take 8) : Nat) : Int) :: bs (Nod.readKey l (3 + i * 40)).d := rfl
              have hKsucc := readKeys_succ l 3 i
              generalize Nod.readKey l (3 + i * 40) = K at *
              generalize Big.val 0 ((l.drop (3 + i * 40)).take 8) = KN at *
              (repeat (first | refine WL.step (Yl.assign rfl) rfl ?_ | refine WC.seq ?_ | refine WC.region ?_ | refine WL.nil ?_ | refine WN.then_normal ?_ | refine WC.block ?_))
              refine WC.joinB (α := Unit) (fun _ => [(0, .slice a 512 cap), (2, .pointer (some ⟨b2, 0, none⟩)), (4, .pointer (some ⟨b4, 0, none⟩)), (5, .int .i64 (C : Int)), (6, .int .i64 ((3 + i * 40 : Nat) : Int)), (7, .int .i64 (i : Int)), (8, .pointer (some ⟨b8, 0, none⟩))])
                (fun _ => [.blk b8 (.cells (kv K).toArray 45 (0, 0)), .row ka kc 45 33 (kcells (Nod.readKeys l 3 i)), .blk b4 (.cells #[.bool false, .slice ka i kc, .slice none 0 0, .slice none 0 0] 32 (0, 0)), .blk b2 (.cells #[.bool false, .slice none 0 0, .slice none 0 0, .slice none 0 0] 32 (0, 0))]) (fun _ => True) ?_ (fun _ _ => ?_)
              · refine WC.loop (α := Nat) (fun j => [(0, .slice a 512 cap), (2, .pointer (some ⟨b2, 0, none⟩)), (4, .pointer (some ⟨b4, 0, none⟩)), (5, .int .i64 (C : Int)), (6, .int .i64 ((3 + i * 40 : Nat) : Int)), (7, .int .i64 (i : Int)), (8, .pointer (some ⟨b8, 0, none⟩)), (9, .int .i64 (j : Int))])
                  (fun j => [.blk b8 (.cells (.int .u64 (KN : Int) :: bs (part K.d 32 j)).toArray 45 (0, 0)), .row ka kc 45 33 (kcells (Nod.readKeys l 3 i)), .blk b4 (.cells #[.bool false, .slice ka i kc, .slice none 0 0, .slice none 0 0] 32 (0, 0)), .blk b2 (.cells #[.bool false, .slice none 0 0, .slice none 0 0, .slice none 0 0] 32 (0, 0))]) (fun j => j ≤ 32) (fun j => 32 - j) 0 (by repeat (first | exact Sub.nil | refine Sub.cons rfl rfl ?_)) (by rw [part_zero]; exact (by repeat (first | exact Part.nil | refine Part.cons (by repeat (first | exact Pick.here | apply Pick.there)) ?_ | refine Part.free ?_))) (by decide) ?_
                intro j hj
                (repeat (first | refine WL.step (Yl.move rfl) rfl ?_ | refine WL.step (Yl.lss rfl rfl) rfl ?_ | refine WC.seq ?_ | refine WC.region ?_ | refine WL.nil ?_ | refine WN.then_normal ?_))
                refine WC.ite rfl (fun h6 => ?_) (fun h6 => ?_)
                · have hj6 : j < 32 := by omega
                  have hin : 3 + i * 40 + 8 + j < l.length := by omega
                  (repeat (first | refine WL.step (Yl.move rfl) rfl ?_ | refine WL.step (Yl.load (T := 5) Try.isAgg5 rfl (.old hr) (bs_get hin)) rfl ?_ | refine WL.step (Yl.fldN0 rkD rfl) rfl ?_ | (refine WL.k_idxa ?_; first | refine WL.step (Yl.indexAddr1 (t := 34) Try.underlying34 Try.sizeOf5 rfl rfl (.old hr) hne (by omega)) rfl ?_ | refine WL.step (Yl.indexArr (t := 40) Try.underlying40 Try.sizeOf5 rfl rfl hj6) rfl ?_) | (refine WL.k_bin .add ?_; first | refine WL.step (Yl.add64C rfl (by omega)) rfl ?_ | refine WL.step (Yl.add64N rfl rfl (by omega)) rfl ?_) | refine WC.seq ?_ | refine WC.region ?_ | refine WN.then_normal ?_ | refine WC.block ?_ | refine WC.skip ?_))
                  rw [Nat.mul_one]
                  refine WL.store1 (T := 5) Try.sizeOf5 rfl rfl rfl .here (by simp only [List.size_toArray, List.length_cons, bs_length, part_len hdl hj]; omega) ?_
                  rw [show ((Value.int .u64 (KN : Int) :: bs (part K.d 32 j)).toArray.toList.set (1 + j) (bv (l.getD (3 + i * 40 + 8 + j) 0))) = Value.int .u64 (KN : Int) :: bs (part K.d 32 (j + 1)) by rw [List.toList_toArray, Nat.add_comm 1 j, List.set_cons_succ, ← bs_set, ← hdg j hj6, part_set hdl hj6]]
                  (repeat (first | refine WL.step (Yl.move rfl) rfl ?_ | refine WL.step (Yl.assign rfl) rfl ?_ | (refine WL.k_bin .add ?_; refine WL.step (Yl.add64C rfl (by omega)) rfl ?_) | refine WC.region ?_ | refine WL.nil ?_ | refine WN.then_normal ?_ | refine WN.block_normal ?_))
                  exact WN.next (j + 1) (by omega) (by omega) (by repeat (first | exact Sub.nil | refine Sub.cons rfl rfl ?_)) (by repeat (first | exact Part.nil | refine Part.cons (by repeat (first | exact Pick.here | apply Pick.there)) ?_ | refine Part.free ?_))
                · obtain rfl : j = 32 := by omega
                  rw [part_full hdl, ← hkn]
                  (repeat (first | refine WC.exit ?_ | refine WN.then_exit ?_ | refine WN.block_here ?_))
                  exact WN.join () trivial (by repeat (first | exact Sub.nil | refine Sub.cons rfl rfl ?_)) (by repeat (first | exact Part.nil | refine Part.cons (by repeat (first | exact Pick.here | apply Pick.there)) ?_ | refine Part.free ?_))
              · (repeat (first | (refine WL.k_load ?_; first | refine WL.step (Yl.loadBlk (T := 29) Try.isAgg29 rfl (by repeat (first | exact .head _ | refine .tail _ ?_)) (by rfl)) rfl ?_ | refine WL.step (Yl.loadAll (T := 45) (T' := 45) (cs := (kv K).toArray) Try.isAgg45 Try.sizeOf45 rfl (by repeat (first | exact .head _ | refine .tail _ ?_)) hks) rfl ?_) | refine WL.step (Yl.fld0 (t := 32) Try.underlying32 fl32 rfl rfl) rfl ?_ | refine WC.seq ?_ | refine WC.region ?_))
                refine WL.lit (t := 29) Try.underlying29 elemRKey rfl rfl rfl (by simp [Value.cells, kv_len hkw]) rfl fun b9 => ?_
                rw [flatK]
                refine WL.appendRow (t := 29) (n := i) (m := 1) (olds := kcells (Nod.readKeys l 3 i)) Try.underlying29 elemRKey rfl rfl (by repeat (first | exact Pick.here | apply Pick.there)) (by rw [kcells_len (Nod.readKeys_wf (by omega)), Nod.readKeys_len]) hk (Rd.row (.head _)) (by rw [kv_len hkw]) (kv_one _) (by omega) (by simp only [maxLen]; omega) rfl fun q2 hq2 => ?_
                rw [← kcells_snoc, ← hKsucc]
                (repeat (first | refine WL.step (Yl.fld0 (t := 32) Try.underlying32 fl32 rfl rfl) rfl ?_))
                refine WL.storeAt (T := 29) Try.sizeOf29 rfl rfl rfl (by repeat (first | exact Pick.here | apply Pick.there)) rfl ?_
                (repeat (first | refine WL.step (Yl.move rfl) rfl ?_ | refine WL.step (Yl.assign rfl) rfl ?_ | (refine WL.k_bin .add ?_; refine WL.step (Yl.add64C rfl (by omega)) rfl ?_) | refine WC.region ?_ | refine WL.nil ?_ | refine WN.then_normal ?_ | refine WN.block_normal ?_))
                exact WN.next (i + 1, q2) ⟨by simp only; omega, hq2⟩ (by simp only; omega) (.cons rfl rfl (.cons rfl rfl (.cons rfl rfl (.cons rfl rfl (.cons rfl (by show Value.int _ _ = Value.int _ _; congr 1; simp only; omega) (.cons rfl rfl .nil)))))) (by repeat (first | exact Part.nil | refine Part.cons (by repeat (first | exact Pick.here | apply Pick.there)) ?_ | refine Part.free ?_))
            · obtain rfl : i = C := by omega
              (repeat (first | refine WC.exit ?_ | refine WN.then_exit ?_ | refine WN.block_here ?_))
              exact WN.join (ka, kc) hk (by repeat (first | exact Sub.nil | refine Sub.cons rfl rfl ?_)) (by repeat (first | exact Part.nil | refine Part.cons (by repeat (first | exact Pick.here | apply Pick.there)) ?_ | refine Part.free ?_))
          · intro ⟨ka, kc⟩ hkc
            simp only at hkc ⊢
            (repeat (first | refine WL.step (Yl.assign rfl) rfl ?_ | refine WC.seq ?_ | refine WC.region ?_ | refine WL.nil ?_ | refine WN.then_normal ?_ | refine WC.block ?_))
            refine WC.joinB (α := Unit) (fun _ => [(0, .slice a 512 cap), (2, .pointer (some ⟨b2, 0, none⟩)), (4, .pointer (some ⟨b4, 0, none⟩)), (5, .int .i64 (C : Int)), (6, .int .i64 ((3 + C * 40 : Nat) : Int))])
              (fun _ => [.row ka kc 45 33 (kcells (Nod.readKeys l 3 C)), .blk b4 (.cells #[.bool false, .slice ka C kc, .slice none 0 0, .slice none 0 0] 32 (0, 0)), .blk b2 (.cells #[.bool false, .slice none 0 0, .slice none 0 0, .slice none 0 0] 32 (0, 0))]) (fun _ => True) ?_ (fun _ _ => ?_)
            · refine WC.loop (α := Unit) (fun _ => [(0, .slice a 512 cap), (2, .pointer (some ⟨b2, 0, none⟩)), (4, .pointer (some ⟨b4, 0, none⟩)), (5, .int .i64 (C : Int)), (6, .int .i64 ((3 + C * 40 : Nat) : Int)), (10, .int .i64 0)])
                (fun _ => [.row ka kc 45 33 (kcells (Nod.readKeys l 3 C)), .blk b4 (.cells #[.bool false, .slice ka C kc, .slice none 0 0, .slice none 0 0] 32 (0, 0)), .blk b2 (.cells #[.bool false, .slice none 0 0, .slice none 0 0, .slice none 0 0] 32 (0, 0))]) (fun _ => True) (fun _ => 0) () (by repeat (first | exact Sub.nil | refine Sub.cons rfl rfl ?_)) (by repeat (first | exact Part.nil | refine Part.cons (by repeat (first | exact Pick.here | apply Pick.there)) ?_ | refine Part.free ?_)) trivial ?_
              intro _ _
              by_cases h0 : C = 0
              · (repeat (first | refine WL.pass rfl rfl rfl rfl ?_ | refine WL.step (Yl.move rfl) rfl ?_ | refine WL.step (Yl.pick_f rfl rfl rfl) rfl ?_ | (refine WL.k_bin .lss ?_; refine WL.step (Yl.lssF rfl rfl (by omega)) rfl ?_) | refine WC.seq ?_ | refine WC.region ?_ | refine WL.nil ?_ | refine WN.then_normal ?_))
                refine WC.cond_false rfl rfl ?_
                (repeat (first | refine WC.exit ?_ | refine WN.then_exit ?_ | refine WN.block_here ?_))
                exact WN.join () trivial (by repeat (first | exact Sub.nil | refine Sub.cons rfl rfl ?_)) (by repeat (first | exact Part.nil | refine Part.cons (by repeat (first | exact Pick.here | apply Pick.there)) ?_ | refine Part.free ?_))
              · (repeat (first | refine WL.want rfl rfl rfl ?_ | refine WL.step (Yl.move rfl) rfl ?_ | (refine WL.k_load ?_; refine WL.step (Yl.loadBlk (T := 4) Try.isAgg4 rfl (by repeat (first | exact .head _ | refine .tail _ ?_)) (by rfl)) rfl ?_) | refine WL.step (Yl.fld0 (t := 32) Try.underlying32 fl32 rfl rfl) rfl ?_ | refine WL.step (Yl.pick_t rfl rfl rfl) rfl ?_ | (refine WL.k_bin .lss ?_; refine WL.step (Yl.lssT rfl rfl (by omega)) rfl ?_) | refine WC.seq ?_ | refine WC.region ?_ | refine WL.nil ?_ | refine WN.then_normal ?_))
                refine WC.cond_false rfl rfl ?_
                (repeat (first | refine WC.exit ?_ | refine WN.then_exit ?_ | refine WN.block_here ?_))
                exact WN.join () trivial (by repeat (first | exact Sub.nil | refine Sub.cons rfl rfl ?_)) (by repeat (first | exact Part.nil | refine Part.cons (by repeat (first | exact Pick.here | apply Pick.there)) ?_ | refine Part.free ?_))
            · (repeat (first | refine WL.step (Yl.assign rfl) rfl ?_ | refine WC.seq ?_ | refine WC.region ?_ | refine WL.nil ?_ | refine WN.then_normal ?_ | refine WC.block ?_))
              refine WC.joinB (α := Option Addr × Nat) (fun g => [(0, .slice a 512 cap), (2, .pointer (some ⟨b2, 0, none⟩)), (4, .pointer (some ⟨b4, 0, none⟩))])
                (fun g => [.row g.1 g.2 3 1 (icells (Nod.readKids l (3 + C * 40) (C + 1))), .row ka kc 45 33 (kcells (Nod.readKeys l 3 C)), .blk b4 (.cells #[.bool false, .slice ka C kc, .slice none 0 0, .slice g.1 (C + 1) g.2] 32 (0, 0)), .blk b2 (.cells #[.bool false, .slice none 0 0, .slice none 0 0, .slice none 0 0] 32 (0, 0))]) (fun g => C + 1 ≤ g.2) ?_ ?_
              · refine WC.loop (α := Nat × Option Addr × Nat) (fun g => [(0, .slice a 512 cap), (2, .pointer (some ⟨b2, 0, none⟩)), (4, .pointer (some ⟨b4, 0, none⟩)), (5, .int .i64 (C : Int)), (6, .int .i64 ((3 + C * 40 + g.1 * 4 : Nat) : Int)), (13, .int .i64 (g.1 : Int))])
                  (fun g => [.row g.2.1 g.2.2 3 1 (icells (Nod.readKids l (3 + C * 40) g.1)), .row ka kc 45 33 (kcells (Nod.readKeys l 3 C)), .blk b4 (.cells #[.bool false, .slice ka C kc, .slice none 0 0, .slice g.2.1 g.1 g.2.2] 32 (0, 0)), .blk b2 (.cells #[.bool false, .slice none 0 0, .slice none 0 0, .slice none 0 0] 32 (0, 0))]) (fun g => g.1 ≤ C + 1 ∧ g.1 ≤ g.2.2) (fun g => C + 1 - g.1) (0, none, 0) (by repeat (first | exact Sub.nil | refine Sub.cons rfl rfl ?_)) (.free (by repeat (first | exact Part.nil | refine Part.cons (by repeat (first | exact Pick.here | apply Pick.there)) ?_ | refine Part.free ?_))) ⟨by simp, by simp⟩ ?_
                intro ⟨i, ya, yc⟩ ⟨hi, hy⟩
                simp only at hi hy ⊢
                by_cases h5 : i ≤ C
                · have hil : 3 + C * 40 + i * 4 + 4 ≤ l.length := by omega
                  have hkl := Nod.readKid_lt l (3 + C * 40 + i * 4)
                  (repeat (first | refine WL.want rfl rfl rfl ?_ | refine WL.step (Yl.move rfl) rfl ?_ | (refine WL.k_load ?_; refine WL.step (Yl.loadBlk (T := 4) Try.isAgg4 rfl (by repeat (first | exact .head _ | refine .tail _ ?_)) (by rfl)) rfl ?_) | refine WL.step (Yl.fld0 (t := 32) Try.underlying32 fl32 rfl rfl) rfl ?_ | refine WL.step (Yl.pick_t rfl rfl rfl) rfl ?_ | (refine WL.k_bin .leq ?_; refine WL.step (Yl.leqT rfl rfl (by omega)) rfl ?_) | refine WL.step (Yl.not rfl) rfl ?_ | refine WC.seq ?_ | refine WC.region ?_ | refine WL.nil ?_ | refine WN.then_normal ?_))
                  refine WC.cond_true rfl rfl ?_
                  (repeat (first | refine WC.seq ?_ | refine WN.then_normal ?_ | refine WC.block ?_ | refine WC.skip ?_))
                  refine WC.regionE [.blk b4 (.cells #[.bool false, .slice ka C kc, .slice none 0 0, .slice ya i yc] 32 (0, 0))] 12 (by kernel_rfl) ?_
                  (refine WE.order [0, 1, 2, 3, 4, 5, 6] (by repeat (first | exact Part.nil | refine Part.cons (by repeat (first | exact Pick.here | apply Pick.there)) ?_ | refine Part.free ?_)) (by kernel_rfl) ?_; (repeat (first | (refine WU.k_move rfl ?_; (refine WU.kn rfl ?_; refine WU.take rfl rfl (fun _ _ _ h => h) (Yl.move rfl) rfl (by kernel_rfl) (by kernel_rfl) (by kernel_rfl) ?_)) | (refine WU.k_load rfl ?_; (refine WU.kn rfl ?_; refine WU.take rfl rfl (fun _ _ _ h => h) (Yl.loadBlk (T := 24) Try.isAgg24 rfl (by repeat (first | exact .head _ | refine .tail _ ?_)) (by rfl)) rfl (by kernel_rfl) (by kernel_rfl) (by kernel_rfl) ?_)) | (refine WU.k_fld rfl ?_; (refine WU.kn rfl ?_; refine WU.take rfl rfl (fun _ _ _ h => h) (Yl.fld0 (t := 32) Try.underlying32 fl32 rfl rfl) rfl (by kernel_rfl) (by kernel_rfl) (by kernel_rfl) ?_)) | (refine WU.k_slice rfl ?_; (refine WU.kn rfl ?_; refine WU.take rfl rfl (fun _ _ _ h => h) (Yl.cut (t := 34) Try.underlying34 Try.sizeOf5 rfl rfl rfl (by omega) (by omega)) rfl (by kernel_rfl) (by kernel_rfl) (by kernel_rfl) ?_)) | (refine WU.k_bin .add rfl ?_; (refine WU.kn rfl ?_; refine WU.take rfl rfl (fun _ _ _ h => h) (Yl.add64C rfl (by omega)) rfl (by kernel_rfl) (by kernel_rfl) (by kernel_rfl) ?_)))); refine WU.nil ?_)
                  refine WE.only (i := 7) (by kernel_rfl) rfl fun sh => ?_
                  refine WL.callV (g := 47) Try.call47 rfl (fun w s => rnumber_c _ (3 + C * 40 + i * 4 + 4 - (3 + C * 40 + i * 4)) _ ((l.drop (3 + C * 40 + i * 4)).take 4) w (by rw [List.length_take, List.length_drop]; omega) (by omega) (hcutR (3 + C * 40 + i * 4) 4 (Rd.old hr) w s)) rfl ?_
                  refine WL.nil (WN.nextE sh (by repeat (first | exact Part.nil | refine Part.cons (by repeat (first | exact Pick.here | apply Pick.there)) ?_ | refine Part.free ?_)) ?_)
                  (refine WE.order [8] (by repeat (first | exact Part.nil | refine Part.cons (by repeat (first | exact Pick.here | apply Pick.there)) ?_ | refine Part.free ?_)) (by kernel_rfl) ?_; (repeat (first | (refine WU.k_conv rfl ?_; (refine WU.kn rfl ?_; refine WU.take rfl rfl (fun _ _ _ h => h) (Yl.conv64 (s := 39) (t := 3) Try.underlying39 Try.underlying3 rfl (by omega)) rfl (by kernel_rfl) (by kernel_rfl) (by kernel_rfl) ?_)))); refine WU.nil ?_)
                  refine WE.only (i := 9) (by kernel_rfl) rfl fun sh => ?_
                  refine WL.lit (t := 24) Try.underlying24 elemInt rfl rfl rfl (by simp [Value.cells]) rfl fun b9 => ?_
                  refine WL.nil (WN.nextE sh (by repeat (first | exact Part.nil | refine Part.cons (by repeat (first | exact Pick.here | apply Pick.there)) ?_ | refine Part.free ?_)) ?_)
                  refine WE.only (i := 10) (by kernel_rfl) rfl fun sh => ?_
                  refine WL.appendRow (n := i) (m := 1) (olds := icells (Nod.readKids l (3 + C * 40) i)) Try.underlying24 elemInt rfl rfl (by repeat (first | exact Pick.here | apply Pick.there)) (by rw [icells_len, Nod.readKids_len, Nat.mul_one]) hy (Rd.row (.head _)) rfl (by intro u hu; simp [flat, Value.cells] at hu; subst hu; rfl) (by omega) (by simp only [maxLen]; omega) rfl fun q2 hq2 => ?_
                  rw [show flat [Value.int .i64 ((Big.val 0 ((l.drop (3 + C * 40 + i * 4)).take 4) : Nat) : Int)] = [Value.int .i64 ((Big.val 0 ((l.drop (3 + C * 40 + i * 4)).take 4) : Nat) : Int)] from rfl, ← icells_snoc, ← readKids_succ]
                  refine WL.nil (WN.nextE sh (by repeat (first | exact Part.nil | refine Part.cons (by repeat (first | exact Pick.here | apply Pick.there)) ?_ | refine Part.free ?_)) ?_)
                  (refine WE.order [11] (by repeat (first | exact Part.nil | refine Part.cons (by repeat (first | exact Pick.here | apply Pick.there)) ?_ | refine Part.free ?_)) (by kernel_rfl) ?_; (repeat (first | (refine WU.k_fld rfl ?_; (refine WU.kn rfl ?_; refine WU.take rfl rfl (fun _ _ _ h => h) (Yl.fld0 (t := 32) Try.underlying32 fl32 rfl rfl) rfl (by kernel_rfl) (by kernel_rfl) (by kernel_rfl) ?_)))); refine WU.nil ?_)
                  refine WE.only (i := 12) (by kernel_rfl) rfl fun sh => ?_
                  refine WL.storeAt (T := 24) Try.sizeOf24 rfl rfl rfl (by repeat (first | exact Pick.here | apply Pick.there)) rfl ?_
                  refine WL.nil (WN.lastE (by kernel_rfl) sh ?_)
                  refine WE.done (by kernel_rfl) ?_
                  (repeat (first | refine WL.step (Yl.move rfl) rfl ?_ | refine WL.step (Yl.assign rfl) rfl ?_ | (refine WL.k_bin .add ?_; refine WL.step (Yl.add64C rfl (by omega)) rfl ?_) | refine WC.region ?_ | refine WL.nil ?_ | refine WN.then_normal ?_ | refine WN.block_normal ?_))
                  exact WN.next (i + 1, q2) ⟨by simp only; omega, hq2⟩ (by simp only; omega) (.cons rfl rfl (.cons rfl rfl (.cons rfl rfl (.cons rfl rfl (.cons rfl (by show Value.int _ _ = Value.int _ _; congr 1; simp only; omega) (.cons rfl rfl .nil)))))) (by repeat (first | exact Part.nil | refine Part.cons (by repeat (first | exact Pick.here | apply Pick.there)) ?_ | refine Part.free ?_))
                · obtain rfl : i = C + 1 := by omega
                  (repeat (first | refine WL.pass rfl rfl rfl rfl ?_ | refine WL.step (Yl.move rfl) rfl ?_ | refine WL.step (Yl.pick_f rfl rfl rfl) rfl ?_ | (refine WL.k_bin .leq ?_; refine WL.step (Yl.leqF rfl rfl (by omega)) rfl ?_) | refine WC.seq ?_ | refine WC.region ?_ | refine WL.nil ?_ | refine WN.then_normal ?_))
                  refine WC.cond_false rfl rfl ?_
                  (repeat (first | refine WC.exit ?_ | refine WN.then_exit ?_ | refine WN.block_here ?_))
                  exact WN.join (ya, yc) hy (by repeat (first | exact Sub.nil | refine Sub.cons rfl rfl ?_)) (by repeat (first | exact Part.nil | refine Part.cons (by repeat (first | exact Pick.here | apply Pick.there)) ?_ | refine Part.free ?_))
              · intro ⟨ya, yc⟩ hyc
                simp only at hyc ⊢
                have hraw : Nod.raw l = (⟨false, Nod.readKeys l 3 C, [], Nod.readKids l (3 + C * 40) (C + 1)⟩ : Nod.N) := by rw [Nod.raw_f h3, hC]
                have hwf : (Nod.raw l).Wf := Nod.raw_wf hl (by rw [hmo, hC]; exact h4)
                rw [hraw] at hwf
                have lk := Nod.readKeys_len l 3 C
                have ly := Nod.readKids_len l (3 + C * 40) (C + 1)
                (repeat (first | (refine WL.k_load ?_; refine WL.step (Yl.loadAll (T' := 32) (cs := (ndl (⟨false, Nod.readKeys l 3 C, [], Nod.readKids l (3 + C * 40) (C + 1)⟩ : Nod.N) (⟨ka, kc, none, 0, ya, yc⟩ : Pl)).toArray) Try.isAgg32 Try.sizeOf32 rfl (by simp only [ndl, lk, ly]; exact (by repeat (first | exact .head _ | refine .tail _ ?_))) rfl) rfl ?_) | refine WC.seq ?_ | refine WC.region ?_))
                refine WL.callR (g := 16) Try.call16 rfl (fun w s => rencode_c (⟨false, Nod.readKeys l 3 C, [], Nod.readKids l (3 + C * 40) (C + 1)⟩ : Nod.N) (⟨ka, kc, none, 0, ya, yc⟩ : Pl) w hwf (NdRd.at_ ⟨Rd.row (by repeat (first | exact .head _ | refine .tail _ ?_)), Rd.nil, Rd.row (by repeat (first | exact .head _ | refine .tail _ ?_)), by simp only [lk]; exact hkc, Nat.le_refl _, by simp only [ly]; exact hyc⟩ s)) rfl fun q hq => ?_
                by_cases h5 : Nod.Ok (⟨false, Nod.readKeys l 3 C, [], Nod.readKids l (3 + C * 40) (C + 1)⟩ : Nod.N)
                · have he : Nod.encR (⟨false, Nod.readKeys l 3 C, [], Nod.readKids l (3 + C * 40) (C + 1)⟩ : Nod.N) = (0, Nod.page (⟨false, Nod.readKeys l 3 C, [], Nod.readKids l (3 + C * 40) (C + 1)⟩ : Nod.N)) := if_pos h5
                  have hpl := Nod.page_len hwf h5
                  rw [he] at hq ⊢
                  simp only [hpl] at hq ⊢
                  by_cases h6 : Nod.page (⟨false, Nod.readKeys l 3 C, [], Nod.readKids l (3 + C * 40) (C + 1)⟩ : Nod.N) = l
                  · have hg : Nod.Good l := ⟨hl, h2, by rw [hmo, hC]; exact h4, by rw [hraw]; exact h5, by rw [hraw]; exact h6⟩
                    rw [(Nod.dec_good hg).1, (Nod.dec_good hg).2, hraw]
                    (repeat (first | refine WL.want rfl rfl rfl ?_ | refine WL.step (Yl.move rfl) rfl ?_ | refine WL.step (Yl.assign rfl) rfl ?_ | refine WL.step (Yl.extract rfl rfl) rfl ?_ | refine WL.step (Yl.pick_f rfl rfl rfl) rfl ?_ | refine WL.step (Yl.neqF rfl rfl rfl) rfl ?_ | (refine WL.k_call 21 ?_; refine WL.callV (g := 21) (v := .bool true) Try.call21 rfl (fun w s => by have := same_c q.1 a 512 512 q.2 cap (Nod.page (⟨false, Nod.readKeys l 3 C, [], Nod.readKids l (3 + C * 40) (C + 1)⟩ : Nod.N)) l w hpl hl (by decide) (Rd.row (by repeat (first | exact .head _ | refine .tail _ ?_)) w s) (Rd.old hr w s); rwa [decide_eq_true h6] at this) rfl ?_) | refine WL.step (Yl.not rfl) rfl ?_ | refine WC.seq ?_ | refine WC.region ?_ | refine WL.nil ?_ | refine WN.then_normal ?_))
                    refine WC.cond_false rfl rfl ?_
                    (repeat (first | (refine WL.k_load ?_; refine WL.step (Yl.loadAll (T' := 32) (cs := (ndl (⟨false, Nod.readKeys l 3 C, [], Nod.readKids l (3 + C * 40) (C + 1)⟩ : Nod.N) (⟨ka, kc, none, 0, ya, yc⟩ : Pl)).toArray) Try.isAgg32 Try.sizeOf32 rfl (by simp only [ndl, lk, ly]; exact (by repeat (first | exact .head _ | refine .tail _ ?_))) rfl) rfl ?_) | refine WC.seq ?_ | refine WC.region ?_ | refine WN.then_normal ?_ | refine WC.skip ?_))
                    refine WL.storeWhole (k := 4) (us := (ndl (⟨false, Nod.readKeys l 3 C, [], Nod.readKids l (3 + C * 40) (C + 1)⟩ : Nod.N) (⟨ka, kc, none, 0, ya, yc⟩ : Pl)).toArray) Try.sizeOf32 rfl rfl rfl (by repeat (first | exact Pick.here | apply Pick.there)) rfl rfl ?_
                    (repeat (first | refine WL.step (Yl.assign rfl) rfl ?_ | refine WL.nil ?_ | refine WN.then_normal ?_ | refine WC.ret ?_))
                    exact WN.ret2C rfl Try.isAgg32 Try.sizeOf32 rfl rfl (by repeat (first | exact .head _ | refine .tail _ ?_)) rfl ⟨(⟨ka, kc, none, 0, ya, yc⟩ : Pl), by simp only [lk]; exact hkc, Nat.le_refl _, by simp only [ly]; exact hyc, rfl, rfl⟩ (.cons (by repeat (first | exact Pick.here | apply Pick.there)) (.free (.cons (by repeat (first | exact Pick.here | apply Pick.there)) .nil)))
                  · have hg : ¬ Nod.Good l := fun q => h6 (by have := q.2.2.2.2; rwa [hraw] at this)
                    rw [(Nod.dec_bad hg).1, (Nod.dec_bad hg).2]
                    (repeat (first | refine WL.want rfl rfl rfl ?_ | refine WL.step (Yl.move rfl) rfl ?_ | refine WL.step (Yl.assign rfl) rfl ?_ | refine WL.step (Yl.extract rfl rfl) rfl ?_ | refine WL.step (Yl.pick_f rfl rfl rfl) rfl ?_ | refine WL.step (Yl.neqF rfl rfl rfl) rfl ?_ | (refine WL.k_call 21 ?_; refine WL.callV (g := 21) (v := .bool false) Try.call21 rfl (fun w s => by have := same_c q.1 a 512 512 q.2 cap (Nod.page (⟨false, Nod.readKeys l 3 C, [], Nod.readKids l (3 + C * 40) (C + 1)⟩ : Nod.N)) l w hpl hl (by decide) (Rd.row (by repeat (first | exact .head _ | refine .tail _ ?_)) w s) (Rd.old hr w s); rwa [decide_eq_false h6] at this) rfl ?_) | refine WL.step (Yl.not rfl) rfl ?_ | refine WC.seq ?_ | refine WC.region ?_ | refine WL.nil ?_ | refine WN.then_normal ?_))
                    refine WC.cond_true rfl rfl ?_
                    (repeat (first | refine WL.step (Yl.build (ps := []) rfl buildRZ) rfl ?_ | refine WC.seq ?_ | refine WC.region ?_))
                    refine WL.storeWhole (T := 32) (k := 4) (us := (ndl Nod.zero pz).toArray) Try.sizeOf32 rfl rfl rfl (by repeat (first | exact Pick.here | apply Pick.there)) rfl rfl ?_
                    (repeat (first | refine WL.step (Yl.assign rfl) rfl ?_ | refine WL.nil ?_ | refine WN.then_normal ?_ | refine WC.ret ?_ | refine WN.then_ret ?_))
                    exact WN.ret2C rfl Try.isAgg32 Try.sizeOf32 rfl rfl (by repeat (first | exact .head _ | refine .tail _ ?_)) rfl ⟨pz, Nat.le_refl _, Nat.le_refl _, Nat.le_refl _, rfl, rfl⟩ (.free (.free (.free .nil)))
                · have he : Nod.encR (⟨false, Nod.readKeys l 3 C, [], Nod.readKids l (3 + C * 40) (C + 1)⟩ : Nod.N) = (2, []) := if_neg h5
                  rw [he] at hq ⊢
                  have hg : ¬ Nod.Good l := fun q => h5 (by have := q.2.2.2.1; rwa [hraw] at this)
                  rw [(Nod.dec_bad hg).1, (Nod.dec_bad hg).2]
                  (repeat (first | refine WL.pass rfl rfl rfl rfl ?_ | refine WL.step (Yl.move rfl) rfl ?_ | refine WL.step (Yl.assign rfl) rfl ?_ | refine WL.step (Yl.extract rfl rfl) rfl ?_ | refine WL.step (Yl.pick_t rfl rfl rfl) rfl ?_ | (refine WL.k_bin .neq ?_; refine WL.step (Yl.neqT rfl rfl (by decide)) rfl ?_) | refine WC.seq ?_ | refine WC.region ?_ | refine WL.nil ?_ | refine WN.then_normal ?_))
                  refine WC.cond_true rfl rfl ?_
                  (repeat (first | refine WL.step (Yl.build (ps := []) rfl buildRZ) rfl ?_ | refine WC.seq ?_ | refine WC.region ?_))
                  refine WL.storeWhole (T := 32) (k := 4) (us := (ndl Nod.zero pz).toArray) Try.sizeOf32 rfl rfl rfl (by repeat (first | exact Pick.here | apply Pick.there)) rfl rfl ?_
                  (repeat (first | refine WL.step (Yl.assign rfl) rfl ?_ | refine WL.nil ?_ | refine WN.then_normal ?_ | refine WC.ret ?_ | refine WN.then_ret ?_))
                  exact WN.ret2C rfl Try.isAgg32 Try.sizeOf32 rfl rfl (by repeat (first | exact .head _ | refine .tail _ ?_)) rfl ⟨pz, Nat.le_refl _, Nat.le_refl _, Nat.le_refl _, rfl, rfl⟩ (.free (.free (.free .nil)))
        · have hg : ¬ Nod.Good l := fun q => h4 (by have := q.2.2.1; rwa [hmo] at this)
          rw [(Nod.dec_bad hg).1, (Nod.dec_bad hg).2]
          by_cases h4b : Nod.count l ≤ 11
          · exact absurd h4b (by omega)
          · (repeat (first | (refine WL.kG ?_; first | refine WL.passU rfl rfl rfl ?_ | refine WL.pass rfl rfl rfl rfl ?_) | refine WL.step (Yl.move rfl) rfl ?_ | refine WL.step (Yl.assign rfl) rfl ?_ | refine WL.step (Yl.pick_t rfl rfl rfl) rfl ?_ | (refine WL.k_slice ?_; refine WL.step (Yl.cut (t := 34) (lo := 1) (hi := 3) Try.underlying34 Try.sizeOf5 rfl rfl rfl (by decide) (by omega)) rfl ?_) | (refine WL.k_call 47 ?_; refine WL.callV (g := 47) (v := .int .u64 ((Nod.count l : Nat) : Int)) Try.call47 rfl (fun w s => rnumber_c _ 2 _ ((l.drop 1).take 2) w (by rw [List.length_take, List.length_drop]; omega) (by decide) (hcutR 1 2 (Rd.old hr) w s)) rfl ?_) | (refine WL.k_conv ?_; refine WL.step (Yl.conv64 (s := 39) (t := 3) Try.underlying39 Try.underlying3 rfl (by omega)) rfl ?_) | (refine WL.k_bin .gtr ?_; refine WL.step (Yl.gtrT rfl rfl (by omega)) rfl ?_) | refine WC.seq ?_ | refine WC.region ?_ | refine WL.nil ?_ | refine WN.then_normal ?_))
            refine WC.cond_true rfl rfl ?_
            (repeat (first | refine WL.step (Yl.build (ps := []) rfl buildRZ) rfl ?_ | refine WC.seq ?_ | refine WC.region ?_))
            refine WL.storeWhole (T := 32) (k := 4) (us := (ndl Nod.zero pz).toArray) Try.sizeOf32 rfl rfl rfl (by repeat (first | exact Pick.here | apply Pick.there)) rfl rfl ?_
            (repeat (first | refine WL.step (Yl.assign rfl) rfl ?_ | refine WL.nil ?_ | refine WN.then_normal ?_ | refine WC.ret ?_ | refine WN.then_ret ?_))
            exact WN.ret2C rfl Try.isAgg32 Try.sizeOf32 rfl rfl (by repeat (first | exact .head _ | refine .tail _ ?_)) rfl ⟨pz, Nat.le_refl _, Nat.le_refl _, Nat.le_refl _, rfl, rfl⟩ (.free (.free (.free .nil)))
    · have hg : ¬ Nod.Good l := fun q => h2 q.2.1
      rw [(Nod.dec_bad hg).1, (Nod.dec_bad hg).2]
      (repeat (first | refine WL.want rfl rfl rfl ?_ | refine WL.step (Yl.move rfl) rfl ?_ | refine WL.step (Yl.assign rfl) rfl ?_ | refine WL.step (Yl.load (T := 5) Try.isAgg5 rfl (.old hr) hb0) rfl ?_ | refine WL.step (Yl.pick_f rfl rfl rfl) rfl ?_ | refine WL.step (Yl.len (t := 34) Try.underlying34 rfl) rfl ?_ | (refine WL.k_bin .neq ?_; refine WL.step (Yl.neqF rfl rfl (by omega)) rfl ?_) | (refine WL.k_idxa ?_; refine WL.step (Yl.indexAddr1 (t := 34) (j := 0) Try.underlying34 Try.sizeOf5 rfl rfl (.old hr) hne (by omega)) rfl ?_) | (refine WL.k_bin .gtr ?_; refine WL.step (Yl.gtrT rfl rfl (by omega)) rfl ?_) | refine WC.seq ?_ | refine WC.region ?_ | refine WL.nil ?_ | refine WN.then_normal ?_))
      refine WC.cond_true rfl rfl ?_
      (repeat (first | refine WL.step (Yl.build (ps := []) rfl buildRZ) rfl ?_ | refine WC.seq ?_ | refine WC.region ?_))
      refine WL.storeWhole (T := 32) (k := 4) (us := (ndl Nod.zero pz).toArray) Try.sizeOf32 rfl rfl rfl (by repeat (first | exact Pick.here | apply Pick.there)) rfl rfl ?_
      (repeat (first | refine WL.step (Yl.assign rfl) rfl ?_ | refine WL.nil ?_ | refine WN.then_normal ?_ | refine WC.ret ?_ | refine WN.then_ret ?_))
      exact WN.ret2C rfl Try.isAgg32 Try.sizeOf32 rfl rfl (by repeat (first | exact .head _ | refine .tail _ ?_)) rfl ⟨pz, Nat.le_refl _, Nat.le_refl _, Nat.le_refl _, rfl, rfl⟩ (.free (.free (.free .nil)))
  · have hg : ¬ Nod.Good l := fun q => h1 (by rw [← hl]; exact q.1)
    rw [(Nod.dec_bad hg).1, (Nod.dec_bad hg).2]
    (repeat (first | refine WL.pass rfl rfl rfl rfl ?_ | refine WL.step (Yl.move rfl) rfl ?_ | refine WL.step (Yl.assign rfl) rfl ?_ | refine WL.step (Yl.pick_t rfl rfl rfl) rfl ?_ | refine WL.step (Yl.len (t := 34) Try.underlying34 rfl) rfl ?_ | (refine WL.k_bin .neq ?_; refine WL.step (Yl.neqT rfl rfl (by omega)) rfl ?_) | refine WC.seq ?_ | refine WC.region ?_ | refine WL.nil ?_ | refine WN.then_normal ?_))
    refine WC.cond_true rfl rfl ?_
    (repeat (first | refine WL.step (Yl.build (ps := []) rfl buildRZ) rfl ?_ | refine WC.seq ?_ | refine WC.region ?_))
    refine WL.storeWhole (T := 32) (k := 4) (us := (ndl Nod.zero pz).toArray) Try.sizeOf32 rfl rfl rfl (by repeat (first | exact Pick.here | apply Pick.there)) rfl rfl ?_
    (repeat (first | refine WL.step (Yl.assign rfl) rfl ?_ | refine WL.nil ?_ | refine WN.then_normal ?_ | refine WC.ret ?_ | refine WN.then_ret ?_))
    exact WN.ret2C rfl Try.isAgg32 Try.sizeOf32 rfl rfl (by repeat (first | exact .head _ | refine .tail _ ?_)) rfl ⟨pz, Nat.le_refl _, Nat.le_refl _, Nat.le_refl _, rfl, rfl⟩ (.free (.free (.free .nil)))
end Go.Proofs.Ytbfhdggfdhlkfaa
