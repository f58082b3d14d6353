/- What bytes are decoded to, by package node. -/
import Derived.Test.YtbfhdggfdhlkfaaNod5
import Derived.Test.YtbfhdggfdhlkfaaNod6
import Derived.Test.YtbfhdggfdhlkfaaEqu
namespace Go.Proofs.Ytbfhdggfdhlkfaa
set_option linter.unusedVariables false
set_option linter.unusedSimpArgs false
open Go Go.RowKit
set_option maxRecDepth 100000
set_option maxHeartbeats 8000000
/-- A node in new memory. -/
def NdNew (TK TV : TypeId) (x : Nod.N) (mk : Value → Value) : Value → List HA → Prop := fun u B => ∃ p : Pl, x.ks.length ≤ p.kc ∧ x.vs.length ≤ p.vc ∧ x.cs.length ≤ p.cc ∧ u = mk (ndv x p) ∧
  B = [.row p.ka p.kc TK 33 (kcells x.ks), .row p.va p.vc TV 20 (vcells x.vs), .row p.ca p.cc 3 1 (icells x.cs)]
abbrev NdP (x : Nod.N) : Value → List HA → Prop := NdNew 42 73 x id
abbrev NdR (x : Nod.N) : Value → List HA → Prop := NdNew 45 78 x id
abbrev pz : Pl := ⟨none, 0, none, 0, none, 0⟩
theorem buildZ (w : World) : (Instr.build 26 [].toArray).run Try.prog w = .ok (.agg #[.bool false, .slice none 0 0, .slice none 0 0, .slice none 0 0]) w := by
  simp [Instr.build, Try.zeroValue26, run_underlying Try.underlying26, Value.cells, Instr.fill]
theorem buildL (v : Bool) (w : World) : (Instr.build 26 [(0, Value.bool v)].toArray).run Try.prog w = .ok (.agg #[.bool v, .slice none 0 0, .slice none 0 0, .slice none 0 0]) w := by
  simp [Instr.build, Try.zeroValue26, run_underlying Try.underlying26, Try.sizeOf4, Value.cells, Instr.fill]
theorem buildRd (a : Option Addr) (cap : Nat) (w : World) : (Instr.build 85 [(0, Value.slice a 512 cap), (1, .int .i64 1)].toArray).run Try.prog w = .ok (.agg #[.slice a 512 cap, .int .i64 1]) w := by
  simp [Instr.build, Try.zeroValue85, run_underlying Try.underlying85, Try.sizeOf3, Try.sizeOf34, Value.cells, Instr.fill]
attribute [local irreducible] WL WC WN Yl WH WQ WT WE WU Nod.page Big.be
theorem decode_c (a : Option Addr) (n cap : Nat) (l : List UInt8) (w : World) (hl : l.length = n) (hc : n ≤ cap) (hr : CellsAt w a (bs l)) :
    Calls Try.prog 23 #[.slice a n cap] w (Gives (NdNew 42 73 (Nod.dec l) fun v => .tuple #[v, .int .i64 ((Nod.decE l : Nat) : Int)]) w) := by
  refine enter (args := [_]) Try.func23 Try.ntmps23 rfl rfl ?_
  (repeat (first | refine WC.seq ?_ | refine WC.region ?_))
  refine WL.allocA Try.zeroValue26 rfl fun b2 => ?_
  by_cases h1 : n = 512
  · subst h1
    have hb0 := bs_get (l := l) (i := 0) (by omega)
    have hne := bs_ne (l := l) (i := 0) (by omega)
    have hlt := byte_lt (l.getD 0 0)
    by_cases h2 : (l.getD 0 0).toNat ≤ 1
    · (repeat (first | refine WL.want rfl rfl rfl ?_ | refine WL.step (Yl.move rfl) rfl ?_ | refine WL.step (Yl.assign rfl) rfl ?_ | refine WL.step (Yl.load (T := 5) Try.isAgg5 rfl (.old hr) hb0) rfl ?_ | refine WL.step (Yl.pick_f rfl rfl rfl) rfl ?_ | refine WL.step (Yl.len (t := 34) Try.underlying34 rfl) rfl ?_ | (refine WL.k_bin .neq ?_; refine WL.step (Yl.neqF rfl rfl (by omega)) rfl ?_) | (refine WL.k_idxa ?_; refine WL.step (Yl.indexAddr1 (t := 34) (j := 0) Try.underlying34 Try.sizeOf5 rfl rfl (.old hr) hne (by omega)) rfl ?_) | (refine WL.k_bin .gtr ?_; refine WL.step (Yl.gtrF rfl rfl (by omega)) rfl ?_) | refine WC.seq ?_ | refine WC.region ?_ | refine WL.nil ?_ | refine WN.then_normal ?_))
      refine WC.cond_false rfl rfl ?_
      (repeat (first | refine WL.step (Yl.move rfl) rfl ?_ | refine WL.step (Yl.build (ps := [(0, .tmp 19), (1, .const (.int .i64 1))]) rfl (buildRd a cap)) rfl ?_ | refine WC.seq ?_ | refine WC.region ?_ | refine WN.then_normal ?_ | refine WC.skip ?_))
      refine WL.boxA (cs := #[.slice a 512 cap, .int .i64 ((1 : Nat) : Int)]) rfl rfl fun r => ?_
      have hcw : Nod.count l < 65536 := by
        have h1 := Big.val_lt ((l.drop 1).take 2)
        have h2 : 256 ^ ((l.drop 1).take 2).length ≤ 256 ^ 2 := Nat.pow_le_pow_right (by decide) (by rw [List.length_take]; omega)
        show Big.val 0 _ < _
        omega
      by_cases h3 : (l.getD 0 0).toNat = 0
      · have hmo : Nod.most (decide ((l.getD 0 0).toNat = 0)) = 8 := by rw [decide_eq_true h3]; rfl
        (repeat (first | refine WL.step (Yl.move rfl) rfl ?_ | refine WL.step (Yl.assign rfl) rfl ?_ | refine WL.step (Yl.load (T := 5) Try.isAgg5 rfl (.old hr) hb0) rfl ?_ | (refine WL.k_idxa ?_; refine WL.step (Yl.indexAddr1 (t := 34) (j := 0) Try.underlying34 Try.sizeOf5 rfl rfl (.old hr) hne (by omega)) rfl ?_) | (refine WL.k_bin .eql ?_; refine WL.step (Yl.eqlT rfl rfl (by omega)) rfl ?_) | refine WL.step (Yl.build (ps := [(0, .tmp 25)]) rfl (buildL true)) rfl ?_ | refine WC.seq ?_ | refine WC.region ?_ | refine WL.nil ?_ | refine WN.then_normal ?_))
        refine WL.allocA Try.zeroValue26 rfl fun b5 => ?_
        refine WL.storeWhole (T := 26) (k := 4) Try.sizeOf26 rfl rfl rfl .here rfl rfl ?_
        (repeat (first | refine WL.step (Yl.move rfl) rfl ?_ | refine WC.seq ?_ | refine WC.region ?_ | refine WL.nil ?_ | refine WN.then_normal ?_))
        refine WL.callS (g := 39) (A0 := [rdr r a cap 1]) Try.call39 rfl (.trans (List.Perm.swap _ _ _) (.cons _ (List.Perm.refl _))) (fun w s0 s1 => ruint_r r a cap 1 2 l w hl (by omega) (by decide) s1 (hr.out.pass s0 (outR (by repeat (first | exact .head _ | refine .tail _ ?_))))) rfl fun v C hv => ?_
        obtain ⟨rfl, rfl⟩ := hv
        simp only [List.cons_append, List.nil_append]
        rw [show Big.val 0 ((l.drop 1).take 2) = Nod.count l from rfl]
        (repeat (first | refine WL.step (Yl.move rfl) rfl ?_ | refine WL.step (Yl.assign rfl) rfl ?_ | (refine WL.k_load ?_; refine WL.step (Yl.loadAll (T := 26) (T' := 26) Try.isAgg26 Try.sizeOf26 rfl (by repeat (first | exact .head _ | refine .tail _ ?_)) rfl) rfl ?_) | (refine WL.k_conv ?_; refine WL.step (Yl.conv64 (s := 39) (t := 3) Try.underlying39 Try.underlying3 rfl (by omega)) rfl ?_) | (refine WL.k_call 36 ?_; refine WL.callV (g := 36) Try.call36 rfl (fun w s => most_c ⟨true, [], [], []⟩ pz w) rfl ?_) | refine WL.step (Yl.gtr rfl rfl) rfl ?_ | refine WC.seq ?_ | refine WC.region ?_ | refine WL.nil ?_ | refine WN.then_normal ?_))
        by_cases h4 : Nod.count l ≤ 8
        · refine WC.ite_false rfl (by show ¬ (((8 : Nat) : Int) < ((Nod.count l : Nat) : Int)); omega) ?_
          (repeat (first | refine WL.step (Yl.move rfl) rfl ?_ | refine WL.step (Yl.bindFunc (vs := [.pointer (some ⟨r, 0, none⟩)]) rfl) rfl ?_ | refine WC.seq ?_ | refine WC.region ?_ | refine WN.then_normal ?_ | refine WC.skip ?_))
          refine WL.callS (g := 40) (A0 := [rdr r a cap 3]) Try.call40 rfl (List.Perm.refl _) (fun w s0 s1 => itemsK_r r a cap 3 (Nod.count l) l w hl hc (by omega) s1 (hr.out.pass s0 (outR (by repeat (first | exact .head _ | refine .tail _ ?_))))) rfl fun v C hv => ?_
          obtain ⟨ka, kc, hkc, rfl, rfl⟩ := hv
          simp only [List.cons_append, List.nil_append]
          (repeat (first | refine WL.step (Yl.fld0 (t := 26) Try.underlying26 fl26 rfl rfl) rfl ?_))
          refine WL.storeAt (T := 22) Try.sizeOf22 rfl rfl rfl (by repeat (first | exact Pick.here | apply Pick.there)) rfl ?_
          (repeat (first | (refine WL.k_load ?_; refine WL.step (Yl.loadBlk (T := 4) Try.isAgg4 rfl (by repeat (first | exact .head _ | refine .tail _ ?_)) (by rfl)) rfl ?_) | refine WL.step (Yl.fld0 (t := 26) Try.underlying26 fl26 rfl rfl) rfl ?_ | refine WC.seq ?_ | refine WC.region ?_ | refine WL.nil ?_ | refine WN.then_normal ?_))
          refine WC.cond_true rfl rfl ?_
          (repeat (first | refine WL.step (Yl.move rfl) rfl ?_ | refine WL.step (Yl.bindFunc (vs := [.pointer (some ⟨r, 0, none⟩)]) rfl) rfl ?_ | refine WC.region ?_))
          refine WL.callS (g := 42) (A0 := [rdr r a cap (3 + Nod.count l * 40)]) Try.call42 rfl (.trans (.cons _ (List.Perm.swap _ _ _)) (List.Perm.swap _ _ _)) (fun w s0 s1 => itemsV_r r a cap (3 + Nod.count l * 40) (Nod.count l) l w hl hc (by omega) s1 (hr.out.pass s0 (outR (by repeat (first | exact .head _ | refine .tail _ ?_))))) rfl fun v C hv => ?_
          obtain ⟨ya, yc, hyc, rfl, rfl⟩ := hv
          simp only [List.cons_append, List.nil_append]
          (repeat (first | refine WL.step (Yl.fld0 (t := 26) Try.underlying26 fl26 rfl rfl) rfl ?_))
          refine WL.storeAt (T := 23) Try.sizeOf23 rfl rfl rfl (by repeat (first | exact Pick.here | apply Pick.there)) rfl ?_
          have hraw : Nod.raw l = (⟨true, Nod.readKeys l 3 (Nod.count l), Nod.readVals l (3 + Nod.count l * 40) (Nod.count l), []⟩ : Nod.N) := Nod.raw_t h3
          have hwf : (Nod.raw l).Wf := Nod.raw_wf hl (by rw [hmo]; exact h4)
          rw [hraw] at hwf
          have lk := Nod.readKeys_len l 3 (Nod.count l)
          have ly := Nod.readVals_len l (3 + Nod.count l * 40) (Nod.count l)
          (repeat (first | (refine WL.k_load ?_; refine WL.step (Yl.loadAll (T' := 26) (cs := (ndl (⟨true, Nod.readKeys l 3 (Nod.count l), Nod.readVals l (3 + Nod.count l * 40) (Nod.count l), []⟩ : Nod.N) (⟨ka, kc, ya, yc, none, 0⟩ : Pl)).toArray) Try.isAgg26 Try.sizeOf26 rfl (by simp only [ndl, lk, ly]; exact (by repeat (first | exact .head _ | refine .tail _ ?_))) rfl) rfl ?_) | refine WC.seq ?_ | refine WC.region ?_ | refine WL.nil ?_ | refine WN.then_normal ?_))
          refine WL.callR (g := 15) Try.call15 rfl (fun w s => encode_c (⟨true, Nod.readKeys l 3 (Nod.count l), Nod.readVals l (3 + Nod.count l * 40) (Nod.count l), []⟩ : Nod.N) (⟨ka, kc, ya, yc, none, 0⟩ : Pl) w hwf (NdRd.at_ ⟨Rd.row (by repeat (first | exact .head _ | refine .tail _ ?_)), Rd.row (by repeat (first | exact .head _ | refine .tail _ ?_)), Rd.nil, by simp only [lk]; exact hkc, by simp only [ly]; exact hyc, Nat.le_refl _⟩ s)) rfl fun q hq => ?_
          by_cases h5 : Nod.Ok (⟨true, Nod.readKeys l 3 (Nod.count l), Nod.readVals l (3 + Nod.count l * 40) (Nod.count l), []⟩ : Nod.N)
          · have he : Nod.encR (⟨true, Nod.readKeys l 3 (Nod.count l), Nod.readVals l (3 + Nod.count l * 40) (Nod.count l), []⟩ : Nod.N) = (0, Nod.page (⟨true, Nod.readKeys l 3 (Nod.count l), Nod.readVals l (3 + Nod.count l * 40) (Nod.count l), []⟩ : Nod.N)) := if_pos h5
            have hpl := Nod.page_len hwf h5
            rw [he] at hq ⊢
            simp only [hpl] at hq ⊢
            by_cases h6 : Nod.page (⟨true, Nod.readKeys l 3 (Nod.count l), Nod.readVals l (3 + Nod.count l * 40) (Nod.count l), []⟩ : Nod.N) = l
            · have hg : Nod.Good l := ⟨hl, h2, by rw [hmo]; exact h4, by rw [hraw]; exact h5, by rw [hraw]; exact h6⟩
              rw [(Nod.dec_good hg).1, (Nod.dec_good hg).2, hraw]
              (repeat (first | refine WL.want rfl rfl rfl ?_ | refine WL.step (Yl.move rfl) rfl ?_ | refine WL.step (Yl.assign rfl) rfl ?_ | refine WL.step (Yl.extract rfl rfl) rfl ?_ | refine WL.step (Yl.pick_f rfl rfl rfl) rfl ?_ | refine WL.step (Yl.neqF rfl rfl rfl) rfl ?_ | (refine WL.k_call 46 ?_; refine WL.callV (g := 46) (v := .bool true) Try.call46 rfl (fun w s => by have := equal_c q.1 a 512 512 q.2 cap (Nod.page (⟨true, Nod.readKeys l 3 (Nod.count l), Nod.readVals l (3 + Nod.count l * 40) (Nod.count l), []⟩ : Nod.N)) l w hpl hl (by decide) (Rd.row (by repeat (first | exact .head _ | refine .tail _ ?_)) w s) (Rd.old hr w s); rwa [decide_eq_true h6] at this) rfl ?_) | refine WL.step (Yl.not rfl) rfl ?_ | refine WC.seq ?_ | refine WC.region ?_ | refine WL.nil ?_ | refine WN.then_normal ?_))
              refine WC.cond_false rfl rfl ?_
              (repeat (first | (refine WL.k_load ?_; refine WL.step (Yl.loadAll (T' := 26) (cs := (ndl (⟨true, Nod.readKeys l 3 (Nod.count l), Nod.readVals l (3 + Nod.count l * 40) (Nod.count l), []⟩ : Nod.N) (⟨ka, kc, ya, yc, none, 0⟩ : Pl)).toArray) Try.isAgg26 Try.sizeOf26 rfl (by simp only [ndl, lk, ly]; exact (by repeat (first | exact .head _ | refine .tail _ ?_))) rfl) rfl ?_) | refine WC.seq ?_ | refine WC.region ?_ | refine WN.then_normal ?_ | refine WC.skip ?_))
              refine WL.storeWhole (k := 4) (us := (ndl (⟨true, Nod.readKeys l 3 (Nod.count l), Nod.readVals l (3 + Nod.count l * 40) (Nod.count l), []⟩ : Nod.N) (⟨ka, kc, ya, yc, none, 0⟩ : Pl)).toArray) Try.sizeOf26 rfl rfl rfl (by repeat (first | exact Pick.here | apply Pick.there)) rfl rfl ?_
              (repeat (first | refine WL.step (Yl.assign rfl) rfl ?_ | refine WL.nil ?_ | refine WN.then_normal ?_ | refine WC.ret ?_))
              exact WN.ret2C rfl Try.isAgg26 Try.sizeOf26 rfl rfl (by repeat (first | exact .head _ | refine .tail _ ?_)) rfl ⟨(⟨ka, kc, ya, yc, none, 0⟩ : Pl), by simp only [lk]; exact hkc, by simp only [ly]; exact hyc, Nat.le_refl _, rfl, rfl⟩ (.cons (by repeat (first | exact Pick.here | apply Pick.there)) (.cons (by repeat (first | exact Pick.here | apply Pick.there)) (.free .nil)))
            · have hg : ¬ Nod.Good l := fun q => h6 (by have := q.2.2.2.2; rwa [hraw] at this)
              rw [(Nod.dec_bad hg).1, (Nod.dec_bad hg).2]
              (repeat (first | refine WL.want rfl rfl rfl ?_ | refine WL.step (Yl.move rfl) rfl ?_ | refine WL.step (Yl.assign rfl) rfl ?_ | refine WL.step (Yl.extract rfl rfl) rfl ?_ | refine WL.step (Yl.pick_f rfl rfl rfl) rfl ?_ | refine WL.step (Yl.neqF rfl rfl rfl) rfl ?_ | (refine WL.k_call 46 ?_; refine WL.callV (g := 46) (v := .bool false) Try.call46 rfl (fun w s => by have := equal_c q.1 a 512 512 q.2 cap (Nod.page (⟨true, Nod.readKeys l 3 (Nod.count l), Nod.readVals l (3 + Nod.count l * 40) (Nod.count l), []⟩ : Nod.N)) l w hpl hl (by decide) (Rd.row (by repeat (first | exact .head _ | refine .tail _ ?_)) w s) (Rd.old hr w s); rwa [decide_eq_false h6] at this) rfl ?_) | refine WL.step (Yl.not rfl) rfl ?_ | refine WC.seq ?_ | refine WC.region ?_ | refine WL.nil ?_ | refine WN.then_normal ?_))
              refine WC.cond_true rfl rfl ?_
              (repeat (first | refine WL.step (Yl.build (ps := []) rfl buildZ) rfl ?_ | refine WC.seq ?_ | refine WC.region ?_))
              refine WL.storeWhole (T := 26) (k := 4) (us := (ndl Nod.zero pz).toArray) Try.sizeOf26 rfl rfl rfl (by repeat (first | exact Pick.here | apply Pick.there)) rfl rfl ?_
              (repeat (first | refine WL.step (Yl.assign rfl) rfl ?_ | refine WL.nil ?_ | refine WN.then_normal ?_ | refine WC.ret ?_ | refine WN.then_ret ?_))
              exact WN.ret2C rfl Try.isAgg26 Try.sizeOf26 rfl rfl (by repeat (first | exact .head _ | refine .tail _ ?_)) rfl ⟨pz, Nat.le_refl _, Nat.le_refl _, Nat.le_refl _, rfl, rfl⟩ (.free (.free (.free .nil)))
          · have he : Nod.encR (⟨true, Nod.readKeys l 3 (Nod.count l), Nod.readVals l (3 + Nod.count l * 40) (Nod.count l), []⟩ : Nod.N) = (2, []) := if_neg h5
            rw [he] at hq ⊢
            have hg : ¬ Nod.Good l := fun q => h5 (by have := q.2.2.2.1; rwa [hraw] at this)
            rw [(Nod.dec_bad hg).1, (Nod.dec_bad hg).2]
            (repeat (first | refine WL.pass rfl rfl rfl rfl ?_ | refine WL.step (Yl.move rfl) rfl ?_ | refine WL.step (Yl.assign rfl) rfl ?_ | refine WL.step (Yl.extract rfl rfl) rfl ?_ | refine WL.step (Yl.pick_t rfl rfl rfl) rfl ?_ | (refine WL.k_bin .neq ?_; refine WL.step (Yl.neqT rfl rfl (by decide)) rfl ?_) | refine WC.seq ?_ | refine WC.region ?_ | refine WL.nil ?_ | refine WN.then_normal ?_))
            refine WC.cond_true rfl rfl ?_
            (repeat (first | refine WL.step (Yl.build (ps := []) rfl buildZ) rfl ?_ | refine WC.seq ?_ | refine WC.region ?_))
            refine WL.storeWhole (T := 26) (k := 4) (us := (ndl Nod.zero pz).toArray) Try.sizeOf26 rfl rfl rfl (by repeat (first | exact Pick.here | apply Pick.there)) rfl rfl ?_
            (repeat (first | refine WL.step (Yl.assign rfl) rfl ?_ | refine WL.nil ?_ | refine WN.then_normal ?_ | refine WC.ret ?_ | refine WN.then_ret ?_))
            exact WN.ret2C rfl Try.isAgg26 Try.sizeOf26 rfl rfl (by repeat (first | exact .head _ | refine .tail _ ?_)) rfl ⟨pz, Nat.le_refl _, Nat.le_refl _, Nat.le_refl _, rfl, rfl⟩ (.free (.free (.free .nil)))
        · have hg : ¬ Nod.Good l := fun q => h4 (by have := q.2.2.1; rwa [hmo] at this)
          rw [(Nod.dec_bad hg).1, (Nod.dec_bad hg).2]
          refine WC.ite_true rfl (by show (((8 : Nat) : Int) < ((Nod.count l : Nat) : Int)); omega) ?_
          (repeat (first | refine WL.step (Yl.build (ps := []) rfl buildZ) rfl ?_ | refine WC.seq ?_ | refine WC.region ?_))
          refine WL.storeWhole (T := 26) (k := 4) (us := (ndl Nod.zero pz).toArray) Try.sizeOf26 rfl rfl rfl (by repeat (first | exact Pick.here | apply Pick.there)) rfl rfl ?_
          (repeat (first | refine WL.step (Yl.assign rfl) rfl ?_ | refine WL.nil ?_ | refine WN.then_normal ?_ | refine WC.ret ?_ | refine WN.then_ret ?_))
          exact WN.ret2C rfl Try.isAgg26 Try.sizeOf26 rfl rfl (by repeat (first | exact .head _ | refine .tail _ ?_)) rfl ⟨pz, Nat.le_refl _, Nat.le_refl _, Nat.le_refl _, rfl, rfl⟩ (.free (.free (.free .nil)))
      · have hmo : Nod.most (decide ((l.getD 0 0).toNat = 0)) = 11 := by rw [decide_eq_false h3]; rfl
        (repeat (first | refine WL.step (Yl.move rfl) rfl ?_ | refine WL.step (Yl.assign rfl) rfl ?_ | refine WL.step (Yl.load (T := 5) Try.isAgg5 rfl (.old hr) hb0) rfl ?_ | (refine WL.k_idxa ?_; refine WL.step (Yl.indexAddr1 (t := 34) (j := 0) Try.underlying34 Try.sizeOf5 rfl rfl (.old hr) hne (by omega)) rfl ?_) | (refine WL.k_bin .eql ?_; refine WL.step (Yl.eqlF rfl rfl (by omega)) rfl ?_) | refine WL.step (Yl.build (ps := [(0, .tmp 25)]) rfl (buildL false)) rfl ?_ | refine WC.seq ?_ | refine WC.region ?_ | refine WL.nil ?_ | refine WN.then_normal ?_))
        refine WL.allocA Try.zeroValue26 rfl fun b5 => ?_
        refine WL.storeWhole (T := 26) (k := 4) Try.sizeOf26 rfl rfl rfl .here rfl rfl ?_
        (repeat (first | refine WL.step (Yl.move rfl) rfl ?_ | refine WC.seq ?_ | refine WC.region ?_ | refine WL.nil ?_ | refine WN.then_normal ?_))
        refine WL.callS (g := 39) (A0 := [rdr r a cap 1]) Try.call39 rfl (.trans (List.Perm.swap _ _ _) (.cons _ (List.Perm.refl _))) (fun w s0 s1 => ruint_r r a cap 1 2 l w hl (by omega) (by decide) s1 (hr.out.pass s0 (outR (by repeat (first | exact .head _ | refine .tail _ ?_))))) rfl fun v C hv => ?_
        obtain ⟨rfl, rfl⟩ := hv
        simp only [List.cons_append, List.nil_append]
        rw [show Big.val 0 ((l.drop 1).take 2) = Nod.count l from rfl]
        (repeat (first | refine WL.step (Yl.move rfl) rfl ?_ | refine WL.step (Yl.assign rfl) rfl ?_ | (refine WL.k_load ?_; refine WL.step (Yl.loadAll (T := 26) (T' := 26) Try.isAgg26 Try.sizeOf26 rfl (by repeat (first | exact .head _ | refine .tail _ ?_)) rfl) rfl ?_) | (refine WL.k_conv ?_; refine WL.step (Yl.conv64 (s := 39) (t := 3) Try.underlying39 Try.underlying3 rfl (by omega)) rfl ?_) | (refine WL.k_call 36 ?_; refine WL.callV (g := 36) Try.call36 rfl (fun w s => most_c ⟨false, [], [], []⟩ pz w) rfl ?_) | refine WL.step (Yl.gtr rfl rfl) rfl ?_ | refine WC.seq ?_ | refine WC.region ?_ | refine WL.nil ?_ | refine WN.then_normal ?_))
        by_cases h4 : Nod.count l ≤ 11
        · refine WC.ite_false rfl (by show ¬ (((11 : Nat) : Int) < ((Nod.count l : Nat) : Int)); omega) ?_
          (repeat (first | refine WL.step (Yl.move rfl) rfl ?_ | refine WL.step (Yl.bindFunc (vs := [.pointer (some ⟨r, 0, none⟩)]) rfl) rfl ?_ | refine WC.seq ?_ | refine WC.region ?_ | refine WN.then_normal ?_ | refine WC.skip ?_))
          refine WL.callS (g := 40) (A0 := [rdr r a cap 3]) Try.call40 rfl (List.Perm.refl _) (fun w s0 s1 => itemsK_r r a cap 3 (Nod.count l) l w hl hc (by omega) s1 (hr.out.pass s0 (outR (by repeat (first | exact .head _ | refine .tail _ ?_))))) rfl fun v C hv => ?_
          obtain ⟨ka, kc, hkc, rfl, rfl⟩ := hv
          simp only [List.cons_append, List.nil_append]
          (repeat (first | refine WL.step (Yl.fld0 (t := 26) Try.underlying26 fl26 rfl rfl) rfl ?_))
          refine WL.storeAt (T := 22) Try.sizeOf22 rfl rfl rfl (by repeat (first | exact Pick.here | apply Pick.there)) rfl ?_
          (repeat (first | (refine WL.k_load ?_; refine WL.step (Yl.loadBlk (T := 4) Try.isAgg4 rfl (by repeat (first | exact .head _ | refine .tail _ ?_)) (by rfl)) rfl ?_) | refine WL.step (Yl.fld0 (t := 26) Try.underlying26 fl26 rfl rfl) rfl ?_ | refine WC.seq ?_ | refine WC.region ?_ | refine WL.nil ?_ | refine WN.then_normal ?_))
          refine WC.cond_false rfl rfl ?_
          (repeat (first | refine WL.step (Yl.move rfl) rfl ?_ | refine WL.step (Yl.bindFunc (vs := [.pointer (some ⟨r, 0, none⟩)]) rfl) rfl ?_ | (refine WL.k_bin .add ?_; refine WL.step (Yl.add64C rfl (by omega)) rfl ?_) | refine WC.region ?_))
          refine WL.callS (g := 44) (A0 := [rdr r a cap (3 + Nod.count l * 40)]) Try.call44 rfl (.trans (.cons _ (List.Perm.swap _ _ _)) (List.Perm.swap _ _ _)) (fun w s0 s1 => itemsI_r r a cap (3 + Nod.count l * 40) (Nod.count l + 1) l w hl hc (by omega) s1 (hr.out.pass s0 (outR (by repeat (first | exact .head _ | refine .tail _ ?_))))) rfl fun v C hv => ?_
          obtain ⟨ya, yc, hyc, rfl, rfl⟩ := hv
          simp only [List.cons_append, List.nil_append]
          (repeat (first | refine WL.step (Yl.fld0 (t := 26) Try.underlying26 fl26 rfl rfl) rfl ?_))
          refine WL.storeAt (T := 24) Try.sizeOf24 rfl rfl rfl (by repeat (first | exact Pick.here | apply Pick.there)) rfl ?_
          have hraw : Nod.raw l = (⟨false, Nod.readKeys l 3 (Nod.count l), [], Nod.readKids l (3 + Nod.count l * 40) (Nod.count l + 1)⟩ : Nod.N) := Nod.raw_f h3
          have hwf : (Nod.raw l).Wf := Nod.raw_wf hl (by rw [hmo]; exact h4)
          rw [hraw] at hwf
          have lk := Nod.readKeys_len l 3 (Nod.count l)
          have ly := Nod.readKids_len l (3 + Nod.count l * 40) (Nod.count l + 1)
          (repeat (first | (refine WL.k_load ?_; refine WL.step (Yl.loadAll (T' := 26) (cs := (ndl (⟨false, Nod.readKeys l 3 (Nod.count l), [], Nod.readKids l (3 + Nod.count l * 40) (Nod.count l + 1)⟩ : Nod.N) (⟨ka, kc, none, 0, ya, yc⟩ : Pl)).toArray) Try.isAgg26 Try.sizeOf26 rfl (by simp only [ndl, lk, ly]; exact (by repeat (first | exact .head _ | refine .tail _ ?_))) rfl) rfl ?_) | refine WC.seq ?_ | refine WC.region ?_ | refine WL.nil ?_ | refine WN.then_normal ?_))
          refine WL.callR (g := 15) Try.call15 rfl (fun w s => encode_c (⟨false, Nod.readKeys l 3 (Nod.count l), [], Nod.readKids l (3 + Nod.count l * 40) (Nod.count l + 1)⟩ : Nod.N) (⟨ka, kc, none, 0, ya, yc⟩ : Pl) w hwf (NdRd.at_ ⟨Rd.row (by repeat (first | exact .head _ | refine .tail _ ?_)), Rd.nil, Rd.row (by repeat (first | exact .head _ | refine .tail _ ?_)), by simp only [lk]; exact hkc, Nat.le_refl _, by simp only [ly]; exact hyc⟩ s)) rfl fun q hq => ?_
          by_cases h5 : Nod.Ok (⟨false, Nod.readKeys l 3 (Nod.count l), [], Nod.readKids l (3 + Nod.count l * 40) (Nod.count l + 1)⟩ : Nod.N)
          · have he : Nod.encR (⟨false, Nod.readKeys l 3 (Nod.count l), [], Nod.readKids l (3 + Nod.count l * 40) (Nod.count l + 1)⟩ : Nod.N) = (0, Nod.page (⟨false, Nod.readKeys l 3 (Nod.count l), [], Nod.readKids l (3 + Nod.count l * 40) (Nod.count l + 1)⟩ : Nod.N)) := if_pos h5
            have hpl := Nod.page_len hwf h5
            rw [he] at hq ⊢
            simp only [hpl] at hq ⊢
            by_cases h6 : Nod.page (⟨false, Nod.readKeys l 3 (Nod.count l), [], Nod.readKids l (3 + Nod.count l * 40) (Nod.count l + 1)⟩ : Nod.N) = l
            · have hg : Nod.Good l := ⟨hl, h2, by rw [hmo]; exact h4, by rw [hraw]; exact h5, by rw [hraw]; exact h6⟩
              rw [(Nod.dec_good hg).1, (Nod.dec_good hg).2, hraw]
              (repeat (first | refine WL.want rfl rfl rfl ?_ | refine WL.step (Yl.move rfl) rfl ?_ | refine WL.step (Yl.assign rfl) rfl ?_ | refine WL.step (Yl.extract rfl rfl) rfl ?_ | refine WL.step (Yl.pick_f rfl rfl rfl) rfl ?_ | refine WL.step (Yl.neqF rfl rfl rfl) rfl ?_ | (refine WL.k_call 46 ?_; refine WL.callV (g := 46) (v := .bool true) Try.call46 rfl (fun w s => by have := equal_c q.1 a 512 512 q.2 cap (Nod.page (⟨false, Nod.readKeys l 3 (Nod.count l), [], Nod.readKids l (3 + Nod.count l * 40) (Nod.count l + 1)⟩ : Nod.N)) l w hpl hl (by decide) (Rd.row (by repeat (first | exact .head _ | refine .tail _ ?_)) w s) (Rd.old hr w s); rwa [decide_eq_true h6] at this) rfl ?_) | refine WL.step (Yl.not rfl) rfl ?_ | refine WC.seq ?_ | refine WC.region ?_ | refine WL.nil ?_ | refine WN.then_normal ?_))
              refine WC.cond_false rfl rfl ?_
              (repeat (first | (refine WL.k_load ?_; refine WL.step (Yl.loadAll (T' := 26) (cs := (ndl (⟨false, Nod.readKeys l 3 (Nod.count l), [], Nod.readKids l (3 + Nod.count l * 40) (Nod.count l + 1)⟩ : Nod.N) (⟨ka, kc, none, 0, ya, yc⟩ : Pl)).toArray) Try.isAgg26 Try.sizeOf26 rfl (by simp only [ndl, lk, ly]; exact (by repeat (first | exact .head _ | refine .tail _ ?_))) rfl) rfl ?_) | refine WC.seq ?_ | refine WC.region ?_ | refine WN.then_normal ?_ | refine WC.skip ?_))
              refine WL.storeWhole (k := 4) (us := (ndl (⟨false, Nod.readKeys l 3 (Nod.count l), [], Nod.readKids l (3 + Nod.count l * 40) (Nod.count l + 1)⟩ : Nod.N) (⟨ka, kc, none, 0, ya, yc⟩ : Pl)).toArray) Try.sizeOf26 rfl rfl rfl (by repeat (first | exact Pick.here | apply Pick.there)) rfl rfl ?_
              (repeat (first | refine WL.step (Yl.assign rfl) rfl ?_ | refine WL.nil ?_ | refine WN.then_normal ?_ | refine WC.ret ?_))
              exact WN.ret2C rfl Try.isAgg26 Try.sizeOf26 rfl rfl (by repeat (first | exact .head _ | refine .tail _ ?_)) rfl ⟨(⟨ka, kc, none, 0, ya, yc⟩ : Pl), by simp only [lk]; exact hkc, Nat.le_refl _, by simp only [ly]; exact hyc, rfl, rfl⟩ (.cons (by repeat (first | exact Pick.here | apply Pick.there)) (.free (.cons (by repeat (first | exact Pick.here | apply Pick.there)) .nil)))
            · have hg : ¬ Nod.Good l := fun q => h6 (by have := q.2.2.2.2; rwa [hraw] at this)
              rw [(Nod.dec_bad hg).1, (Nod.dec_bad hg).2]
              (repeat (first | refine WL.want rfl rfl rfl ?_ | refine WL.step (Yl.move rfl) rfl ?_ | refine WL.step (Yl.assign rfl) rfl ?_ | refine WL.step (Yl.extract rfl rfl) rfl ?_ | refine WL.step (Yl.pick_f rfl rfl rfl) rfl ?_ | refine WL.step (Yl.neqF rfl rfl rfl) rfl ?_ | (refine WL.k_call 46 ?_; refine WL.callV (g := 46) (v := .bool false) Try.call46 rfl (fun w s => by have := equal_c q.1 a 512 512 q.2 cap (Nod.page (⟨false, Nod.readKeys l 3 (Nod.count l), [], Nod.readKids l (3 + Nod.count l * 40) (Nod.count l + 1)⟩ : Nod.N)) l w hpl hl (by decide) (Rd.row (by repeat (first | exact .head _ | refine .tail _ ?_)) w s) (Rd.old hr w s); rwa [decide_eq_false h6] at this) rfl ?_) | refine WL.step (Yl.not rfl) rfl ?_ | refine WC.seq ?_ | refine WC.region ?_ | refine WL.nil ?_ | refine WN.then_normal ?_))
              refine WC.cond_true rfl rfl ?_
              (repeat (first | refine WL.step (Yl.build (ps := []) rfl buildZ) rfl ?_ | refine WC.seq ?_ | refine WC.region ?_))
              refine WL.storeWhole (T := 26) (k := 4) (us := (ndl Nod.zero pz).toArray) Try.sizeOf26 rfl rfl rfl (by repeat (first | exact Pick.here | apply Pick.there)) rfl rfl ?_
              (repeat (first | refine WL.step (Yl.assign rfl) rfl ?_ | refine WL.nil ?_ | refine WN.then_normal ?_ | refine WC.ret ?_ | refine WN.then_ret ?_))
              exact WN.ret2C rfl Try.isAgg26 Try.sizeOf26 rfl rfl (by repeat (first | exact .head _ | refine .tail _ ?_)) rfl ⟨pz, Nat.le_refl _, Nat.le_refl _, Nat.le_refl _, rfl, rfl⟩ (.free (.free (.free .nil)))
          · have he : Nod.encR (⟨false, Nod.readKeys l 3 (Nod.count l), [], Nod.readKids l (3 + Nod.count l * 40) (Nod.count l + 1)⟩ : Nod.N) = (2, []) := if_neg h5
            rw [he] at hq ⊢
            have hg : ¬ Nod.Good l := fun q => h5 (by have := q.2.2.2.1; rwa [hraw] at this)
            rw [(Nod.dec_bad hg).1, (Nod.dec_bad hg).2]
            (repeat (first | refine WL.pass rfl rfl rfl rfl ?_ | refine WL.step (Yl.move rfl) rfl ?_ | refine WL.step (Yl.assign rfl) rfl ?_ | refine WL.step (Yl.extract rfl rfl) rfl ?_ | refine WL.step (Yl.pick_t rfl rfl rfl) rfl ?_ | (refine WL.k_bin .neq ?_; refine WL.step (Yl.neqT rfl rfl (by decide)) rfl ?_) | refine WC.seq ?_ | refine WC.region ?_ | refine WL.nil ?_ | refine WN.then_normal ?_))
            refine WC.cond_true rfl rfl ?_
            (repeat (first | refine WL.step (Yl.build (ps := []) rfl buildZ) rfl ?_ | refine WC.seq ?_ | refine WC.region ?_))
            refine WL.storeWhole (T := 26) (k := 4) (us := (ndl Nod.zero pz).toArray) Try.sizeOf26 rfl rfl rfl (by repeat (first | exact Pick.here | apply Pick.there)) rfl rfl ?_
            (repeat (first | refine WL.step (Yl.assign rfl) rfl ?_ | refine WL.nil ?_ | refine WN.then_normal ?_ | refine WC.ret ?_ | refine WN.then_ret ?_))
            exact WN.ret2C rfl Try.isAgg26 Try.sizeOf26 rfl rfl (by repeat (first | exact .head _ | refine .tail _ ?_)) rfl ⟨pz, Nat.le_refl _, Nat.le_refl _, Nat.le_refl _, rfl, rfl⟩ (.free (.free (.free .nil)))
        · have hg : ¬ Nod.Good l := fun q => h4 (by have := q.2.2.1; rwa [hmo] at this)
          rw [(Nod.dec_bad hg).1, (Nod.dec_bad hg).2]
          refine WC.ite_true rfl (by show (((11 : Nat) : Int) < ((Nod.count l : Nat) : Int)); omega) ?_
          (repeat (first | refine WL.step (Yl.build (ps := []) rfl buildZ) rfl ?_ | refine WC.seq ?_ | refine WC.region ?_))
          refine WL.storeWhole (T := 26) (k := 4) (us := (ndl Nod.zero pz).toArray) Try.sizeOf26 rfl rfl rfl (by repeat (first | exact Pick.here | apply Pick.there)) rfl rfl ?_
          (repeat (first | refine WL.step (Yl.assign rfl) rfl ?_ | refine WL.nil ?_ | refine WN.then_normal ?_ | refine WC.ret ?_ | refine WN.then_ret ?_))
          exact WN.ret2C rfl Try.isAgg26 Try.sizeOf26 rfl rfl (by repeat (first | exact .head _ | refine .tail _ ?_)) rfl ⟨pz, Nat.le_refl _, Nat.le_refl _, Nat.le_refl _, rfl, rfl⟩ (.free (.free (.free .nil)))
    · have hg : ¬ Nod.Good l := fun q => h2 q.2.1
      rw [(Nod.dec_bad hg).1, (Nod.dec_bad hg).2]
      (repeat (first | refine WL.want rfl rfl rfl ?_ | refine WL.step (Yl.move rfl) rfl ?_ | refine WL.step (Yl.assign rfl) rfl ?_ | refine WL.step (Yl.load (T := 5) Try.isAgg5 rfl (.old hr) hb0) rfl ?_ | refine WL.step (Yl.pick_f rfl rfl rfl) rfl ?_ | refine WL.step (Yl.len (t := 34) Try.underlying34 rfl) rfl ?_ | (refine WL.k_bin .neq ?_; refine WL.step (Yl.neqF rfl rfl (by omega)) rfl ?_) | (refine WL.k_idxa ?_; refine WL.step (Yl.indexAddr1 (t := 34) (j := 0) Try.underlying34 Try.sizeOf5 rfl rfl (.old hr) hne (by omega)) rfl ?_) | (refine WL.k_bin .gtr ?_; refine WL.step (Yl.gtrT rfl rfl (by omega)) rfl ?_) | refine WC.seq ?_ | refine WC.region ?_ | refine WL.nil ?_ | refine WN.then_normal ?_))
      refine WC.cond_true rfl rfl ?_
      (repeat (first | refine WL.step (Yl.build (ps := []) rfl buildZ) rfl ?_ | refine WC.seq ?_ | refine WC.region ?_))
      refine WL.storeWhole (T := 26) (k := 4) (us := (ndl Nod.zero pz).toArray) Try.sizeOf26 rfl rfl rfl (by repeat (first | exact Pick.here | apply Pick.there)) rfl rfl ?_
      (repeat (first | refine WL.step (Yl.assign rfl) rfl ?_ | refine WL.nil ?_ | refine WN.then_normal ?_ | refine WC.ret ?_ | refine WN.then_ret ?_))
      exact WN.ret2C rfl Try.isAgg26 Try.sizeOf26 rfl rfl (by repeat (first | exact .head _ | refine .tail _ ?_)) rfl ⟨pz, Nat.le_refl _, Nat.le_refl _, Nat.le_refl _, rfl, rfl⟩ (.free (.free (.free .nil)))
  · have hg : ¬ Nod.Good l := fun q => h1 (by rw [← hl]; exact q.1)
    rw [(Nod.dec_bad hg).1, (Nod.dec_bad hg).2]
    (repeat (first | refine WL.pass rfl rfl rfl rfl ?_ | refine WL.step (Yl.move rfl) rfl ?_ | refine WL.step (Yl.assign rfl) rfl ?_ | refine WL.step (Yl.pick_t rfl rfl rfl) rfl ?_ | refine WL.step (Yl.len (t := 34) Try.underlying34 rfl) rfl ?_ | (refine WL.k_bin .neq ?_; refine WL.step (Yl.neqT rfl rfl (by omega)) rfl ?_) | refine WC.seq ?_ | refine WC.region ?_ | refine WL.nil ?_ | refine WN.then_normal ?_))
    refine WC.cond_true rfl rfl ?_
    (repeat (first | refine WL.step (Yl.build (ps := []) rfl buildZ) rfl ?_ | refine WC.seq ?_ | refine WC.region ?_))
    refine WL.storeWhole (T := 26) (k := 4) (us := (ndl Nod.zero pz).toArray) Try.sizeOf26 rfl rfl rfl (by repeat (first | exact Pick.here | apply Pick.there)) rfl rfl ?_
    (repeat (first | refine WL.step (Yl.assign rfl) rfl ?_ | refine WL.nil ?_ | refine WN.then_normal ?_ | refine WC.ret ?_ | refine WN.then_ret ?_))
    exact WN.ret2C rfl Try.isAgg26 Try.sizeOf26 rfl rfl (by repeat (first | exact .head _ | refine .tail _ ?_)) rfl ⟨pz, Nat.le_refl _, Nat.le_refl _, Nat.le_refl _, rfl, rfl⟩ (.free (.free (.free .nil)))
end Go.Proofs.Ytbfhdggfdhlkfaa
