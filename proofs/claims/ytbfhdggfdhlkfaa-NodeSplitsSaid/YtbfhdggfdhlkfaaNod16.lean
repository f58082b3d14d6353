/- The examples of the chapter hold. -/
import Derived.Test.YtbfhdggfdhlkfaaNod15
namespace Go.Proofs.Ytbfhdggfdhlkfaa
set_option linter.unusedVariables false
set_option linter.unusedSimpArgs false
open Go Go.RowKit
set_option maxRecDepth 100000
set_option maxHeartbeats 8000000
theorem WL.weak {X : Cx} {ops : Array Oper} {Q : Exit → Act → World → Prop} {l : List Oper} {ρ ρ' : Env} {A B : List HA} (hs : Sub ρ ρ') (hp : Part A B) (h : WL X ops Q l ρ' B) : WL X ops Q l ρ A := fun a w f s => h a w (f.of_sub hs) (s.part hp)
namespace Nod
def x0 : N := ⟨true, [], [], []⟩
def kk (n : Nat) : K := ⟨n, List.replicate 32 0⟩
def x1 : N := ⟨true, [kk 2, kk 4, kk 6], [List.replicate 20 0, List.replicate 20 0, List.replicate 20 0], []⟩
theorem x0_wf : x0.Wf := ⟨fun _ h => (by cases h), fun _ h => (by cases h), fun _ h => (by cases h), by decide, by decide, by decide⟩
theorem kk_wf {n : Nat} (h : n ≤ 1000) : (kk n).Wf := ⟨by show n < _; omega, by simp [kk]⟩
theorem x1_wf : x1.Wf := ⟨fun k h => by
    simp only [x1, List.mem_cons, List.not_mem_nil, or_false] at h
    rcases h with rfl | rfl | rfl <;> exact kk_wf (by decide), fun v h => by
    simp only [x1, List.mem_cons, List.not_mem_nil, or_false] at h
    rcases h with rfl | rfl | rfl <;> simp, fun _ h => (by cases h), by decide, by decide, by decide⟩
theorem x0_ok : Ok x0 := by decide +kernel
theorem sp1 : sp (leafN 1 9) = (leafN 1 4, kk 5, leafN 5 5, 0) := by decide +kernel
theorem sp2 : sp (innerN 1 12 21) = (innerN 1 6 21, kk 7, innerN 8 5 28, 0) := by decide +kernel
theorem sp3 : sp (leafN 1 8) = (zero, kk 0, zero, 2) := by decide +kernel
theorem f1 : place x1.ks (kk 4) = 1 ∧ isAt x1.ks (kk 4) = true := by decide +kernel
theorem f2 : place x1.ks (kk 7) = 3 ∧ isAt x1.ks (kk 7) = false := by decide +kernel
theorem c12 : cmp (kk 1) (kk 2) = -1 := by decide +kernel
end Nod
theorem fv1 : FindV Nod.x1 (Nod.kk 4) = .tuple #[.int .i64 1, .bool true] := by rw [FindV, Nod.f1.1, Nod.f1.2]; rfl
theorem fv2 : FindV Nod.x1 (Nod.kk 7) = .tuple #[.int .i64 3, .bool false] := by rw [FindV, Nod.f2.1, Nod.f2.2]; rfl
theorem buildLKV (a b : Option Addr) (n c m d : Nat) (w : World) : (Instr.build 26 [(0, Value.bool true), (1, .slice a n c), (2, .slice b m d)].toArray).run Try.prog w = .ok (.agg #[.bool true, .slice a n c, .slice b m d, .slice none 0 0]) w := by
  simp [Instr.build, Try.zeroValue26, run_underlying Try.underlying26, Try.sizeOf4, Try.sizeOf22, Try.sizeOf23, Value.cells, Instr.fill]
theorem x0_at (w : World) : NdAt w Nod.x0 pz := ⟨.nil _ _, .nil _ _, .nil _ _, Nat.le_refl _, Nat.le_refl _, Nat.le_refl _⟩
theorem lit3 {n m k : Nat} (h1 : n ≤ 1000) (h2 : m ≤ 1000) (h3 : k ≤ 1000) : ∀ u ∈ [kval (Nod.kk n), kval (Nod.kk m), kval (Nod.kk k)], u.cells.size = 33 := fun u hu => by
  have key : ∀ j, j ≤ 1000 → (kval (Nod.kk j)).cells.size = 33 := fun j hj => by
    show (kv (Nod.kk j)).toArray.size = 33
    rw [List.size_toArray, kv_len (Nod.kk_wf hj)]
  simp only [List.mem_cons, List.not_mem_nil, or_false] at hu
  rcases hu with rfl | rfl | rfl
  · exact key n h1
  · exact key m h2
  · exact key k h3
attribute [local irreducible] WL WC WN Yl WH WQ WT WE WU Nod.page Nod.leafN Nod.innerN
theorem works38_c (w : World) : Calls Try.prog 13 #[] w (Gives (Val (.bool true)) w) := by
  have hpl := Nod.page_len Nod.x0_wf Nod.x0_ok
  have hp0 : (Nod.page Nod.x0).getD 0 0 = 0 := Nod.first_page Nod.x0
  have hb0 := bs_get (l := Nod.page Nod.x0) (i := 0) (by omega)
  have hne := bs_ne (l := Nod.page Nod.x0) (i := 0) (by omega)
  rw [hp0] at hb0
  have he0 : Nod.encR Nod.x0 = (0, Nod.page Nod.x0) := if_pos Nod.x0_ok
  have hen := fun w => encode_c Nod.x0 pz w Nod.x0_wf (x0_at w)
  rw [he0] at hen
  have hf1 := fun w p (h : NdAt w Nod.x1 p) => find_c Nod.x1 p (Nod.kk 4) w Nod.x1_wf (Nod.kk_wf (by decide)) h
  rw [fv1] at hf1
  have hf2 := fun w p (h : NdAt w Nod.x1 p) => find_c Nod.x1 p (Nod.kk 7) w Nod.x1_wf (Nod.kk_wf (by decide)) h
  rw [fv2] at hf2
  have hs1 := fun w p (h : NdAt w (Nod.leafN 1 9) p) => split_c (Nod.leafN 1 9) p w (Nod.leafN_wf (by decide)) h
  rw [Nod.sp1] at hs1
  have hs2 := fun w p (h : NdAt w (Nod.innerN 1 12 21) p) => split_c (Nod.innerN 1 12 21) p w (Nod.innerN_wf (by decide) (by decide)) h
  rw [Nod.sp2] at hs2
  have hs3 := fun w p (h : NdAt w (Nod.leafN 1 8) p) => split_c (Nod.leafN 1 8) p w (Nod.leafN_wf (by decide)) h
  rw [Nod.sp3] at hs3
  have hg : ¬ Nod.Good ((Nod.page Nod.x0).take 511) := fun q => by
    have := q.1
    rw [List.length_take] at this; omega
  have hd := fun a cap w (h1 : 511 ≤ cap) (h : CellsAt w a (bs ((Nod.page Nod.x0).take 511))) => decode_c a 511 cap ((Nod.page Nod.x0).take 511) w (by rw [List.length_take]; omega) h1 h
  rw [(Nod.dec_bad hg).1, (Nod.dec_bad hg).2] at hd
  have hcm := fun w => ncmp_c (Nod.kk 1) (Nod.kk 2) w (Nod.kk_wf (by decide)) (Nod.kk_wf (by decide))
  rw [Nod.c12] at hcm
  refine enter (args := []) Try.func13 Try.ntmps13 rfl rfl ?_
  (repeat (first | refine WL.step (Yl.assign rfl) rfl ?_ | refine WL.step (Yl.build (ps := [(0, .const (.bool true))]) rfl (buildL true)) rfl ?_ | refine WC.seq ?_ | refine WC.region ?_ | refine WL.nil ?_ | refine WN.then_normal ?_))
  refine WL.callR (g := 15) Try.call15 rfl (fun w s => hen w) rfl fun q hq => ?_
  obtain ⟨pa, pc⟩ := q
  simp only [hpl] at hq ⊢
  (repeat (first | refine WL.want rfl rfl rfl ?_ | refine WL.step (Yl.move rfl) rfl ?_ | refine WL.step (Yl.assign rfl) rfl ?_ | refine WL.step (Yl.extract rfl rfl) rfl ?_ | (refine WL.k_load ?_; refine WL.step (Yl.load (T := 5) Try.isAgg5 rfl (Rd.row (by repeat (first | exact .head _ | refine .tail _ ?_))) hb0) rfl ?_) | refine WL.step (Yl.pick_f rfl rfl rfl) rfl ?_ | refine WL.step (Yl.len (t := 34) Try.underlying34 rfl) rfl ?_ | (refine WL.k_bin .neq ?_; refine WL.step (Yl.neqF rfl rfl (by decide)) rfl ?_) | (refine WL.k_idxa ?_; refine WL.step (Yl.indexAddr1 (t := 34) (j := 0) Try.underlying34 Try.sizeOf5 rfl rfl (Rd.row (by repeat (first | exact .head _ | refine .tail _ ?_))) hne (by decide)) rfl ?_) | refine WC.seq ?_ | refine WC.region ?_ | refine WL.nil ?_ | refine WN.then_normal ?_))
  refine WC.cond_false rfl rfl ?_
  (repeat (first | (refine WL.k_build ?_; first | refine WL.step (Yl.build (ps := [(0, .const (.int .u64 2))]) rfl (buildKN 2)) rfl ?_ | refine WL.step (Yl.build (ps := [(0, .const (.int .u64 4))]) rfl (buildKN 4)) rfl ?_ | refine WL.step (Yl.build (ps := [(0, .const (.int .u64 6))]) rfl (buildKN 6)) rfl ?_) | refine WC.seq ?_ | refine WC.region ?_ | refine WN.then_normal ?_ | refine WC.skip ?_))
  refine WL.lit (t := 22) (vs := [kval (Nod.kk 2), kval (Nod.kk 4), kval (Nod.kk 6)]) Try.underlying22 elemKey rfl rfl rfl (lit3 (by decide) (by decide) (by decide)) rfl fun b1 => ?_
  rw [show flat [kval (Nod.kk 2), kval (Nod.kk 4), kval (Nod.kk 6)] = kcells Nod.x1.ks by simp [flat, kcells, Nod.x1, kval, Value.cells]]
  refine WL.makeK (us := bs zval) (m := 3) (n := 3) Try.underlying23 elemVal rfl rfl rfl (by decide) (by decide) (by decide) rfl fun b2 => ?_
  rw [show (List.replicate 3 (bs zval)).flatten = vcells Nod.x1.vs from rfl]
  (repeat (first | refine WL.step (Yl.build (ps := [(0, .const (.bool true)), (1, .tmp 43), (2, .tmp 44)]) rfl (buildLKV _ _ _ _ _ _)) rfl ?_))
  refine WL.allocA Try.zeroValue26 rfl fun b3 => ?_
  refine WL.storeWhole (T := 26) (k := 4) (us := (ndl Nod.x1 ⟨some ⟨b1, 0, none⟩, 3, some ⟨b2, 0, none⟩, 3, none, 0⟩).toArray) Try.sizeOf26 rfl rfl rfl (by repeat (first | exact Pick.here | apply Pick.there)) rfl rfl ?_
  (repeat (first | (refine WL.k_load ?_; refine WL.step (Yl.loadAll (T := 26) (T' := 26) Try.isAgg26 Try.sizeOf26 rfl (by repeat (first | exact .head _ | refine .tail _ ?_)) rfl) rfl ?_) | refine WL.step (Yl.build (ps := [(0, .const (.int .u64 4))]) rfl (buildKN 4)) rfl ?_ | refine WC.seq ?_ | refine WC.region ?_ | refine WL.nil ?_ | refine WN.then_normal ?_))
  refine WL.callV (g := 25) Try.call25 rfl (fun w s => hf1 w ⟨some ⟨b1, 0, none⟩, 3, some ⟨b2, 0, none⟩, 3, none, 0⟩ (NdRd.at_ ⟨Rd.row (by repeat (first | exact .head _ | refine .tail _ ?_)), Rd.row (by repeat (first | exact .head _ | refine .tail _ ?_)), Rd.nil, Nat.le_refl _, Nat.le_refl _, Nat.le_refl _⟩ s)) rfl ?_
  (repeat (first | refine WL.step (Yl.move rfl) rfl ?_ | refine WL.step (Yl.assign rfl) rfl ?_ | refine WL.step (Yl.extract rfl rfl) rfl ?_ | (refine WL.k_load ?_; refine WL.step (Yl.loadAll (T := 26) (T' := 26) Try.isAgg26 Try.sizeOf26 rfl (by repeat (first | exact .head _ | refine .tail _ ?_)) rfl) rfl ?_) | refine WL.step (Yl.build (ps := [(0, .const (.int .u64 7))]) rfl (buildKN 7)) rfl ?_ | refine WC.seq ?_ | refine WC.region ?_ | refine WL.nil ?_ | refine WN.then_normal ?_))
  refine WL.callV (g := 25) Try.call25 rfl (fun w s => hf2 w ⟨some ⟨b1, 0, none⟩, 3, some ⟨b2, 0, none⟩, 3, none, 0⟩ (NdRd.at_ ⟨Rd.row (by repeat (first | exact .head _ | refine .tail _ ?_)), Rd.row (by repeat (first | exact .head _ | refine .tail _ ?_)), Rd.nil, Nat.le_refl _, Nat.le_refl _, Nat.le_refl _⟩ s)) rfl ?_
  (repeat (first | refine WL.step (Yl.move rfl) rfl ?_ | refine WL.step (Yl.assign rfl) rfl ?_ | refine WL.step (Yl.extract rfl rfl) rfl ?_ | refine WC.seq ?_ | refine WC.region ?_ | refine WL.nil ?_ | refine WN.then_normal ?_))
  refine WL.weak (ρ' := [(1, .slice pa 512 pc), (4, .int .i64 1), (5, .bool true), (6, .int .i64 3), (7, .bool false)]) (B := [.row pa pc 5 1 (bs (Nod.page Nod.x0))]) (by repeat (first | exact Sub.nil | refine Sub.cons rfl rfl ?_)) (by repeat (first | exact Part.nil | refine Part.cons (by repeat (first | exact Pick.here | apply Pick.there)) ?_ | refine Part.free ?_)) ?_
  refine WL.call (g := 31) Try.call31 rfl (fun w s => leaf_c 1 9 w (by decide) (by decide)) rfl fun v1 B1 hv1 => ?_
  obtain ⟨p, g1, g2, g3, rfl, rfl⟩ := hv1
  simp only [List.cons_append, List.nil_append, id]
  refine WL.call (g := 17) Try.call17 rfl (fun w s => hs1 w p (NdRd.at_ ⟨Rd.row (by repeat (first | exact .head _ | refine .tail _ ?_)), Rd.row (by repeat (first | exact .head _ | refine .tail _ ?_)), Rd.row (by repeat (first | exact .head _ | refine .tail _ ?_)), g1, g2, g3⟩ s)) rfl fun v1 B1 hv1 => ?_
  obtain ⟨p1, p2, c1, c2, rfl, rfl⟩ := hv1
  simp only [List.cons_append, List.nil_append]
  (repeat (first | refine WL.step (Yl.move rfl) rfl ?_ | refine WL.step (Yl.extract rfl rfl) rfl ?_))
  refine WL.allocA Try.zeroValue26 rfl fun b8 => ?_
  refine WL.allocA zeroKey rfl fun b9 => ?_
  refine WL.allocA Try.zeroValue26 rfl fun b10 => ?_
  refine WL.storeWhole (k := 4) (us := (ndl (Nod.leafN 1 4) p1).toArray) Try.sizeOf26 rfl rfl rfl (by repeat (first | exact Pick.here | apply Pick.there)) rfl rfl ?_
  refine WL.storeWhole (k := 33) (us := (kv (Nod.kk 5)).toArray) Try.sizeOf42 rfl rfl (kv_all _) (by repeat (first | exact Pick.here | apply Pick.there)) rfl rfl ?_
  refine WL.storeWhole (k := 4) (us := (ndl (Nod.leafN 5 5) p2).toArray) Try.sizeOf26 rfl rfl rfl (by repeat (first | exact Pick.here | apply Pick.there)) rfl rfl ?_
  (repeat (first | refine WL.step (Yl.assign rfl) rfl ?_ | refine WC.seq ?_ | refine WC.region ?_ | refine WL.nil ?_ | refine WN.then_normal ?_))
  refine WL.call (g := 32) Try.call32 rfl (fun w s => inner_c 1 12 21 w (by decide) (by decide) (by decide)) rfl fun v1 B1 hv1 => ?_
  obtain ⟨p', g1, g2, g3, rfl, rfl⟩ := hv1
  simp only [List.cons_append, List.nil_append, id]
  refine WL.call (g := 17) Try.call17 rfl (fun w s => hs2 w p' (NdRd.at_ ⟨Rd.row (by repeat (first | exact .head _ | refine .tail _ ?_)), Rd.row (by repeat (first | exact .head _ | refine .tail _ ?_)), Rd.row (by repeat (first | exact .head _ | refine .tail _ ?_)), g1, g2, g3⟩ s)) rfl fun v1 B1 hv1 => ?_
  obtain ⟨p3, p4, c3, c4, rfl, rfl⟩ := hv1
  simp only [List.cons_append, List.nil_append]
  (repeat (first | refine WL.step (Yl.move rfl) rfl ?_ | refine WL.step (Yl.extract rfl rfl) rfl ?_))
  refine WL.allocA Try.zeroValue26 rfl fun b12 => ?_
  refine WL.allocA zeroKey rfl fun b13 => ?_
  refine WL.allocA Try.zeroValue26 rfl fun b14 => ?_
  refine WL.storeWhole (k := 4) (us := (ndl (Nod.innerN 1 6 21) p3).toArray) Try.sizeOf26 rfl rfl rfl (by repeat (first | exact Pick.here | apply Pick.there)) rfl rfl ?_
  refine WL.storeWhole (k := 33) (us := (kv (Nod.kk 7)).toArray) Try.sizeOf42 rfl rfl (kv_all _) (by repeat (first | exact Pick.here | apply Pick.there)) rfl rfl ?_
  refine WL.storeWhole (k := 4) (us := (ndl (Nod.innerN 8 5 28) p4).toArray) Try.sizeOf26 rfl rfl rfl (by repeat (first | exact Pick.here | apply Pick.there)) rfl rfl ?_
  (repeat (first | refine WL.step (Yl.assign rfl) rfl ?_ | refine WC.seq ?_ | refine WC.region ?_ | refine WL.nil ?_ | refine WN.then_normal ?_))
  refine WL.call (g := 31) Try.call31 rfl (fun w s => leaf_c 1 8 w (by decide) (by decide)) rfl fun v1 B1 hv1 => ?_
  obtain ⟨p', g1, g2, g3, rfl, rfl⟩ := hv1
  simp only [List.cons_append, List.nil_append, id]
  refine WL.call (g := 17) Try.call17 rfl (fun w s => hs3 w p' (NdRd.at_ ⟨Rd.row (by repeat (first | exact .head _ | refine .tail _ ?_)), Rd.row (by repeat (first | exact .head _ | refine .tail _ ?_)), Rd.row (by repeat (first | exact .head _ | refine .tail _ ?_)), g1, g2, g3⟩ s)) rfl fun v1 B1 hv1 => ?_
  obtain ⟨p5, p6, c5, c6, rfl, rfl⟩ := hv1
  simp only [List.cons_append, List.nil_append]
  (repeat (first | refine WL.step (Yl.move rfl) rfl ?_ | refine WL.step (Yl.extract rfl rfl) rfl ?_))
  refine WL.allocA Try.zeroValue26 rfl fun b16 => ?_
  refine WL.allocA zeroKey rfl fun b17 => ?_
  refine WL.allocA Try.zeroValue26 rfl fun b18 => ?_
  refine WL.storeWhole (T := 26) (k := 4) (us := (ndl Nod.zero p5).toArray) Try.sizeOf26 rfl rfl rfl (by repeat (first | exact Pick.here | apply Pick.there)) rfl rfl ?_
  refine WL.storeWhole (k := 33) (us := (kv (Nod.kk 0)).toArray) Try.sizeOf42 rfl rfl (kv_all _) (by repeat (first | exact Pick.here | apply Pick.there)) rfl rfl ?_
  refine WL.storeWhole (T := 26) (k := 4) (us := (ndl Nod.zero p6).toArray) Try.sizeOf26 rfl rfl rfl (by repeat (first | exact Pick.here | apply Pick.there)) rfl rfl ?_
  (repeat (first | refine WL.step (Yl.move rfl) rfl ?_ | refine WL.step (Yl.assign rfl) rfl ?_ | (refine WL.k_slice ?_; refine WL.step (Yl.cutTo (t := 34) (hi := 511) Try.underlying34 Try.sizeOf5 rfl rfl (by omega)) rfl ?_) | refine WC.seq ?_ | refine WC.region ?_ | refine WL.nil ?_ | refine WN.then_normal ?_))
  refine WL.call (g := 23) Try.call23 rfl (fun w s => hd (cutA pa 0 pc 1) pc w (by omega) (Rd.rowTake 511 (by repeat (first | exact .head _ | refine .tail _ ?_)) (by omega) w s)) rfl fun v1 B1 hv1 => ?_
  obtain ⟨p7, _, _, _, rfl, rfl⟩ := hv1
  simp only [List.cons_append, List.nil_append]
  (repeat (first | refine WL.step (Yl.move rfl) rfl ?_ | refine WL.step (Yl.extract rfl rfl) rfl ?_))
  refine WL.allocA Try.zeroValue26 rfl fun b20 => ?_
  refine WL.storeWhole (T := 26) (k := 4) (us := (ndl Nod.zero p7).toArray) Try.sizeOf26 rfl rfl rfl (by repeat (first | exact Pick.here | apply Pick.there)) rfl rfl ?_
  (repeat (first | refine WL.step (Yl.assign rfl) rfl ?_ | refine WC.seq ?_ | refine WL.nil ?_ | refine WN.then_normal ?_))
  refine WC.weak (ρ' := [(4, .int .i64 1), (5, .bool true), (6, .int .i64 3), (7, .bool false), (8, .pointer (some ⟨b8, 0, none⟩)), (9, .pointer (some ⟨b9, 0, none⟩)), (10, .pointer (some ⟨b10, 0, none⟩)), (11, .int .i64 0), (12, .pointer (some ⟨b12, 0, none⟩)), (13, .pointer (some ⟨b13, 0, none⟩)), (14, .pointer (some ⟨b14, 0, none⟩)), (15, .int .i64 0), (19, .int .i64 2), (21, .int .i64 8)])
    (B := [.blk b8 (.cells (ndl (Nod.leafN 1 4) p1).toArray 26 (0, 0)), .blk b9 (.cells (kv (Nod.kk 5)).toArray 42 (0, 0)), .blk b10 (.cells (ndl (Nod.leafN 5 5) p2).toArray 26 (0, 0)), .blk b12 (.cells (ndl (Nod.innerN 1 6 21) p3).toArray 26 (0, 0)), .blk b13 (.cells (kv (Nod.kk 7)).toArray 42 (0, 0)), .blk b14 (.cells (ndl (Nod.innerN 8 5 28) p4).toArray 26 (0, 0)),
      .row p1.ka p1.kc 42 33 (kcells (Nod.leafN 1 4).ks), .row p1.va p1.vc 73 20 (vcells (Nod.leafN 1 4).vs), .row p1.ca p1.cc 3 1 (icells (Nod.leafN 1 4).cs), .row p2.ka p2.kc 42 33 (kcells (Nod.leafN 5 5).ks), .row p2.va p2.vc 73 20 (vcells (Nod.leafN 5 5).vs), .row p2.ca p2.cc 3 1 (icells (Nod.leafN 5 5).cs),
      .row p3.ka p3.kc 42 33 (kcells (Nod.innerN 1 6 21).ks), .row p3.va p3.vc 73 20 (vcells (Nod.innerN 1 6 21).vs), .row p3.ca p3.cc 3 1 (icells (Nod.innerN 1 6 21).cs), .row p4.ka p4.kc 42 33 (kcells (Nod.innerN 8 5 28).ks), .row p4.va p4.vc 73 20 (vcells (Nod.innerN 8 5 28).vs), .row p4.ca p4.cc 3 1 (icells (Nod.innerN 8 5 28).cs)]) (by repeat (first | exact Sub.nil | refine Sub.cons rfl rfl ?_)) (by repeat (first | exact Part.nil | refine Part.cons (by repeat (first | exact Pick.here | apply Pick.there)) ?_ | refine Part.free ?_)) ?_
  refine WC.regionH [.blk b8 (.cells (ndl (Nod.leafN 1 4) p1).toArray 26 (0, 0)), .blk b9 (.cells (kv (Nod.kk 5)).toArray 42 (0, 0)), .blk b10 (.cells (ndl (Nod.leafN 5 5) p2).toArray 26 (0, 0)), .blk b12 (.cells (ndl (Nod.innerN 1 6 21) p3).toArray 26 (0, 0)), .blk b13 (.cells (kv (Nod.kk 7)).toArray 42 (0, 0)), .blk b14 (.cells (ndl (Nod.innerN 8 5 28) p4).toArray 26 (0, 0))] (by kernel_rfl) ?_
  (refine WH.order [0, 1] (by repeat (first | exact Part.nil | refine Part.cons (by repeat (first | exact Pick.here | apply Pick.there)) ?_ | refine Part.free ?_)) (by kernel_rfl) ?_; (repeat (first | (refine WT.k_build rfl ?_; (refine WT.kn rfl ?_; first | refine WT.take rfl rfl (fun _ _ _ h => h) (Yl.build (ps := [(0, .const (.int .u64 1))]) rfl (buildKN 1)) rfl (by kernel_rfl) (by kernel_rfl) ?_ | refine WT.take rfl rfl (fun _ _ _ h => h) (Yl.build (ps := [(0, .const (.int .u64 2))]) rfl (buildKN 2)) rfl (by kernel_rfl) (by kernel_rfl) ?_)))); refine WT.nil ?_)
  refine WH.only (i := 2) (by kernel_rfl) rfl ?_
  refine WL.callV (g := 27) Try.call27 rfl (fun w _ => hcm w) rfl ?_
  refine WL.nil (WN.nextH (by repeat (first | exact Part.nil | refine Part.cons (by repeat (first | exact Pick.here | apply Pick.there)) ?_ | refine Part.free ?_)) ?_)
  (refine WH.order [3, 4, 5, 6, 7, 8, 9, 10, 11, 12, 13, 14, 15, 16, 17, 18, 19, 20, 21, 22, 23, 24] (by repeat (first | exact Part.nil | refine Part.cons (by repeat (first | exact Pick.here | apply Pick.there)) ?_ | refine Part.free ?_)) (by kernel_rfl) ?_; (repeat (first | (refine WT.k_move rfl ?_; first | (refine WT.kn rfl ?_; refine WT.take rfl rfl (fun _ _ _ h => h) (Yl.move rfl) rfl (by kernel_rfl) (by kernel_rfl) ?_) | (refine WT.kg rfl ?_; refine WT.takeG rfl rfl rfl rfl (fun _ _ _ h => h) (Yl.move rfl) rfl (by kernel_rfl) (by kernel_rfl) ?_)) | (refine WT.k_load rfl ?_; (refine WT.kg rfl ?_; refine WT.takeG rfl rfl rfl rfl (fun _ _ _ h => h) (Yl.loadAll (T' := 26) (b := b8) (cs := (ndl (Nod.leafN 1 4) p1).toArray) (fr := (0, 0)) Try.isAgg26 Try.sizeOf26 rfl (by repeat (first | exact .head _ | refine .tail _ ?_)) rfl) rfl (by kernel_rfl) (by kernel_rfl) ?_)) | (refine WT.k_pick rfl ?_; (refine WT.kn rfl ?_; refine WT.take rfl rfl (fun _ _ _ h => h) (Yl.pick_t rfl rfl rfl) rfl (by kernel_rfl) (by kernel_rfl) ?_)) | (refine WT.k_bin .eql rfl ?_; first | (refine WT.kn rfl ?_; refine WT.take rfl rfl (fun _ _ _ h => h) (Yl.eqlT rfl rfl (by decide)) rfl (by kernel_rfl) (by kernel_rfl) ?_) | (refine WT.kg rfl ?_; refine WT.takeG rfl rfl rfl rfl (fun _ _ _ h => h) (Yl.eqlT rfl rfl (by decide)) rfl (by kernel_rfl) (by kernel_rfl) ?_)) | (refine WT.k_unop rfl ?_; (refine WT.kg rfl ?_; refine WT.takeG rfl rfl rfl rfl (fun _ _ _ h => h) (Yl.not rfl) rfl (by kernel_rfl) (by kernel_rfl) ?_)))); refine WT.nil ?_)
  refine WH.only (i := 25) (by kernel_rfl) rfl ?_
  refine WL.want rfl rfl rfl ?_
  refine WL.call (g := 31) Try.call31 rfl (fun w s => leaf_c 1 4 w (by decide) (by decide)) rfl fun v1 B1 hv1 => ?_
  obtain ⟨q25, g1, g2, g3, rfl, rfl⟩ := hv1
  simp only [List.cons_append, List.nil_append, id]
  refine WL.nil (WN.nextH (by repeat (first | exact Part.nil | refine Part.cons (by repeat (first | exact Pick.here | apply Pick.there)) ?_ | refine Part.free ?_)) ?_)
  refine WH.only (i := 26) (by kernel_rfl) rfl ?_
  refine WL.want rfl rfl rfl ?_
  refine WL.callV (g := 30) (v := .bool true) Try.call30 rfl (fun w s => by
    have := lsame_c (Nod.leafN 1 4) (Nod.leafN 1 4) p1 q25 w (Nod.leafN_wf (by decide)) (Nod.leafN_wf (by decide)) (NdRd.at_ ⟨Rd.row (by repeat (first | exact .head _ | refine .tail _ ?_)), Rd.row (by repeat (first | exact .head _ | refine .tail _ ?_)), Rd.row (by repeat (first | exact .head _ | refine .tail _ ?_)), c1.kc, c1.vc, c1.cc⟩ s) (NdRd.at_ ⟨Rd.row (by repeat (first | exact .head _ | refine .tail _ ?_)), Rd.row (by repeat (first | exact .head _ | refine .tail _ ?_)), Rd.row (by repeat (first | exact .head _ | refine .tail _ ?_)), g1, g2, g3⟩ s)
    rwa [decide_eq_true rfl] at this) rfl ?_
  refine WL.nil (WN.nextH (by repeat (first | exact Part.nil | refine Part.cons (by repeat (first | exact Pick.here | apply Pick.there)) ?_ | refine Part.free ?_)) ?_)
  (refine WH.order [27, 28, 29, 30, 31, 32, 33, 34] (by repeat (first | exact Part.nil | refine Part.cons (by repeat (first | exact Pick.here | apply Pick.there)) ?_ | refine Part.free ?_)) (by kernel_rfl) ?_; (repeat (first | (refine WT.k_move rfl ?_; (refine WT.kn rfl ?_; refine WT.take rfl rfl (fun _ _ _ h => h) (Yl.move rfl) rfl (by kernel_rfl) (by kernel_rfl) ?_)) | (refine WT.k_load rfl ?_; (refine WT.kg rfl ?_; first | refine WT.takeG rfl rfl rfl rfl (fun _ _ _ h => h) (Yl.loadAll (T' := 26) (b := b10) (cs := (ndl (Nod.leafN 5 5) p2).toArray) (fr := (0, 0)) Try.isAgg26 Try.sizeOf26 rfl (by repeat (first | exact .head _ | refine .tail _ ?_)) rfl) rfl (by kernel_rfl) (by kernel_rfl) ?_ | refine WT.takeG rfl rfl rfl rfl (fun _ _ _ h => h) (Yl.loadBlk (T := 39) (v := .int .u64 5) Try.isAgg39 rfl (by repeat (first | exact .head _ | refine .tail _ ?_)) (by rfl)) rfl (by kernel_rfl) (by kernel_rfl) ?_)) | (refine WT.k_fld rfl ?_; (refine WT.kg rfl ?_; refine WT.takeG rfl rfl rfl rfl (fun _ _ _ h => h) (Yl.fldN0 kN rfl) rfl (by kernel_rfl) (by kernel_rfl) ?_)) | (refine WT.k_pick rfl ?_; (refine WT.kn rfl ?_; refine WT.take rfl rfl (fun _ _ _ h => h) (Yl.pick_t rfl rfl rfl) rfl (by kernel_rfl) (by kernel_rfl) ?_)) | (refine WT.k_bin .eql rfl ?_; (refine WT.kg rfl ?_; refine WT.takeG rfl rfl rfl rfl (fun _ _ _ h => h) (Yl.eqlT rfl rfl (by decide)) rfl (by kernel_rfl) (by kernel_rfl) ?_)))); refine WT.nil ?_)
  refine WH.only (i := 35) (by kernel_rfl) rfl ?_
  refine WL.want rfl rfl rfl ?_
  refine WL.call (g := 31) Try.call31 rfl (fun w s => leaf_c 5 5 w (by decide) (by decide)) rfl fun v1 B1 hv1 => ?_
  obtain ⟨q35, g1, g2, g3, rfl, rfl⟩ := hv1
  simp only [List.cons_append, List.nil_append, id]
  refine WL.nil (WN.nextH (by repeat (first | exact Part.nil | refine Part.cons (by repeat (first | exact Pick.here | apply Pick.there)) ?_ | refine Part.free ?_)) ?_)
  refine WH.only (i := 36) (by kernel_rfl) rfl ?_
  refine WL.want rfl rfl rfl ?_
  refine WL.callV (g := 30) (v := .bool true) Try.call30 rfl (fun w s => by
    have := lsame_c (Nod.leafN 5 5) (Nod.leafN 5 5) p2 q35 w (Nod.leafN_wf (by decide)) (Nod.leafN_wf (by decide)) (NdRd.at_ ⟨Rd.row (by repeat (first | exact .head _ | refine .tail _ ?_)), Rd.row (by repeat (first | exact .head _ | refine .tail _ ?_)), Rd.row (by repeat (first | exact .head _ | refine .tail _ ?_)), c2.kc, c2.vc, c2.cc⟩ s) (NdRd.at_ ⟨Rd.row (by repeat (first | exact .head _ | refine .tail _ ?_)), Rd.row (by repeat (first | exact .head _ | refine .tail _ ?_)), Rd.row (by repeat (first | exact .head _ | refine .tail _ ?_)), g1, g2, g3⟩ s)
    rwa [decide_eq_true rfl] at this) rfl ?_
  refine WL.nil (WN.nextH (by repeat (first | exact Part.nil | refine Part.cons (by repeat (first | exact Pick.here | apply Pick.there)) ?_ | refine Part.free ?_)) ?_)
  (refine WH.order [37, 38, 39, 40, 41, 42, 43] (by repeat (first | exact Part.nil | refine Part.cons (by repeat (first | exact Pick.here | apply Pick.there)) ?_ | refine Part.free ?_)) (by kernel_rfl) ?_; (repeat (first | (refine WT.k_move rfl ?_; first | (refine WT.kn rfl ?_; refine WT.take rfl rfl (fun _ _ _ h => h) (Yl.move rfl) rfl (by kernel_rfl) (by kernel_rfl) ?_) | (refine WT.kg rfl ?_; refine WT.takeG rfl rfl rfl rfl (fun _ _ _ h => h) (Yl.move rfl) rfl (by kernel_rfl) (by kernel_rfl) ?_)) | (refine WT.k_load rfl ?_; (refine WT.kg rfl ?_; refine WT.takeG rfl rfl rfl rfl (fun _ _ _ h => h) (Yl.loadAll (T' := 26) (b := b12) (cs := (ndl (Nod.innerN 1 6 21) p3).toArray) (fr := (0, 0)) Try.isAgg26 Try.sizeOf26 rfl (by repeat (first | exact .head _ | refine .tail _ ?_)) rfl) rfl (by kernel_rfl) (by kernel_rfl) ?_)) | (refine WT.k_pick rfl ?_; (refine WT.kn rfl ?_; refine WT.take rfl rfl (fun _ _ _ h => h) (Yl.pick_t rfl rfl rfl) rfl (by kernel_rfl) (by kernel_rfl) ?_)) | (refine WT.k_bin .eql rfl ?_; (refine WT.kg rfl ?_; refine WT.takeG rfl rfl rfl rfl (fun _ _ _ h => h) (Yl.eqlT rfl rfl (by decide)) rfl (by kernel_rfl) (by kernel_rfl) ?_)))); refine WT.nil ?_)
  refine WH.only (i := 44) (by kernel_rfl) rfl ?_
  refine WL.want rfl rfl rfl ?_
  refine WL.call (g := 32) Try.call32 rfl (fun w s => inner_c 1 6 21 w (by decide) (by decide) (by decide)) rfl fun v1 B1 hv1 => ?_
  obtain ⟨q44, g1, g2, g3, rfl, rfl⟩ := hv1
  simp only [List.cons_append, List.nil_append, id]
  refine WL.nil (WN.nextH (by repeat (first | exact Part.nil | refine Part.cons (by repeat (first | exact Pick.here | apply Pick.there)) ?_ | refine Part.free ?_)) ?_)
  refine WH.only (i := 45) (by kernel_rfl) rfl ?_
  refine WL.want rfl rfl rfl ?_
  refine WL.callV (g := 30) (v := .bool true) Try.call30 rfl (fun w s => by
    have := lsame_c (Nod.innerN 1 6 21) (Nod.innerN 1 6 21) p3 q44 w (Nod.innerN_wf (by decide) (by decide)) (Nod.innerN_wf (by decide) (by decide)) (NdRd.at_ ⟨Rd.row (by repeat (first | exact .head _ | refine .tail _ ?_)), Rd.row (by repeat (first | exact .head _ | refine .tail _ ?_)), Rd.row (by repeat (first | exact .head _ | refine .tail _ ?_)), c3.kc, c3.vc, c3.cc⟩ s) (NdRd.at_ ⟨Rd.row (by repeat (first | exact .head _ | refine .tail _ ?_)), Rd.row (by repeat (first | exact .head _ | refine .tail _ ?_)), Rd.row (by repeat (first | exact .head _ | refine .tail _ ?_)), g1, g2, g3⟩ s)
    rwa [decide_eq_true rfl] at this) rfl ?_
  refine WL.nil (WN.nextH (by repeat (first | exact Part.nil | refine Part.cons (by repeat (first | exact Pick.here | apply Pick.there)) ?_ | refine Part.free ?_)) ?_)
  (refine WH.order [46, 47, 48, 49, 50, 51, 52, 53] (by repeat (first | exact Part.nil | refine Part.cons (by repeat (first | exact Pick.here | apply Pick.there)) ?_ | refine Part.free ?_)) (by kernel_rfl) ?_; (repeat (first | (refine WT.k_move rfl ?_; (refine WT.kn rfl ?_; refine WT.take rfl rfl (fun _ _ _ h => h) (Yl.move rfl) rfl (by kernel_rfl) (by kernel_rfl) ?_)) | (refine WT.k_load rfl ?_; (refine WT.kg rfl ?_; first | refine WT.takeG rfl rfl rfl rfl (fun _ _ _ h => h) (Yl.loadAll (T' := 26) (b := b14) (cs := (ndl (Nod.innerN 8 5 28) p4).toArray) (fr := (0, 0)) Try.isAgg26 Try.sizeOf26 rfl (by repeat (first | exact .head _ | refine .tail _ ?_)) rfl) rfl (by kernel_rfl) (by kernel_rfl) ?_ | refine WT.takeG rfl rfl rfl rfl (fun _ _ _ h => h) (Yl.loadBlk (T := 39) (v := .int .u64 7) Try.isAgg39 rfl (by repeat (first | exact .head _ | refine .tail _ ?_)) (by rfl)) rfl (by kernel_rfl) (by kernel_rfl) ?_)) | (refine WT.k_fld rfl ?_; (refine WT.kg rfl ?_; refine WT.takeG rfl rfl rfl rfl (fun _ _ _ h => h) (Yl.fldN0 kN rfl) rfl (by kernel_rfl) (by kernel_rfl) ?_)) | (refine WT.k_pick rfl ?_; (refine WT.kn rfl ?_; refine WT.take rfl rfl (fun _ _ _ h => h) (Yl.pick_t rfl rfl rfl) rfl (by kernel_rfl) (by kernel_rfl) ?_)) | (refine WT.k_bin .eql rfl ?_; (refine WT.kg rfl ?_; refine WT.takeG rfl rfl rfl rfl (fun _ _ _ h => h) (Yl.eqlT rfl rfl (by decide)) rfl (by kernel_rfl) (by kernel_rfl) ?_)))); refine WT.nil ?_)
  refine WH.only (i := 54) (by kernel_rfl) rfl ?_
  refine WL.want rfl rfl rfl ?_
  refine WL.call (g := 32) Try.call32 rfl (fun w s => inner_c 8 5 28 w (by decide) (by decide) (by decide)) rfl fun v1 B1 hv1 => ?_
  obtain ⟨q54, g1, g2, g3, rfl, rfl⟩ := hv1
  simp only [List.cons_append, List.nil_append, id]
  refine WL.nil (WN.nextH (by repeat (first | exact Part.nil | refine Part.cons (by repeat (first | exact Pick.here | apply Pick.there)) ?_ | refine Part.free ?_)) ?_)
  refine WH.only (i := 55) (by kernel_rfl) rfl ?_
  refine WL.want rfl rfl rfl ?_
  refine WL.callV (g := 30) (v := .bool true) Try.call30 rfl (fun w s => by
    have := lsame_c (Nod.innerN 8 5 28) (Nod.innerN 8 5 28) p4 q54 w (Nod.innerN_wf (by decide) (by decide)) (Nod.innerN_wf (by decide) (by decide)) (NdRd.at_ ⟨Rd.row (by repeat (first | exact .head _ | refine .tail _ ?_)), Rd.row (by repeat (first | exact .head _ | refine .tail _ ?_)), Rd.row (by repeat (first | exact .head _ | refine .tail _ ?_)), c4.kc, c4.vc, c4.cc⟩ s) (NdRd.at_ ⟨Rd.row (by repeat (first | exact .head _ | refine .tail _ ?_)), Rd.row (by repeat (first | exact .head _ | refine .tail _ ?_)), Rd.row (by repeat (first | exact .head _ | refine .tail _ ?_)), g1, g2, g3⟩ s)
    rwa [decide_eq_true rfl] at this) rfl ?_
  refine WL.nil (WN.nextH (by repeat (first | exact Part.nil | refine Part.cons (by repeat (first | exact Pick.here | apply Pick.there)) ?_ | refine Part.free ?_)) ?_)
  (refine WH.order [56, 57, 58, 59, 60, 61, 62, 63, 64, 65] (by repeat (first | exact Part.nil | refine Part.cons (by repeat (first | exact Pick.here | apply Pick.there)) ?_ | refine Part.free ?_)) (by kernel_rfl) ?_; (repeat (first | (refine WT.k_move rfl ?_; first | (refine WT.kn rfl ?_; refine WT.take rfl rfl (fun _ _ _ h => h) (Yl.move rfl) rfl (by kernel_rfl) (by kernel_rfl) ?_) | (refine WT.kg rfl ?_; refine WT.takeG rfl rfl rfl rfl (fun _ _ _ h => h) (Yl.move rfl) rfl (by kernel_rfl) (by kernel_rfl) ?_)) | (refine WT.k_assign rfl ?_; (refine WT.kn rfl ?_; refine WT.take rfl rfl (fun _ _ _ h => h) (Yl.assign rfl) rfl (by kernel_rfl) (by kernel_rfl) ?_)) | (refine WT.k_pick rfl ?_; (refine WT.kn rfl ?_; refine WT.take rfl rfl (fun _ _ _ h => h) (Yl.pick_t rfl rfl rfl) rfl (by kernel_rfl) (by kernel_rfl) ?_)) | (refine WT.k_bin .eql rfl ?_; (refine WT.kg rfl ?_; refine WT.takeG rfl rfl rfl rfl (fun _ _ _ h => h) (Yl.eqlT rfl rfl (by decide)) rfl (by kernel_rfl) (by kernel_rfl) ?_)))); refine WT.nil ?_)
  refine WH.done (by kernel_rfl) ?_
  (repeat (first | refine WN.then_normal ?_ | refine WC.ret ?_))
  exact WN.ret1 rfl rfl ⟨rfl, rfl⟩ .nil
end Go.Proofs.Ytbfhdggfdhlkfaa
