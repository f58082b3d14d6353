import Derived.Test.YtmmpngigaodcgaaGreatRowDrivePlaysMg17
/- The examples of chapter 33. -/
namespace Go.Proofs.YtmmpngigaodcgaaGreat
set_option linter.unusedVariables false
set_option linter.unusedSimpArgs false
open Go Go.RowKit
set_option maxRecDepth 100000
set_option maxHeartbeats 8000000
def LA : List UInt8 := List.replicate 128 97
def LB : List UInt8 := List.replicate 128 98
def wv0 : DV := ⟨List.replicate 2 zblk, fun _ => none, false, none, 0, 0⟩
def wv1 : DV := (wv0.write 0 LA).1
def wv2 : DV := wv1.sync.1
def wv3 : DV := (wv2.write 1 LA).1
def wv4 : DV := (wv3.write 2 LA).1
def wv5 : DV := (wv4.write 0 ((LA.drop 0).take 5)).1
def wv6 : DV := (wv5.arm 2 [10, 128]).1
def wv7 : DV := (wv6.write 0 LB).1
def wv8 : DV := wv7.sync.1
def wv9 : DV := (wv8.read 0).1
def wv10 : DV := { wv9 with down := false }
def wv11 : DV := (wv10.read 0).1
def wv12 : DV := (wv11.read 1).1
def wv13 : DV := (wv12.arm 1 [0]).1
def wv14 : DV := (wv13.write 1 LB).1
def wv15 : DV := { wv14 with down := false }
def wv16 : DV := (wv15.read 1).1
def wv17 : DV := (wv16.arm 0 [0]).1
def wv18 : DV := (wv17.arm 0 [129]).1
def wv19 : DV := (wv18.arm (-1) [0]).1
theorem we1 : (wv0.write 0 LA).2 = 0 := by decide +kernel
theorem we2 : wv1.sync.2 = 0 := by decide +kernel
theorem we3 : (wv2.write 1 LA).2 = 0 := by decide +kernel
theorem we4 : (wv3.write 2 LA).2 = 3 := by decide +kernel
theorem we5 : (wv4.write 0 ((LA.drop 0).take 5)).2 = 2 := by decide +kernel
theorem we6 : (wv5.arm 2 [10, 128]).2 = 0 := by decide +kernel
theorem we7 : (wv6.write 0 LB).2 = 0 := by decide +kernel
theorem we8 : wv7.sync.2 = 11 := by decide +kernel
theorem we9 : (wv8.read 0).2 = ([], 11) := by decide +kernel
theorem we11 : (wv10.read 0).2 = (LB.take 10 ++ LA.drop 10, 0) := by decide +kernel
theorem we12 : (wv11.read 1).2 = (LA, 0) := by decide +kernel
theorem we13 : (wv12.arm 1 [0]).2 = 0 := by decide +kernel
theorem we14 : (wv13.write 1 LB).2 = 11 := by decide +kernel
theorem we16 : (wv15.read 1).2 = (LA, 0) := by decide +kernel
theorem we17 : (wv16.arm 0 [0]).2 = 0 := by decide +kernel
theorem we18 : (wv17.arm 0 [129]).2 = 2 := by decide +kernel
theorem we19 : (wv18.arm (-1) [0]).2 = 2 := by decide +kernel
theorem rcut {X : Cx} {A : List HA} {a : Option Addr} {l : List UInt8} {lo m : Nat} (h : Rd X A a (bs l)) (hl : l.length ≤ 128) : Rd X A (cutA a lo 128 1) (bs ((l.drop lo).take m)) := by
  have h2 := Rd.cut (lo := lo) (cap := 128) (k := 1) (m := m) h (by rw [bs_length]; omega)
  rw [Nat.mul_one, ← bs_drop, ← bs_take] at h2
  exact h2
attribute [local irreducible] WL WC WN Yl WH WQ WT WE WU WG WV
theorem works33_c (w : World) : Calls Tryz.prog 4 #[] w (Gives (Val (.bool true)) w) := by
  refine enter (args := []) Tryz.func4 Tryz.ntmps4 rfl rfl ?_
  (repeat (first | refine WL.step (Yl.assign rfl) rfl ?_ | refine WC.seq ?_ | refine WC.region ?_ | refine WL.nil ?_ | refine WN.then_normal ?_))
  refine WL.call (g := 24) Tryz.call24 rfl (fun w0 st2 => full_c 97 w0) rfl fun v1 B1 hv1 => ?_
  obtain ⟨a1, ca1, hca1, rfl, rfl⟩ := hv1
  rw [show List.replicate 128 (97 : UInt8) = LA from rfl]
  skip
  refine WL.call (g := 24) Tryz.call24 rfl (fun w0 st2 => full_c 98 w0) rfl fun v1 B1 hv1 => ?_
  obtain ⟨b1, cb1, hcb1, rfl, rfl⟩ := hv1
  rw [show List.replicate 128 (98 : UInt8) = LB from rfl]
  (repeat (first | refine WL.step (Yl.assign rfl) rfl ?_ | refine WC.seq ?_ | refine WC.region ?_ | refine WL.nil ?_ | refine WN.then_normal ?_))
  refine WL.call (g := 5) Tryz.call5 rfl (fun w0 st2 => dnew_c 2 w0 (by decide) (by decide)) rfl fun v1 B1 hv1 => ?_
  obtain ⟨p, s0, ok0, hv0, rfl, rfl⟩ := hv1
  rw [show (⟨List.replicate 2 zblk, fun _ => none, false, none, 0, 0⟩ : DV) = wv0 from rfl] at hv0
  simp only [List.cons_append, List.nil_append, List.append_nil]
  (repeat (first | refine WL.want rfl rfl rfl ?_ | refine WL.step (Yl.move rfl) rfl ?_ | refine WL.step (Yl.assign rfl) rfl ?_ | refine WL.step (Yl.extract rfl rfl) rfl ?_ | refine WL.step (Yl.pick_f rfl rfl rfl) rfl ?_ | refine WL.step (Yl.neqF rfl rfl rfl) rfl ?_ | (refine WL.k_bin .eql ?_; refine WL.step (Yl.eqlPN (by kernel_rfl) rfl) rfl ?_) | refine WC.seq ?_ | refine WC.region ?_ | refine WL.nil ?_ | refine WN.then_normal ?_))
  refine WL.callS (g := 8) (A0 := drI p s0) (B := [.row b1 cb1 5 1 (bs LB), .row a1 ca1 5 1 (bs LA)]) Tryz.call8 rfl (List.Perm.refl _) (fun w0 st2 s1 => dwrite_v 0 a1 128 128 LA w0 ok0 hv0 (by decide +kernel) rfl (row_out st2 (List.Perm.refl _) (by repeat (first | exact .head _ | refine .tail _ ?_))) s1) rfl fun v C hv => ?_
  obtain ⟨rfl, s1, ok1, hv1, rfl⟩ := hv
  rw [we1]
  rw [show (wv0.write 0 LA).1 = wv1 from rfl] at hv1
  (repeat (first | refine WL.want rfl rfl rfl ?_ | refine WL.step (Yl.move rfl) rfl ?_ | refine WL.step (Yl.pick_f rfl rfl rfl) rfl ?_ | refine WL.step (Yl.neqF rfl rfl rfl) rfl ?_))
  refine WL.callS (g := 11) (A0 := drI p s1) (B := [.row b1 cb1 5 1 (bs LB), .row a1 ca1 5 1 (bs LA)]) Tryz.call11 rfl (List.Perm.refl _) (fun w0 st2 s1 => dsync_v w0 ok1 hv1 (by decide +kernel) s1) rfl fun v C hv => ?_
  obtain ⟨rfl, s2, ok2, hv2, rfl⟩ := hv
  rw [we2]
  rw [show wv1.sync.1 = wv2 from rfl] at hv2
  (repeat (first | refine WL.want rfl rfl rfl ?_ | refine WL.step (Yl.move rfl) rfl ?_ | refine WL.step (Yl.pick_f rfl rfl rfl) rfl ?_ | refine WL.step (Yl.neqF rfl rfl rfl) rfl ?_))
  refine WL.callS (g := 8) (A0 := drI p s2) (B := [.row b1 cb1 5 1 (bs LB), .row a1 ca1 5 1 (bs LA)]) Tryz.call8 rfl (List.Perm.refl _) (fun w0 st2 s1 => dwrite_v 1 a1 128 128 LA w0 ok2 hv2 (by decide +kernel) rfl (row_out st2 (List.Perm.refl _) (by repeat (first | exact .head _ | refine .tail _ ?_))) s1) rfl fun v C hv => ?_
  obtain ⟨rfl, s3, ok3, hv3, rfl⟩ := hv
  rw [we3]
  rw [show (wv2.write 1 LA).1 = wv3 from rfl] at hv3
  (repeat (first | refine WL.want rfl rfl rfl ?_ | refine WL.step (Yl.move rfl) rfl ?_ | refine WL.step (Yl.pick_f rfl rfl rfl) rfl ?_ | refine WL.step (Yl.neqF rfl rfl rfl) rfl ?_))
  refine WL.callS (g := 8) (A0 := drI p s3) (B := [.row b1 cb1 5 1 (bs LB), .row a1 ca1 5 1 (bs LA)]) Tryz.call8 rfl (List.Perm.refl _) (fun w0 st2 s1 => dwrite_v 2 a1 128 128 LA w0 ok3 hv3 (by decide +kernel) rfl (row_out st2 (List.Perm.refl _) (by repeat (first | exact .head _ | refine .tail _ ?_))) s1) rfl fun v C hv => ?_
  obtain ⟨rfl, s4, ok4, hv4, rfl⟩ := hv
  rw [we4]
  rw [show (wv3.write 2 LA).1 = wv4 from rfl] at hv4
  (repeat (first | refine WL.want rfl rfl rfl ?_ | refine WL.step (Yl.move rfl) rfl ?_ | refine WL.step (Yl.pick_f rfl rfl rfl) rfl ?_ | refine WL.step (Yl.neqF rfl rfl rfl) rfl ?_ | (refine WL.k_slice ?_; refine WL.step (Yl.cutTo (t := 38) (hi := 5) Tryz.underlying38 Tryz.sizeOf5 rfl rfl (by decide)) rfl ?_)))
  refine WL.callS (g := 8) (A0 := drI p s4) (B := [.row b1 cb1 5 1 (bs LB), .row a1 ca1 5 1 (bs LA)]) Tryz.call8 rfl (List.Perm.refl _) (fun w0 st2 s1 => dwrite_v 0 (cutA a1 0 128 1) 5 128 ((LA.drop 0).take 5) w0 ok4 hv4 (by decide +kernel) rfl (CellsOut.cut (row_out st2 (List.Perm.refl _) (by repeat (first | exact .head _ | refine .tail _ ?_))) 0 5 (by decide)) s1) rfl fun v C hv => ?_
  obtain ⟨rfl, s5, ok5, hv5, rfl⟩ := hv
  rw [we5]
  rw [show (wv4.write 0 ((LA.drop 0).take 5)).1 = wv5 from rfl] at hv5
  (repeat (first | refine WL.want rfl rfl rfl ?_ | refine WL.step (Yl.move rfl) rfl ?_ | refine WL.step (Yl.pick_f rfl rfl rfl) rfl ?_ | refine WL.step (Yl.neqF rfl rfl rfl) rfl ?_))
  refine WL.callV (g := 25) (v := .int .i64 3) Tryz.call25 rfl (fun w0 st2 => dops_v w0 (ok5.at_ st2 (fun x hx => List.mem_append_left _ hx)) hv5) rfl ?_
  (repeat (first | refine WL.want rfl rfl rfl ?_ | refine WL.step (Yl.pick_f rfl rfl rfl) rfl ?_ | refine WL.step (Yl.neqF rfl rfl rfl) rfl ?_ | refine WL.nil ?_ | refine WN.then_normal ?_))
  refine WC.cond_false rfl rfl ?_
  (repeat (first | refine WL.step (Yl.move rfl) rfl ?_ | refine WC.seq ?_ | refine WC.region ?_ | refine WN.then_normal ?_ | refine WC.skip ?_))
  refine WL.lit (t := 31) (vs := [.int .i64 10, .int .i64 128]) Tryz.underlying31 elemZ rfl rfl rfl (fun u hu => by simp at hu; rcases hu with rfl | rfl <;> rfl) rfl fun b2 => ?_
  rw [show flat [Value.int .i64 10, Value.int .i64 128] = zcells [10, 128] from rfl]
  refine WL.mid ?_
  (repeat (first | refine WL.step (Yl.build (ps := [(0, .const (.int .i64 2)), (1, .tmp 61)]) (vs := [(0, .int .i64 2), (1, .slice (some ⟨b2, 0, none⟩) 2 2)]) rfl (buildPl _ _ _ _)) rfl ?_))
  refine WL.callS (g := 16) (A0 := drI p s5) (B := [.row (some ⟨b2, 0, none⟩) 2 3 1 (zcells [10, 128]), .row b1 cb1 5 1 (bs LB), .row a1 ca1 5 1 (bs LA)]) Tryz.call16 rfl (List.Perm.refl _) (fun w0 st2 s1 => darm_v 2 (some ⟨b2, 0, none⟩) 2 2 [10, 128] w0 ok5 hv5 rfl (by decide) (row_out st2 (List.Perm.refl _) (by repeat (first | exact .head _ | refine .tail _ ?_))) s1) rfl fun v C hv => ?_
  obtain ⟨rfl, s6, ok6, hv6, rfl⟩ := hv
  rw [we6]
  rw [show (wv5.arm 2 [10, 128]).1 = wv6 from rfl] at hv6
  (repeat (first | refine WL.want rfl rfl rfl ?_ | refine WL.step (Yl.move rfl) rfl ?_ | refine WL.step (Yl.neqF rfl rfl rfl) rfl ?_))
  refine WL.callS (g := 8) (A0 := drI p s6) (B := [.row (some ⟨b2, 0, none⟩) 2 3 1 (zcells [10, 128]), .row b1 cb1 5 1 (bs LB), .row a1 ca1 5 1 (bs LA)]) Tryz.call8 rfl (List.Perm.refl _) (fun w0 st2 s1 => dwrite_v 0 b1 128 128 LB w0 ok6 hv6 (by decide +kernel) rfl (row_out st2 (List.Perm.refl _) (by repeat (first | exact .head _ | refine .tail _ ?_))) s1) rfl fun v C hv => ?_
  obtain ⟨rfl, s7, ok7, hv7, rfl⟩ := hv
  rw [we7]
  rw [show (wv6.write 0 LB).1 = wv7 from rfl] at hv7
  (repeat (first | refine WL.want rfl rfl rfl ?_ | refine WL.step (Yl.move rfl) rfl ?_ | refine WL.step (Yl.pick_f rfl rfl rfl) rfl ?_ | refine WL.step (Yl.neqF rfl rfl rfl) rfl ?_))
  refine WL.callS (g := 11) (A0 := drI p s7) (B := [.row (some ⟨b2, 0, none⟩) 2 3 1 (zcells [10, 128]), .row b1 cb1 5 1 (bs LB), .row a1 ca1 5 1 (bs LA)]) Tryz.call11 rfl (List.Perm.refl _) (fun w0 st2 s1 => dsync_v w0 ok7 hv7 (by decide +kernel) s1) rfl fun v C hv => ?_
  obtain ⟨rfl, s8, ok8, hv8, rfl⟩ := hv
  rw [we8]
  rw [show wv7.sync.1 = wv8 from rfl] at hv8
  (repeat (first | refine WL.want rfl rfl rfl ?_ | refine WL.step (Yl.move rfl) rfl ?_ | refine WL.step (Yl.pick_f rfl rfl rfl) rfl ?_ | refine WL.step (Yl.neqF rfl rfl rfl) rfl ?_))
  refine WL.callV (g := 26) (v := .bool true) Tryz.call26 rfl (fun w0 st2 => ddown_v w0 (ok8.at_ st2 (fun x hx => List.mem_append_left _ hx)) hv8) rfl ?_
  (repeat (first | refine WL.want rfl rfl rfl ?_ | refine WL.step (Yl.pick_f rfl rfl rfl) rfl ?_ | refine WL.step (Yl.not rfl) rfl ?_ | refine WL.nil ?_ | refine WN.then_normal ?_))
  refine WC.cond_false rfl rfl ?_
  (repeat (first | refine WL.step (Yl.move rfl) rfl ?_ | refine WC.seq ?_ | refine WC.region ?_ | refine WN.then_normal ?_ | refine WC.skip ?_))
  refine WL.callS (g := 13) (A0 := drI p s8) (B := [.row (some ⟨b2, 0, none⟩) 2 3 1 (zcells [10, 128]), .row b1 cb1 5 1 (bs LB), .row a1 ca1 5 1 (bs LA)]) Tryz.call13 rfl (List.Perm.refl _) (fun w0 st2 s1 => dread_v 0 w0 ok8 hv8 (by decide +kernel) s1) rfl fun v C hv => ?_
  rw [we9] at hv
  obtain ⟨x1, cx1, hcx1, rfl, s9, ok9, hv9, rfl⟩ := hv
  rw [show (wv8.read 0).1 = wv9 from rfl] at hv9
  rw [List.cons_append]
  refine WL.mid ?_
  (repeat (first | refine WL.want rfl rfl rfl ?_ | refine WL.step (Yl.move rfl) rfl ?_ | refine WL.step (Yl.assign rfl) rfl ?_ | refine WL.step (Yl.extract rfl rfl) rfl ?_ | refine WL.step (Yl.neqF rfl rfl rfl) rfl ?_ | refine WC.seq ?_ | refine WC.region ?_ | refine WL.nil ?_ | refine WN.then_normal ?_))
  refine WL.callS (g := 19) (A0 := drI p s9) (B := [.row x1 cx1 83 1 (bs ([])), .row (some ⟨b2, 0, none⟩) 2 3 1 (zcells [10, 128]), .row b1 cb1 5 1 (bs LB), .row a1 ca1 5 1 (bs LA)]) Tryz.call19 rfl (List.Perm.refl _) (fun w0 st2 s1 => drestart_v w0 ok9 hv9 s1) rfl fun v C hv => ?_
  obtain ⟨rfl, s10, ok10, hv10, rfl⟩ := hv
  rw [show ({ wv9 with down := false } : DV) = wv10 from rfl] at hv10
  (repeat (first | refine WL.want rfl rfl rfl ?_ | refine WL.step (Yl.pick_f rfl rfl rfl) rfl ?_ | refine WL.step (Yl.neqF rfl rfl rfl) rfl ?_ | refine WL.nil ?_ | refine WN.then_normal ?_))
  refine WC.cond_false rfl rfl ?_
  (repeat (first | refine WL.step (Yl.move rfl) rfl ?_ | refine WC.seq ?_ | refine WC.region ?_ | refine WN.then_normal ?_ | refine WC.skip ?_))
  refine WL.callS (g := 13) (A0 := drI p s10) (B := [.row x1 cx1 83 1 (bs ([])), .row (some ⟨b2, 0, none⟩) 2 3 1 (zcells [10, 128]), .row b1 cb1 5 1 (bs LB), .row a1 ca1 5 1 (bs LA)]) Tryz.call13 rfl (List.Perm.refl _) (fun w0 st2 s1 => dread_v 0 w0 ok10 hv10 (by decide +kernel) s1) rfl fun v C hv => ?_
  rw [we11] at hv
  obtain ⟨x2, cx2, hcx2, rfl, s11, ok11, hv11, rfl⟩ := hv
  rw [show (wv10.read 0).1 = wv11 from rfl] at hv11
  rw [show (LB.take 10 ++ LA.drop 10).length = 128 from rfl] at hcx2 ⊢
  rw [List.cons_append]
  refine WL.mid ?_
  (repeat (first | refine WL.step (Yl.move rfl) rfl ?_ | refine WL.step (Yl.assign rfl) rfl ?_ | refine WL.step (Yl.extract rfl rfl) rfl ?_ | refine WC.seq ?_ | refine WC.region ?_ | refine WL.nil ?_ | refine WN.then_normal ?_))
  refine WL.callS (g := 13) (A0 := drI p s11) (B := [.row x2 cx2 83 1 (bs (LB.take 10 ++ LA.drop 10)), .row x1 cx1 83 1 (bs ([])), .row (some ⟨b2, 0, none⟩) 2 3 1 (zcells [10, 128]), .row b1 cb1 5 1 (bs LB), .row a1 ca1 5 1 (bs LA)]) Tryz.call13 rfl (List.Perm.refl _) (fun w0 st2 s1 => dread_v 1 w0 ok11 hv11 (by decide +kernel) s1) rfl fun v C hv => ?_
  rw [we12] at hv
  obtain ⟨x3, cx3, hcx3, rfl, s12, ok12, hv12, rfl⟩ := hv
  rw [show (wv11.read 1).1 = wv12 from rfl] at hv12
  rw [show (LA).length = 128 from rfl] at hcx3 ⊢
  rw [List.cons_append]
  refine WL.mid ?_
  (repeat (first | refine WL.step (Yl.move rfl) rfl ?_ | refine WL.step (Yl.assign rfl) rfl ?_ | refine WL.step (Yl.extract rfl rfl) rfl ?_ | refine WC.seq ?_ | refine WL.nil ?_ | refine WN.then_normal ?_))
  refine WC.regionH [] (by kernel_rfl) ?_
  (refine WH.order [0, 3, 4] (by repeat (first | exact Part.nil | refine Part.cons (by repeat (first | exact Pick.here | apply Pick.there)) ?_ | refine Part.free ?_)) (by kernel_rfl) ?_; (repeat (first | (refine WT.k_move rfl ?_; (refine WT.kn rfl ?_; refine WT.take rfl rfl (fun _ _ _ h => h) (Yl.move rfl) rfl (by kernel_rfl) (by kernel_rfl) ?_)) | (refine WT.k_slice rfl ?_; (refine WT.kn rfl ?_; refine WT.take rfl rfl (fun _ _ _ h => h) (Yl.cutFrom (t := 38) (lo := 10) Tryz.underlying38 Tryz.sizeOf5 rfl rfl (by decide)) rfl (by kernel_rfl) (by kernel_rfl) ?_)))); refine WT.nil ?_)
  refine WH.only (i := 1) (by kernel_rfl) rfl ?_
  refine WL.call (g := 24) Tryz.call24 rfl (fun w0 st2 => full_c 98 w0) rfl fun v1 B1 hv1 => ?_
  obtain ⟨f1, cf1, hcf1, rfl, rfl⟩ := hv1
  rw [show List.replicate 128 (98 : UInt8) = LB from rfl]
  refine WL.nil (WN.nextH .nil ?_)
  (refine WH.order [2] (by repeat (first | exact Part.nil | refine Part.cons (by repeat (first | exact Pick.here | apply Pick.there)) ?_ | refine Part.free ?_)) (by kernel_rfl) ?_; (repeat (first | (refine WT.k_slice rfl ?_; (refine WT.kn rfl ?_; refine WT.take rfl rfl (fun _ _ _ h => h) (Yl.cutTo (t := 38) (hi := 10) Tryz.underlying38 Tryz.sizeOf5 rfl rfl (by decide)) rfl (by kernel_rfl) (by kernel_rfl) ?_)))); refine WT.nil ?_)
  refine WH.only (i := 5) (by kernel_rfl) rfl ?_
  rw [cutA_zero]
  simp only [List.cons_append, List.nil_append]
  refine WL.appendFit (a := f1) (n := 10) (m := 118) (c0 := 128) (vs := bs LB) (news := bs ((LA.drop 10).take 118)) Tryz.underlying38 elemU8 rfl rfl .here hcf1 (by decide) (by decide) (by decide) (rcut (Rd.row (a := a1) (cap := ca1) (T := 5) (k := 1) (.tail _ (List.mem_append_right _ (by repeat (first | exact .head _ | refine .tail _ ?_))))) (by decide)) (by decide +kernel) (bs_one _) rfl ?_
  rw [show (bs LB).take 10 ++ bs ((LA.drop 10).take 118) = bs (LB.take 10 ++ LA.drop 10) from by rw [← bs_take, ← bs_append]; rfl]
  refine WL.nil (WN.nextH .nil ?_)
  refine WH.only (i := 6) (by kernel_rfl) rfl ?_
  refine WL.callV (g := 15) (v := .bool true) Tryz.call15 rfl (fun w0 st2 => by have := bequal_c x2 f1 128 128 cx2 128 (LB.take 10 ++ LA.drop 10) (LB.take 10 ++ LA.drop 10) w0 rfl rfl (Rd.row (a := x2) (cap := cx2) (T := 83) (k := 1) (.tail _ (List.mem_append_right _ (by repeat (first | exact .head _ | refine .tail _ ?_)))) w0 st2) (Rd.row (.head _) w0 st2); rwa [decide_eq_true rfl] at this) rfl ?_
  refine WL.nil (WN.nextH .nil ?_)
  (refine WH.order [7, 8, 9, 10, 11, 12, 13, 14] (by repeat (first | exact Part.nil | refine Part.cons (by repeat (first | exact Pick.here | apply Pick.there)) ?_ | refine Part.free ?_)) (by kernel_rfl) ?_; (repeat (first | (refine WT.k_move rfl ?_; first | (refine WT.kn rfl ?_; refine WT.take rfl rfl (fun _ _ _ h => h) (Yl.move rfl) rfl (by kernel_rfl) (by kernel_rfl) ?_) | (refine WT.kg rfl ?_; refine WT.takeG rfl rfl rfl rfl (fun _ _ _ h => h) (Yl.move rfl) rfl (by kernel_rfl) (by kernel_rfl) ?_)) | (refine WT.k_pick rfl ?_; (refine WT.kn rfl ?_; refine WT.take rfl rfl (fun _ _ _ h => h) (Yl.pick_f rfl rfl rfl) rfl (by kernel_rfl) (by kernel_rfl) ?_)) | (refine WT.k_bin .neq rfl ?_; (refine WT.kg rfl ?_; refine WT.takeG rfl rfl rfl rfl (fun _ _ _ h => h) (Yl.neqF rfl rfl rfl) rfl (by kernel_rfl) (by kernel_rfl) ?_)) | (refine WT.k_unop rfl ?_; (refine WT.kn rfl ?_; refine WT.take rfl rfl (fun _ _ _ h => h) (Yl.not rfl) rfl (by kernel_rfl) (by kernel_rfl) ?_)))); refine WT.nil ?_)
  refine WH.only (i := 15) (by kernel_rfl) rfl ?_
  refine WL.want rfl rfl rfl ?_
  refine WL.callV (g := 15) (v := .bool true) Tryz.call15 rfl (fun w0 st2 => by have := bequal_c x3 a1 128 128 cx3 128 LA LA w0 rfl rfl (Rd.row (a := x3) (cap := cx3) (T := 83) (k := 1) (.tail _ (List.mem_append_right _ (by repeat (first | exact .head _ | refine .tail _ ?_)))) w0 st2) (Rd.row (a := a1) (cap := ca1) (T := 5) (k := 1) (.tail _ (List.mem_append_right _ (by repeat (first | exact .head _ | refine .tail _ ?_)))) w0 st2); rwa [decide_eq_true rfl] at this) rfl ?_
  refine WL.nil (WN.nextH .nil ?_)
  (refine WH.order [16, 17, 18, 19, 20, 21, 22, 23] (by repeat (first | exact Part.nil | refine Part.cons (by repeat (first | exact Pick.here | apply Pick.there)) ?_ | refine Part.free ?_)) (by kernel_rfl) ?_; (repeat (first | (refine WT.k_move rfl ?_; first | (refine WT.kn rfl ?_; refine WT.take rfl rfl (fun _ _ _ h => h) (Yl.move rfl) rfl (by kernel_rfl) (by kernel_rfl) ?_) | (refine WT.kg rfl ?_; refine WT.takeG rfl rfl rfl rfl (fun _ _ _ h => h) (Yl.move rfl) rfl (by kernel_rfl) (by kernel_rfl) ?_)) | (refine WT.k_pick rfl ?_; (refine WT.kn rfl ?_; refine WT.take rfl rfl (fun _ _ _ h => h) (Yl.pick_f rfl rfl rfl) rfl (by kernel_rfl) (by kernel_rfl) ?_)) | (refine WT.k_bin .neq rfl ?_; (refine WT.kg rfl ?_; refine WT.takeG rfl rfl rfl rfl (fun _ _ _ h => h) (Yl.neqF rfl rfl rfl) rfl (by kernel_rfl) (by kernel_rfl) ?_)) | (refine WT.k_unop rfl ?_; (refine WT.kg rfl ?_; refine WT.takeG rfl rfl rfl rfl (fun _ _ _ h => h) (Yl.not rfl) rfl (by kernel_rfl) (by kernel_rfl) ?_)))); refine WT.nil ?_)
  refine WH.only (i := 24) (by kernel_rfl) rfl ?_
  refine WL.want rfl rfl rfl ?_
  refine WL.callV (g := 27) (v := .int .i64 2) Tryz.call27 rfl (fun w0 st2 => dreads_v w0 (ok12.at_ st2 (fun x hx => .tail _ (List.mem_append_left _ hx))) hv12) rfl ?_
  refine WL.nil (WN.nextH .nil ?_)
  (refine WH.order [25, 26, 27, 28] (by repeat (first | exact Part.nil | refine Part.cons (by repeat (first | exact Pick.here | apply Pick.there)) ?_ | refine Part.free ?_)) (by kernel_rfl) ?_; (repeat (first | (refine WT.k_move rfl ?_; first | (refine WT.kn rfl ?_; refine WT.take rfl rfl (fun _ _ _ h => h) (Yl.move rfl) rfl (by kernel_rfl) (by kernel_rfl) ?_) | (refine WT.kg rfl ?_; refine WT.takeG rfl rfl rfl rfl (fun _ _ _ h => h) (Yl.move rfl) rfl (by kernel_rfl) (by kernel_rfl) ?_)) | (refine WT.k_pick rfl ?_; (refine WT.kn rfl ?_; refine WT.take rfl rfl (fun _ _ _ h => h) (Yl.pick_f rfl rfl rfl) rfl (by kernel_rfl) (by kernel_rfl) ?_)) | (refine WT.k_bin .neq rfl ?_; (refine WT.kg rfl ?_; refine WT.takeG rfl rfl rfl rfl (fun _ _ _ h => h) (Yl.neqF rfl rfl rfl) rfl (by kernel_rfl) (by kernel_rfl) ?_)))); refine WT.nil ?_)
  refine WH.only (i := 29) (by kernel_rfl) rfl ?_
  refine WL.want rfl rfl rfl ?_
  refine WL.callV (g := 25) (v := .int .i64 5) Tryz.call25 rfl (fun w0 st2 => dops_v w0 (ok12.at_ st2 (fun x hx => .tail _ (List.mem_append_left _ hx))) hv12) rfl ?_
  refine WL.nil (WN.nextH .nil ?_)
  (refine WH.order [30, 31] (by repeat (first | exact Part.nil | refine Part.cons (by repeat (first | exact Pick.here | apply Pick.there)) ?_ | refine Part.free ?_)) (by kernel_rfl) ?_; (repeat (first | (refine WT.k_pick rfl ?_; (refine WT.kn rfl ?_; refine WT.take rfl rfl (fun _ _ _ h => h) (Yl.pick_f rfl rfl rfl) rfl (by kernel_rfl) (by kernel_rfl) ?_)) | (refine WT.k_bin .neq rfl ?_; (refine WT.kg rfl ?_; refine WT.takeG rfl rfl rfl rfl (fun _ _ _ h => h) (Yl.neqF rfl rfl rfl) rfl (by kernel_rfl) (by kernel_rfl) ?_)))); refine WT.nil ?_)
  refine WH.done (by kernel_rfl) ?_
  (repeat (first | refine WN.then_normal ?_))
  refine WC.cond_false rfl rfl ?_
  refine WC.part (B := drI p s12 ++ [.row x3 cx3 83 1 (bs (LA)), .row x2 cx2 83 1 (bs (LB.take 10 ++ LA.drop 10)), .row x1 cx1 83 1 (bs ([])), .row (some ⟨b2, 0, none⟩) 2 3 1 (zcells [10, 128]), .row b1 cb1 5 1 (bs LB), .row a1 ca1 5 1 (bs LA)]) (.more (Part.refl _)) ?_
  (repeat (first | refine WL.step (Yl.move rfl) rfl ?_ | refine WC.seq ?_ | refine WC.region ?_ | refine WN.then_normal ?_ | refine WC.skip ?_))
  refine WL.lit (t := 31) (vs := [.int .i64 0]) Tryz.underlying31 elemZ rfl rfl rfl (fun u hu => by simp at hu; rcases hu with rfl <;> rfl) rfl fun b3 => ?_
  rw [show flat [Value.int .i64 0] = zcells [0] from rfl]
  refine WL.mid ?_
  (repeat (first | refine WL.step (Yl.build (ps := [(0, .const (.int .i64 1)), (1, .tmp 136)]) (vs := [(0, .int .i64 1), (1, .slice (some ⟨b3, 0, none⟩) 1 1)]) rfl (buildPl _ _ _ _)) rfl ?_))
  refine WL.callS (g := 16) (A0 := drI p s12) (B := [.row (some ⟨b3, 0, none⟩) 1 3 1 (zcells [0]), .row x3 cx3 83 1 (bs (LA)), .row x2 cx2 83 1 (bs (LB.take 10 ++ LA.drop 10)), .row x1 cx1 83 1 (bs ([])), .row (some ⟨b2, 0, none⟩) 2 3 1 (zcells [10, 128]), .row b1 cb1 5 1 (bs LB), .row a1 ca1 5 1 (bs LA)]) Tryz.call16 rfl (List.Perm.refl _) (fun w0 st2 s1 => darm_v 1 (some ⟨b3, 0, none⟩) 1 1 [0] w0 ok12 hv12 rfl (by decide) (row_out st2 (List.Perm.refl _) (by repeat (first | exact .head _ | refine .tail _ ?_))) s1) rfl fun v C hv => ?_
  obtain ⟨rfl, s13, ok13, hv13, rfl⟩ := hv
  rw [we13]
  rw [show (wv12.arm 1 [0]).1 = wv13 from rfl] at hv13
  (repeat (first | refine WL.want rfl rfl rfl ?_ | refine WL.step (Yl.move rfl) rfl ?_ | refine WL.step (Yl.neqF rfl rfl rfl) rfl ?_))
  refine WL.callS (g := 8) (A0 := drI p s13) (B := [.row (some ⟨b3, 0, none⟩) 1 3 1 (zcells [0]), .row x3 cx3 83 1 (bs (LA)), .row x2 cx2 83 1 (bs (LB.take 10 ++ LA.drop 10)), .row x1 cx1 83 1 (bs ([])), .row (some ⟨b2, 0, none⟩) 2 3 1 (zcells [10, 128]), .row b1 cb1 5 1 (bs LB), .row a1 ca1 5 1 (bs LA)]) Tryz.call8 rfl (List.Perm.refl _) (fun w0 st2 s1 => dwrite_v 1 b1 128 128 LB w0 ok13 hv13 (by decide +kernel) rfl (row_out st2 (List.Perm.refl _) (by repeat (first | exact .head _ | refine .tail _ ?_))) s1) rfl fun v C hv => ?_
  obtain ⟨rfl, s14, ok14, hv14, rfl⟩ := hv
  rw [we14]
  rw [show (wv13.write 1 LB).1 = wv14 from rfl] at hv14
  (repeat (first | refine WL.want rfl rfl rfl ?_ | refine WL.step (Yl.move rfl) rfl ?_ | refine WL.step (Yl.pick_f rfl rfl rfl) rfl ?_ | refine WL.step (Yl.neqF rfl rfl rfl) rfl ?_))
  refine WL.callS (g := 19) (A0 := drI p s14) (B := [.row (some ⟨b3, 0, none⟩) 1 3 1 (zcells [0]), .row x3 cx3 83 1 (bs (LA)), .row x2 cx2 83 1 (bs (LB.take 10 ++ LA.drop 10)), .row x1 cx1 83 1 (bs ([])), .row (some ⟨b2, 0, none⟩) 2 3 1 (zcells [10, 128]), .row b1 cb1 5 1 (bs LB), .row a1 ca1 5 1 (bs LA)]) Tryz.call19 rfl (List.Perm.refl _) (fun w0 st2 s1 => drestart_v w0 ok14 hv14 s1) rfl fun v C hv => ?_
  obtain ⟨rfl, s15, ok15, hv15, rfl⟩ := hv
  rw [show ({ wv14 with down := false } : DV) = wv15 from rfl] at hv15
  (repeat (first | refine WL.want rfl rfl rfl ?_ | refine WL.step (Yl.pick_f rfl rfl rfl) rfl ?_ | refine WL.step (Yl.neqF rfl rfl rfl) rfl ?_ | refine WL.nil ?_ | refine WN.then_normal ?_))
  refine WC.cond_false rfl rfl ?_
  (repeat (first | refine WL.step (Yl.move rfl) rfl ?_ | refine WC.seq ?_ | refine WC.region ?_ | refine WN.then_normal ?_ | refine WC.skip ?_))
  refine WL.callS (g := 13) (A0 := drI p s15) (B := [.row (some ⟨b3, 0, none⟩) 1 3 1 (zcells [0]), .row x3 cx3 83 1 (bs (LA)), .row x2 cx2 83 1 (bs (LB.take 10 ++ LA.drop 10)), .row x1 cx1 83 1 (bs ([])), .row (some ⟨b2, 0, none⟩) 2 3 1 (zcells [10, 128]), .row b1 cb1 5 1 (bs LB), .row a1 ca1 5 1 (bs LA)]) Tryz.call13 rfl (List.Perm.refl _) (fun w0 st2 s1 => dread_v 1 w0 ok15 hv15 (by decide +kernel) s1) rfl fun v C hv => ?_
  rw [we16] at hv
  obtain ⟨x4, cx4, hcx4, rfl, s16, ok16, hv16, rfl⟩ := hv
  rw [show (wv15.read 1).1 = wv16 from rfl] at hv16
  rw [show (LA).length = 128 from rfl] at hcx4 ⊢
  rw [List.cons_append]
  refine WL.mid ?_
  (repeat (first | refine WL.step (Yl.move rfl) rfl ?_ | refine WL.step (Yl.assign rfl) rfl ?_ | refine WL.step (Yl.extract rfl rfl) rfl ?_ | refine WC.seq ?_ | refine WC.region ?_ | refine WL.nil ?_ | refine WN.then_normal ?_))
  refine WL.callV (g := 15) (v := .bool true) Tryz.call15 rfl (fun w0 st2 => by have := bequal_c x4 a1 128 128 cx4 128 LA LA w0 rfl rfl (Rd.row (a := x4) (cap := cx4) (T := 83) (k := 1) (List.mem_append_right _ (by repeat (first | exact .head _ | refine .tail _ ?_))) w0 st2) (Rd.row (a := a1) (cap := ca1) (T := 5) (k := 1) (List.mem_append_right _ (by repeat (first | exact .head _ | refine .tail _ ?_))) w0 st2); rwa [decide_eq_true rfl] at this) rfl ?_
  (repeat (first | refine WL.want rfl rfl rfl ?_ | refine WL.step (Yl.move rfl) rfl ?_ | refine WL.step (Yl.pick_t rfl rfl rfl) rfl ?_ | refine WL.step (Yl.eqlT rfl rfl rfl) rfl ?_))
  refine WL.lit (t := 31) (vs := [.int .i64 0]) Tryz.underlying31 elemZ rfl rfl rfl (fun u hu => by simp at hu; rcases hu with rfl <;> rfl) rfl fun b4 => ?_
  rw [show flat [Value.int .i64 0] = zcells [0] from rfl]
  refine WL.mid ?_
  (repeat (first | refine WL.want rfl rfl rfl ?_ | refine WL.step (Yl.build (ps := [(1, .tmp 165)]) (vs := [(1, .slice (some ⟨b4, 0, none⟩) 1 1)]) rfl (buildPl1 _ _ _)) rfl ?_))
  refine WL.callS (A0 := drI p s16) (B := [.row (some ⟨b4, 0, none⟩) 1 3 1 (zcells [0]), .row x4 cx4 83 1 (bs (LA)), .row (some ⟨b3, 0, none⟩) 1 3 1 (zcells [0]), .row x3 cx3 83 1 (bs (LA)), .row x2 cx2 83 1 (bs (LB.take 10 ++ LA.drop 10)), .row x1 cx1 83 1 (bs ([])), .row (some ⟨b2, 0, none⟩) 2 3 1 (zcells [10, 128]), .row b1 cb1 5 1 (bs LB), .row a1 ca1 5 1 (bs LA)]) Tryz.call16 rfl (List.Perm.refl _) (fun w0 st2 s1 => darm_v 0 (some ⟨b4, 0, none⟩) 1 1 [0] w0 ok16 hv16 rfl (by decide) (row_out st2 (List.Perm.refl _) (by repeat (first | exact .head _ | refine .tail _ ?_))) s1) rfl fun v C hv => ?_
  obtain ⟨rfl, s17, ok17, hv17, rfl⟩ := hv
  rw [we17]
  rw [show (wv16.arm 0 [0]).1 = wv17 from rfl] at hv17
  (repeat (first | refine WL.want rfl rfl rfl ?_ | refine WL.step (Yl.move rfl) rfl ?_ | refine WL.step (Yl.pick_t rfl rfl rfl) rfl ?_ | refine WL.step (Yl.eqlT rfl rfl rfl) rfl ?_))
  refine WL.callV (g := 26) (v := .bool true) Tryz.call26 rfl (fun w0 st2 => ddown_v w0 (ok17.at_ st2 (fun x hx => List.mem_append_left _ hx)) hv17) rfl ?_
  (repeat (first | refine WL.want rfl rfl rfl ?_ | refine WL.step (Yl.move rfl) rfl ?_ | refine WL.step (Yl.pick_t rfl rfl rfl) rfl ?_))
  refine WL.lit (t := 31) (vs := [.int .i64 129]) Tryz.underlying31 elemZ rfl rfl rfl (fun u hu => by simp at hu; rcases hu with rfl <;> rfl) rfl fun b5 => ?_
  rw [show flat [Value.int .i64 129] = zcells [129] from rfl]
  refine WL.mid ?_
  (repeat (first | refine WL.want rfl rfl rfl ?_ | refine WL.step (Yl.build (ps := [(1, .tmp 176)]) (vs := [(1, .slice (some ⟨b5, 0, none⟩) 1 1)]) rfl (buildPl1 _ _ _)) rfl ?_))
  refine WL.callS (A0 := drI p s17) (B := [.row (some ⟨b5, 0, none⟩) 1 3 1 (zcells [129]), .row (some ⟨b4, 0, none⟩) 1 3 1 (zcells [0]), .row x4 cx4 83 1 (bs (LA)), .row (some ⟨b3, 0, none⟩) 1 3 1 (zcells [0]), .row x3 cx3 83 1 (bs (LA)), .row x2 cx2 83 1 (bs (LB.take 10 ++ LA.drop 10)), .row x1 cx1 83 1 (bs ([])), .row (some ⟨b2, 0, none⟩) 2 3 1 (zcells [10, 128]), .row b1 cb1 5 1 (bs LB), .row a1 ca1 5 1 (bs LA)]) Tryz.call16 rfl (List.Perm.refl _) (fun w0 st2 s1 => darm_v 0 (some ⟨b5, 0, none⟩) 1 1 [129] w0 ok17 hv17 rfl (by decide) (row_out st2 (List.Perm.refl _) (by repeat (first | exact .head _ | refine .tail _ ?_))) s1) rfl fun v C hv => ?_
  obtain ⟨rfl, s18, ok18, hv18, rfl⟩ := hv
  rw [we18]
  rw [show (wv17.arm 0 [129]).1 = wv18 from rfl] at hv18
  (repeat (first | refine WL.want rfl rfl rfl ?_ | refine WL.step (Yl.move rfl) rfl ?_ | refine WL.step (Yl.pick_t rfl rfl rfl) rfl ?_ | refine WL.step (Yl.eqlT rfl rfl rfl) rfl ?_))
  refine WL.lit (t := 31) (vs := [.int .i64 0]) Tryz.underlying31 elemZ rfl rfl rfl (fun u hu => by simp at hu; rcases hu with rfl <;> rfl) rfl fun b6 => ?_
  rw [show flat [Value.int .i64 0] = zcells [0] from rfl]
  refine WL.mid ?_
  (repeat (first | refine WL.want rfl rfl rfl ?_ | refine WL.step (Yl.build (ps := [(0, .const (.int .i64 (-1))), (1, .tmp 183)]) (vs := [(0, .int .i64 (-1)), (1, .slice (some ⟨b6, 0, none⟩) 1 1)]) rfl (buildPl _ _ _ _)) rfl ?_))
  refine WL.callS (A0 := drI p s18) (B := [.row (some ⟨b6, 0, none⟩) 1 3 1 (zcells [0]), .row (some ⟨b5, 0, none⟩) 1 3 1 (zcells [129]), .row (some ⟨b4, 0, none⟩) 1 3 1 (zcells [0]), .row x4 cx4 83 1 (bs (LA)), .row (some ⟨b3, 0, none⟩) 1 3 1 (zcells [0]), .row x3 cx3 83 1 (bs (LA)), .row x2 cx2 83 1 (bs (LB.take 10 ++ LA.drop 10)), .row x1 cx1 83 1 (bs ([])), .row (some ⟨b2, 0, none⟩) 2 3 1 (zcells [10, 128]), .row b1 cb1 5 1 (bs LB), .row a1 ca1 5 1 (bs LA)]) Tryz.call16 rfl (List.Perm.refl _) (fun w0 st2 s1 => darm_v (-1) (some ⟨b6, 0, none⟩) 1 1 [0] w0 ok18 hv18 rfl (by decide) (row_out st2 (List.Perm.refl _) (by repeat (first | exact .head _ | refine .tail _ ?_))) s1) rfl fun v C hv => ?_
  obtain ⟨rfl, s19, ok19, hv19, rfl⟩ := hv
  rw [we19]
  rw [show (wv18.arm (-1) [0]).1 = wv19 from rfl] at hv19
  (repeat (first | refine WL.want rfl rfl rfl ?_ | refine WL.step (Yl.assign rfl) rfl ?_ | refine WL.step (Yl.pick_t rfl rfl rfl) rfl ?_ | refine WL.step (Yl.eqlT rfl rfl rfl) rfl ?_ | refine WL.nil ?_ | refine WN.then_normal ?_ | refine WC.ret ?_))
  exact WN.ret1 rfl rfl ⟨rfl, rfl⟩ .nil
end Go.Proofs.YtmmpngigaodcgaaGreat
/- Which plans are valid. -/
namespace Go.Proofs.YtmmpngigaodcgaaGreat
set_option linter.unusedVariables false
set_option linter.unusedSimpArgs false
open Go Go.RowKit
set_option maxRecDepth 100000
set_option maxHeartbeats 8000000
attribute [local irreducible] WL WC WN Yl WH WQ WT WE WU WG WV
theorem rchk33_c (n : Int) (a : Option Addr) (m c2 : Nat) (K : List Int) (w : World) (hl : K.length = m) (hm : m ≤ 9223372036854775807) (hr : CellsAt w a (zcells K)) : Calls Tryz.prog 47 #[.agg #[.int .i64 n, .slice a m c2]] w (Gives (Val (.int .i64 (if planOk n K then 0 else 2))) w) := by
  refine enter (args := [.agg #[.int .i64 n, .slice a m c2]]) Tryz.func47 Tryz.ntmps47 rfl rfl ?_
  subst hl
  (repeat (first | refine WC.seq ?_ | refine WC.region ?_))
  refine WL.boxA rfl rfl fun b1 => ?_
  by_cases h1 : n < 0
  · rw [if_neg (fun h => by have := h.1; omega)]
    (repeat (first | refine WL.pass rfl rfl rfl rfl ?_ | refine WL.step (Yl.move rfl) rfl ?_ | refine WL.step (Yl.assign rfl) rfl ?_ | (refine WL.k_load ?_; refine WL.step (Yl.loadBlk (T := 3) Tryz.isAgg3 rfl (by repeat (first | exact .head _ | refine .tail _ ?_)) (by rfl)) rfl ?_) | (refine WL.k_fld ?_; refine WL.step (Yl.fldN0 (i := 0) (o := 0) (by kernel_rfl) rfl) rfl ?_) | refine WL.step (Yl.pick_t rfl rfl rfl) rfl ?_ | (refine WL.k_bin .lss ?_; refine WL.step (Yl.lssT rfl rfl (by omega)) rfl ?_) | refine WC.seq ?_ | refine WC.region ?_ | refine WL.nil ?_ | refine WN.then_normal ?_))
    refine WC.cond_true rfl rfl ?_
    (repeat (first | refine WL.step (Yl.assign rfl) rfl ?_ | refine WC.seq ?_ | refine WC.region ?_ | refine WL.nil ?_ | refine WN.then_normal ?_ | refine WC.ret ?_ | refine WN.then_ret ?_))
    exact WN.ret1 rfl rfl ⟨rfl, rfl⟩ .nil
  by_cases h2 : 1000000 < n
  · rw [if_neg (fun h => by have := h.2.1; omega)]
    (repeat (first | (refine WL.kG ?_; first | refine WL.want rfl rfl rfl ?_ | refine WL.pass rfl rfl rfl rfl ?_) | refine WL.step (Yl.move rfl) rfl ?_ | refine WL.step (Yl.assign rfl) rfl ?_ | (refine WL.k_load ?_; refine WL.step (Yl.loadBlk (T := 3) Tryz.isAgg3 rfl (by repeat (first | exact .head _ | refine .tail _ ?_)) (by rfl)) rfl ?_) | (refine WL.k_fld ?_; refine WL.step (Yl.fldN0 (i := 0) (o := 0) (by kernel_rfl) rfl) rfl ?_) | (refine WL.k_pick ?_; first | refine WL.step (Yl.pick_t rfl rfl rfl) rfl ?_ | refine WL.step (Yl.pick_f rfl rfl rfl) rfl ?_) | (refine WL.k_bin .lss ?_; refine WL.step (Yl.lssF rfl rfl (by omega)) rfl ?_) | (refine WL.k_bin .gtr ?_; refine WL.step (Yl.gtrT rfl rfl (by omega)) rfl ?_) | refine WC.seq ?_ | refine WC.region ?_ | refine WL.nil ?_ | refine WN.then_normal ?_))
    refine WC.cond_true rfl rfl ?_
    (repeat (first | refine WL.step (Yl.assign rfl) rfl ?_ | refine WC.seq ?_ | refine WC.region ?_ | refine WL.nil ?_ | refine WN.then_normal ?_ | refine WC.ret ?_ | refine WN.then_ret ?_))
    exact WN.ret1 rfl rfl ⟨rfl, rfl⟩ .nil
  by_cases h3 : K.length < 1
  · rw [if_neg (fun h => by have := h.2.2.1; omega)]
    (repeat (first | (refine WL.kG ?_; first | refine WL.want rfl rfl rfl ?_ | refine WL.pass rfl rfl rfl rfl ?_) | refine WL.step (Yl.move rfl) rfl ?_ | refine WL.step (Yl.assign rfl) rfl ?_ | (refine WL.k_load ?_; first | refine WL.step (Yl.loadBlk (T := 3) Tryz.isAgg3 rfl (by repeat (first | exact .head _ | refine .tail _ ?_)) (by rfl)) rfl ?_ | refine WL.step (Yl.loadBlk (T := 31) Tryz.isAgg31 rfl (by repeat (first | exact .head _ | refine .tail _ ?_)) (by rfl)) rfl ?_) | (refine WL.k_fld ?_; first | refine WL.step (Yl.fldN0 (i := 0) (o := 0) (by kernel_rfl) rfl) rfl ?_ | refine WL.step (Yl.fldN0 (i := 1) (o := 1) (by kernel_rfl) rfl) rfl ?_) | (refine WL.k_pick ?_; first | refine WL.step (Yl.pick_t rfl rfl rfl) rfl ?_ | refine WL.step (Yl.pick_f rfl rfl rfl) rfl ?_) | refine WL.step (Yl.len (t := 31) Tryz.underlying31 rfl) rfl ?_ | (refine WL.k_bin .lss ?_; first | refine WL.step (Yl.lssT rfl rfl (by omega)) rfl ?_ | refine WL.step (Yl.lssF rfl rfl (by omega)) rfl ?_) | (refine WL.k_bin .gtr ?_; refine WL.step (Yl.gtrF rfl rfl (by omega)) rfl ?_) | refine WC.seq ?_ | refine WC.region ?_ | refine WL.nil ?_ | refine WN.then_normal ?_))
    refine WC.cond_true rfl rfl ?_
    (repeat (first | refine WL.step (Yl.assign rfl) rfl ?_ | refine WC.seq ?_ | refine WC.region ?_ | refine WL.nil ?_ | refine WN.then_normal ?_ | refine WC.ret ?_ | refine WN.then_ret ?_))
    exact WN.ret1 rfl rfl ⟨rfl, rfl⟩ .nil
  by_cases h4 : 64 < K.length
  · rw [if_neg (fun h => by have := h.2.2.2.1; omega)]
    (repeat (first | refine WL.want rfl rfl rfl ?_ | refine WL.step (Yl.move rfl) rfl ?_ | refine WL.step (Yl.assign rfl) rfl ?_ | (refine WL.k_load ?_; first | refine WL.step (Yl.loadBlk (T := 3) Tryz.isAgg3 rfl (by repeat (first | exact .head _ | refine .tail _ ?_)) (by rfl)) rfl ?_ | refine WL.step (Yl.loadBlk (T := 31) Tryz.isAgg31 rfl (by repeat (first | exact .head _ | refine .tail _ ?_)) (by rfl)) rfl ?_) | (refine WL.k_fld ?_; first | refine WL.step (Yl.fldN0 (i := 0) (o := 0) (by kernel_rfl) rfl) rfl ?_ | refine WL.step (Yl.fldN0 (i := 1) (o := 1) (by kernel_rfl) rfl) rfl ?_) | refine WL.step (Yl.pick_f rfl rfl rfl) rfl ?_ | refine WL.step (Yl.len (t := 31) Tryz.underlying31 rfl) rfl ?_ | (refine WL.k_bin .lss ?_; refine WL.step (Yl.lssF rfl rfl (by omega)) rfl ?_) | (refine WL.k_bin .gtr ?_; first | refine WL.step (Yl.gtrT rfl rfl (by omega)) rfl ?_ | refine WL.step (Yl.gtrF rfl rfl (by omega)) rfl ?_) | refine WC.seq ?_ | refine WC.region ?_ | refine WL.nil ?_ | refine WN.then_normal ?_))
    refine WC.cond_true rfl rfl ?_
    (repeat (first | refine WL.step (Yl.assign rfl) rfl ?_ | refine WC.seq ?_ | refine WC.region ?_ | refine WL.nil ?_ | refine WN.then_normal ?_ | refine WC.ret ?_ | refine WN.then_ret ?_))
    exact WN.ret1 rfl rfl ⟨rfl, rfl⟩ .nil
  (repeat (first | refine WL.want rfl rfl rfl ?_ | refine WL.step (Yl.move rfl) rfl ?_ | refine WL.step (Yl.assign rfl) rfl ?_ | (refine WL.k_load ?_; first | refine WL.step (Yl.loadBlk (T := 3) Tryz.isAgg3 rfl (by repeat (first | exact .head _ | refine .tail _ ?_)) (by rfl)) rfl ?_ | refine WL.step (Yl.loadBlk (T := 31) Tryz.isAgg31 rfl (by repeat (first | exact .head _ | refine .tail _ ?_)) (by rfl)) rfl ?_) | (refine WL.k_fld ?_; first | refine WL.step (Yl.fldN0 (i := 0) (o := 0) (by kernel_rfl) rfl) rfl ?_ | refine WL.step (Yl.fldN0 (i := 1) (o := 1) (by kernel_rfl) rfl) rfl ?_) | refine WL.step (Yl.pick_f rfl rfl rfl) rfl ?_ | refine WL.step (Yl.len (t := 31) Tryz.underlying31 rfl) rfl ?_ | (refine WL.k_bin .lss ?_; refine WL.step (Yl.lssF rfl rfl (by omega)) rfl ?_) | (refine WL.k_bin .gtr ?_; refine WL.step (Yl.gtrF rfl rfl (by omega)) rfl ?_) | refine WC.seq ?_ | refine WC.region ?_ | refine WL.nil ?_ | refine WN.then_normal ?_))
  refine WC.cond_false rfl rfl ?_
  (repeat (first | refine WL.step (Yl.assign rfl) rfl ?_ | refine WC.seq ?_ | refine WC.region ?_ | refine WL.nil ?_ | refine WN.then_normal ?_ | refine WC.block ?_ | refine WC.skip ?_))
  refine WC.loop (α := Nat) (fun i => [(1, .pointer (some ⟨b1, 0, none⟩)), (3, .int .i64 (i : Int))]) (fun _ => [.blk b1 (.cells #[.int .i64 n, .slice a K.length c2] 33 (0, 0))]) (fun i => i ≤ K.length ∧ ∀ k ∈ K.take i, 0 ≤ k ∧ k ≤ 128) (fun i => K.length - i) 0 (by repeat (first | exact Sub.nil | refine Sub.cons rfl rfl ?_)) (by repeat (first | exact Part.nil | refine Part.cons (by repeat (first | exact Pick.here | apply Pick.there)) ?_ | refine Part.free ?_)) ⟨Nat.zero_le _, fun k hk => by simp at hk⟩ ?_
  intro i ⟨hi, hp⟩
  (repeat (first | refine WL.step (Yl.move rfl) rfl ?_ | (refine WL.k_load ?_; refine WL.step (Yl.loadBlk (T := 31) Tryz.isAgg31 rfl (by repeat (first | exact .head _ | refine .tail _ ?_)) (by rfl)) rfl ?_) | (refine WL.k_fld ?_; refine WL.step (Yl.fldN0 (i := 1) (o := 1) (by kernel_rfl) rfl) rfl ?_) | refine WL.step (Yl.len (t := 31) Tryz.underlying31 rfl) rfl ?_ | refine WL.step (Yl.lss rfl rfl) rfl ?_ | refine WC.seq ?_ | refine WC.region ?_ | refine WL.nil ?_ | refine WN.then_normal ?_))
  refine WC.ite rfl (fun g1 => ?_) (fun g1 => ?_)
  · have him : i < K.length := by omega
    have hz := zcells_at him
    have hg : K[i]? = some (K.getD i 0) := by simp [List.getD, him]
    have hmem := List.mem_of_getElem? hg
    by_cases g2 : K.getD i 0 < 0
    · rw [if_neg (fun h => by have := h.2.2.2.2 _ hmem; omega)]
      (repeat (first | refine WL.pass rfl rfl rfl rfl ?_ | refine WL.step (Yl.move rfl) rfl ?_ | (refine WL.k_load ?_; first | refine WL.step (Yl.loadBlk (T := 31) Tryz.isAgg31 rfl (by repeat (first | exact .head _ | refine .tail _ ?_)) (by rfl)) rfl ?_ | refine WL.step (Yl.load (T := 3) (a := a) (i := i) Tryz.isAgg3 rfl (Rd.old hr) hz) rfl ?_) | (refine WL.k_fld ?_; refine WL.step (Yl.fldN0 (i := 1) (o := 1) (by kernel_rfl) rfl) rfl ?_) | refine WL.step (Yl.pick_t rfl rfl rfl) rfl ?_ | (refine WL.k_idxa ?_; refine WL.step (Yl.indexAddr1 (t := 31) (a := a) (j := i) Tryz.underlying31 Tryz.sizeOf3 rfl rfl (Rd.old hr) (zcells_ne him) (by omega)) rfl ?_) | (refine WL.k_bin .lss ?_; refine WL.step (Yl.lssT rfl rfl (by omega)) rfl ?_) | refine WC.seq ?_ | refine WC.region ?_ | refine WL.nil ?_ | refine WN.then_normal ?_ | refine WC.block ?_ | refine WC.skip ?_))
      refine WC.cond_true rfl rfl ?_
      (repeat (first | refine WL.step (Yl.assign rfl) rfl ?_ | refine WC.seq ?_ | refine WC.region ?_ | refine WL.nil ?_ | refine WN.then_normal ?_ | refine WC.ret ?_ | refine WN.then_ret ?_ | refine WN.block_ret ?_))
      exact WN.ret1 rfl rfl ⟨rfl, rfl⟩ .nil
    by_cases g3 : 128 < K.getD i 0
    · rw [if_neg (fun h => by have := h.2.2.2.2 _ hmem; omega)]
      (repeat (first | refine WL.want rfl rfl rfl ?_ | refine WL.step (Yl.move rfl) rfl ?_ | (refine WL.k_load ?_; first | refine WL.step (Yl.loadBlk (T := 31) Tryz.isAgg31 rfl (by repeat (first | exact .head _ | refine .tail _ ?_)) (by rfl)) rfl ?_ | refine WL.step (Yl.load (T := 3) (a := a) (i := i) Tryz.isAgg3 rfl (Rd.old hr) hz) rfl ?_) | (refine WL.k_fld ?_; refine WL.step (Yl.fldN0 (i := 1) (o := 1) (by kernel_rfl) rfl) rfl ?_) | refine WL.step (Yl.pick_f rfl rfl rfl) rfl ?_ | (refine WL.k_idxa ?_; refine WL.step (Yl.indexAddr1 (t := 31) (a := a) (j := i) Tryz.underlying31 Tryz.sizeOf3 rfl rfl (Rd.old hr) (zcells_ne him) (by omega)) rfl ?_) | (refine WL.k_bin .lss ?_; refine WL.step (Yl.lssF rfl rfl (by omega)) rfl ?_) | (refine WL.k_bin .gtr ?_; refine WL.step (Yl.gtrT rfl rfl (by omega)) rfl ?_) | refine WC.seq ?_ | refine WC.region ?_ | refine WL.nil ?_ | refine WN.then_normal ?_ | refine WC.block ?_ | refine WC.skip ?_))
      refine WC.cond_true rfl rfl ?_
      (repeat (first | refine WL.step (Yl.assign rfl) rfl ?_ | refine WC.seq ?_ | refine WC.region ?_ | refine WL.nil ?_ | refine WN.then_normal ?_ | refine WC.ret ?_ | refine WN.then_ret ?_ | refine WN.block_ret ?_))
      exact WN.ret1 rfl rfl ⟨rfl, rfl⟩ .nil
    (repeat (first | refine WL.want rfl rfl rfl ?_ | refine WL.step (Yl.move rfl) rfl ?_ | (refine WL.k_load ?_; first | refine WL.step (Yl.loadBlk (T := 31) Tryz.isAgg31 rfl (by repeat (first | exact .head _ | refine .tail _ ?_)) (by rfl)) rfl ?_ | refine WL.step (Yl.load (T := 3) (a := a) (i := i) Tryz.isAgg3 rfl (Rd.old hr) hz) rfl ?_) | (refine WL.k_fld ?_; refine WL.step (Yl.fldN0 (i := 1) (o := 1) (by kernel_rfl) rfl) rfl ?_) | refine WL.step (Yl.pick_f rfl rfl rfl) rfl ?_ | (refine WL.k_idxa ?_; refine WL.step (Yl.indexAddr1 (t := 31) (a := a) (j := i) Tryz.underlying31 Tryz.sizeOf3 rfl rfl (Rd.old hr) (zcells_ne him) (by omega)) rfl ?_) | (refine WL.k_bin .lss ?_; refine WL.step (Yl.lssF rfl rfl (by omega)) rfl ?_) | (refine WL.k_bin .gtr ?_; refine WL.step (Yl.gtrF rfl rfl (by omega)) rfl ?_) | refine WC.seq ?_ | refine WC.region ?_ | refine WL.nil ?_ | refine WN.then_normal ?_ | refine WC.block ?_ | refine WC.skip ?_))
    refine WC.cond_false rfl rfl ?_
    (repeat (first | refine WL.step (Yl.move rfl) rfl ?_ | refine WL.step (Yl.assign rfl) rfl ?_ | (refine WL.k_bin .add ?_; refine WL.step (Yl.add64C rfl (by omega)) rfl ?_) | refine WC.region ?_ | refine WL.nil ?_ | refine WN.then_normal ?_ | refine WC.skip ?_ | refine WN.block_normal ?_))
    refine WN.next (i + 1) ⟨by omega, fun k hk => ?_⟩ (by omega) (by repeat (first | exact Sub.nil | refine Sub.cons rfl rfl ?_)) (by repeat (first | exact Part.nil | refine Part.cons (by repeat (first | exact Pick.here | apply Pick.there)) ?_ | refine Part.free ?_))
    rw [List.take_add_one, hg] at hk
    rcases List.mem_append.1 hk with h | h
    · exact hp k h
    · simp at h; subst h; simp only [List.getD_eq_getElem?_getD] at g2 g3; omega
  · have hKm : K.take i = K := List.take_of_length_le (by omega)
    rw [hKm] at hp
    rw [if_pos ⟨by omega, by omega, by omega, by omega, hp⟩]
    (repeat (first | refine WL.step (Yl.assign rfl) rfl ?_ | refine WC.seq ?_ | refine WC.region ?_ | refine WL.nil ?_ | refine WN.then_normal ?_ | refine WC.exit ?_ | refine WC.ret ?_ | refine WN.then_exit ?_ | refine WN.block_here ?_))
    exact WN.ret1 rfl rfl ⟨rfl, rfl⟩ .nil
end Go.Proofs.YtmmpngigaodcgaaGreat
