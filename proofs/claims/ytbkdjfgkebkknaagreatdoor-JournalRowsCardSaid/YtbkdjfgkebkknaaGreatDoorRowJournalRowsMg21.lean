import Derived.Test.YtbkdjfgkebkknaaGreatDoorRowJournalRowsMg20
import Derived.Test.YtbkdjfgkebkknaaGreatDoorRowJournalRowsMg7
import Derived.Sort.OwnSortedInts
import Derived.Test.YtbkdjfgkebkknaaGreatDoorRowJournalRowsMg8
import Derived.Test.YtbkdjfgkebkknaaGreatDoorRowJournalRowsMg6
namespace Go.Proofs.YtbkdjfgkebkknaaGreatDoor
set_option linter.unusedVariables false
set_option linter.unusedSimpArgs false
open Go Go.RowKit
set_option maxRecDepth 100000
set_option maxHeartbeats 8000000
theorem elemPg : ElemT Tryz.prog 106 (.agg #[.int .i64 0, .slice none 0 0]) 2 32 := ElemT.of (by kernel_rfl) rfl (by decide)
theorem buildPg (n : Int) (a : Option Addr) (m c : Nat) (w : World) : (Instr.build 106 [(0, .int .i64 n), (1, .slice a m c)].toArray).run Tryz.prog w = .ok (.agg #[.int .i64 n, .slice a m c]) w := by
  simp [Instr.build, Tryz.zeroValue106, run_underlying Tryz.underlying106, Tryz.sizeOf3, Tryz.sizeOf23, Value.cells, Instr.fill]
theorem permSc (B C D : List HA) : ((B ++ C) ++ D).Perm (C ++ (B ++ D)) := by
  classical
  rw [List.perm_iff_count]; intro u; simp only [List.count_append]; omega
theorem permSw (A B C D : List HA) : (A ++ ((B ++ C) ++ D)).Perm ((A ++ C) ++ (B ++ D)) := by
  classical
  rw [List.perm_iff_count]; intro u; simp only [List.count_append]; omega
theorem ncells_z (l : List Nat) : ncells l = zcells (l.map fun (k : Nat) => (k : Int)) := by simp [ncells, zcells]
theorem Tab.o {w : World} (h : Tab w) : TabO w [] := CellsAt.out h
def JScanK (dp : DP) (v : DV) (j : JV) : Value → List HA → Prop := fun u B => ∃ p js ds' m, u = .tuple #[bptr (JP.bj p), .int .i64 0] ∧ JS.Ok js ∧ js.v = j ∧ DS.Ok ds' dp ∧ ds'.v = { v with rd := v.rd + m } ∧ m ≤ 5 * (j.n + 1) ∧ B = jI dp.bd p js ++ drI dp ds'
section
variable {dp : DP} {ds : DS} {p : JP} {s : JS} {S : List Nat} {v : DV} {j : JV}
theorem jused_v (k : Nat) (w : World) (h : JAt w dp.bd p s) (hj : s.v = j) (hk : j.used = k) : Calls Tryz.prog 36 #[bptr p.bj] w (Gives (Val (.int .i64 (k : Int))) w) := by
  subst hj hk; exact jused_c w h
theorem jtx_v (k : Nat) (w : World) (h : JAt w dp.bd p s) (hj : s.v = j) (hk : j.tx = k) : Calls Tryz.prog 35 #[bptr p.bj] w (Gives (Val (.int .i64 (k : Int))) w) := by
  subst hj hk; exact jtx_c w h
theorem jfits_v (x : Int) (w : World) (h : JAt w dp.bd p s) (hj : s.v = j) {r : Bool × Bool} (hr : fitV j x = r) : Calls Tryz.prog 15 #[bptr p.bj, .int .i64 x] w (Gives (Val (.tuple #[.bool r.1, .bool r.2])) w) := by
  subst hj hr; exact jfits_c x w h
theorem jpages_v (l : List Nat) (w : World) (h : JAt w dp.bd p s) (hj : s.v = j) (hl : dirtyOf 4096 j.F = l) : Calls Tryz.prog 34 #[bptr p.bj] w (Gives (NewRow id 3 1 l.length (ncells l)) w) := by
  subst hj hl; exact jpages_c w h
theorem jappend_v (a : Option Addr) (n cap : Nat) (L : List Pg) (w : World) (r : DV × JV × Nat) (dok : ds.Ok dp) (hv : ds.v = v) (jok : s.Ok) (hj : s.v = j) (he : japp v j L = r) (hops : v.ops < 1152921504606846976) (hl : L.length = n) (hn : n ≤ 100000)
    (hr : CellsOut w S a (pgs L)) (hq : ∀ q ∈ L, CellsOut w S q.s.a (bs q.s.l)) (hT : TabO w S) (st : St w S (jI dp.bd p s ++ drI dp ds) w) :
    Calls Tryz.prog 16 #[bptr p.bj, .slice a n cap] w (GivesS S (JAppV dp p r) w) := by
  subst hv hj he; exact jappend_r a n cap L w dok jok hops hl hn hr hq hT st
theorem jget_v (no : Int) (w : World) (r : List UInt8 × Bool × Nat) (dok : ds.Ok dp) (hv : ds.v = v) (jok : s.Ok) (hj : s.v = j) (he : jget v j no = r) (hrow : j.first + j.n ≤ v.d.length) (hF : ∀ k q, j.F k = some q → q.at_ ≤ j.n) (hrd : v.rd < 1152921504606846976) (hT : TabO w S) (st : St w S (jI dp.bd p s ++ drI dp ds) w) :
    Calls Tryz.prog 33 #[bptr p.bj, .int .i64 no] w (GivesS S (JGetV dp p s v r) w) := by
  subst hv hj he; exact jget_r no w dok jok hrow hF hrd hT st
theorem jscan_v (first n : Nat) (ep : Int) (t : SS) (w : World) (dok : ds.Ok dp) (hv : ds.v = v) (he0 : Frm.Ep ep) (hn : 1 ≤ n) (hr : first + n ≤ v.d.length) (hdn : v.down = false) (hrd : v.rd < 1152921504606846976) (hs : Scan (frA v first n ep) SS.start t) (hT : TabO w S) (st : St w S (drI dp ds) w) :
    Calls Tryz.prog 18 #[bptr dp.bd, .int .i64 (first : Int), .int .i64 (n : Int), .int .i64 ep] w (GivesS S (JScanK dp v ⟨first, n, ep, t.used, t.tx, t.F⟩) w) := by
  subst hv
  refine (jscan_r first n ep w dok he0 hn hr hdn hrd hT st).mono ?_
  rintro _ _ ⟨u, B, rfl, ⟨p, js, ds', t', m, rfl, jok, hjv, hsc, dok', hd', hm, rfl⟩, st'⟩
  obtain rfl := hsc.det hs
  exact ⟨_, _, rfl, ⟨p, js, ds', m, rfl, jok, hjv, dok', hd', hm, rfl⟩, st'⟩
theorem jscan_k {Ts : List (List Pg)} {j0 : JV} (w : World) (h : Jok v j0 Ts) (dok : ds.Ok dp) (hv : ds.v = v) (hrd : v.rd < 1152921504606846976) (hT : TabO w S) (st : St w S (drI dp ds) w) :
    Calls Tryz.prog 18 #[bptr dp.bd, .int .i64 (j0.first : Int), .int .i64 (j0.n : Int), .int .i64 j0.ep] w (GivesS S (JScanK dp v (j0.adds Ts)) w) := by
  have e := jscan_v j0.first j0.n j0.ep (SS.of (j0.adds Ts)) w dok hv h.ep h.n1 h.row h.calm.up hrd h.scan hT st
  obtain ⟨s1, s2, s3, _, _⟩ := adds_same Ts j0
  have : (⟨j0.first, j0.n, j0.ep, (SS.of (j0.adds Ts)).used, (SS.of (j0.adds Ts)).tx, (SS.of (j0.adds Ts)).F⟩ : JV) = j0.adds Ts := by
    rw [← s1, ← s2, ← s3]; rfl
  rwa [this] at e
theorem jnew_v (first n : Nat) (ep : Int) (w : World) (hd : DrAt w dp ds) (hv : ds.v = v) (he : Frm.Ep ep) (hn : 1 ≤ n) (hr : first + n ≤ v.d.length) : Calls Tryz.prog 12 #[bptr dp.bd, .int .i64 (first : Int), .int .i64 (n : Int), .int .i64 ep] w (Gives (JNewV dp.bd (JV.new first n ep)) w) := by
  subst hv; exact jnew_c first n ep w hd hd.bank.wf.le he hn hr
theorem jnew_ve (first n ep : Int) (k : Nat) (w : World) (hd : DrAt w dp ds) (hv : ds.v = v) (hk : newE v.d.length first n ep = k) (h0 : k ≠ 0) : Calls Tryz.prog 12 #[bptr dp.bd, .int .i64 first, .int .i64 n, .int .i64 ep] w (Gives (Val (.tuple #[.pointer none, .int .i64 (k : Int)])) w) := by
  subst hv hk; exact jnew_e first n ep w hd hd.bank.wf.le h0
end
end Go.Proofs.YtbkdjfgkebkknaaGreatDoor
namespace Go.Proofs.YtbkdjfgkebkknaaGreatDoor
set_option linter.unusedVariables false
set_option linter.unusedSimpArgs false
open Go Go.RowKit
set_option maxRecDepth 100000
set_option maxHeartbeats 8000000
section
variable {X : Cx} {ops : Array Oper} {Q : Exit → Act → World → Prop} {rest : List Oper} {ρ : Env} {A B : List HA} {ty : TypeId} {ps : String} {af : Array Edge}
end
attribute [local irreducible] WL WC WN Yl WH WQ WT WE WU WG WV
end Go.Proofs.YtbkdjfgkebkknaaGreatDoor
namespace Go.Proofs.YtbkdjfgkebkknaaGreatDoor
set_option linter.unusedVariables false
set_option linter.unusedSimpArgs false
open Go Go.RowKit
set_option maxRecDepth 100000
set_option maxHeartbeats 8000000
attribute [local irreducible] WL WC WN Yl WH WQ WT WE WU WG WV
end Go.Proofs.YtbkdjfgkebkknaaGreatDoor
namespace Go.Proofs.YtbkdjfgkebkknaaGreatDoor
set_option linter.unusedVariables false
set_option linter.unusedSimpArgs false
open Go Go.RowKit Go.Shelf
set_option maxRecDepth 100000
set_option maxHeartbeats 4000000
end Go.Proofs.YtbkdjfgkebkknaaGreatDoor
namespace Go.Proofs.YtbkdjfgkebkknaaGreatDoor
set_option linter.unusedVariables false
set_option linter.unusedSimpArgs false
open Go Go.RowKit
set_option maxRecDepth 100000
set_option maxHeartbeats 8000000
theorem blk_out {w0 w : World} {S : List Nat} {A A0 B : List HA} {b : Nat} {o : Obj} (s : St w0 S A w) (hp : A.Perm (A0 ++ B)) (hm : HA.blk b o ∈ B) : b ∉ A0.filterMap HA.foot ∧ w.heap[b]? = some o := by
  have s1 := s.perm hp
  refine ⟨fun h => ?_, s1.holds _ (List.mem_append_right _ hm)⟩
  have := s1.apart
  rw [List.filterMap_append, List.nodup_append] at this
  exact this.2.2 b h b (List.mem_filterMap.2 ⟨_, hm, rfl⟩) rfl
theorem Has.out {P : Program} {n : Nat} {w0 : World} {S : List Nat} {A : List HA} {b : Nat} {o : Obj} (h : b ∉ S ∧ w0.heap[b]? = some o) : Has ⟨P, n, w0, S⟩ A b o := fun _ s => (s.kept.block b (lt_of_heap h.2) h.1).trans h.2
abbrev SM := Nat → Option Sl
def SM.c (F : SM) : CM := fun k => (F k).map (·.l)
attribute [local irreducible] WL WC WN Yl WH WQ WT WE WU WG WV
def getR (C : CM) (no : Nat) : List UInt8 × Bool × Nat := match C no with | none => ([], false, 0) | some b => (b, true, 0)
end Go.Proofs.YtbkdjfgkebkknaaGreatDoor
namespace Go.Proofs.YtbkdjfgkebkknaaGreatDoor
set_option linter.unusedVariables false
set_option linter.unusedSimpArgs false
open Go Go.RowKit
set_option maxRecDepth 100000
set_option maxHeartbeats 8000000
structure LS where
  os : List Sl
  fs : List Sl
  Z : List HA
  i : Nat
attribute [local irreducible] WL WC WN Yl WH WQ WT WE WU WG WV
section
variable {bK bk co cf : Nat} {ao af : Option Addr} {os fs : List Sl} {d : List (List UInt8)} {F : Nat → Option (List UInt8)} {S : List Nat}
end
end Go.Proofs.YtbkdjfgkebkknaaGreatDoor
namespace Go.Proofs.YtbkdjfgkebkknaaGreatDoor
set_option linter.unusedVariables false
set_option linter.unusedSimpArgs false
open Go Go.RowKit
structure Turn where
  k : UInt8
  s : UInt8
  n : UInt8
  m : UInt8
def Turn.cs (t : Turn) : List Value := [bv t.k, bv t.s, bv t.n, bv t.m]
theorem Turn.len (t : Turn) : t.cs.length = 4 := rfl
end Go.Proofs.YtbkdjfgkebkknaaGreatDoor
namespace Go.Proofs.YtbkdjfgkebkknaaGreatDoor
set_option linter.unusedVariables false
set_option linter.unusedSimpArgs false
open Go Go.RowKit
set_option maxRecDepth 100000
set_option maxHeartbeats 8000000
structure KP where
  bK : Nat
  bk : Nat
  ao : Option Addr
  co : Nat
  af : Option Addr
  cf : Nat
  da : Option Addr
  cap : Nat
  mb : Nat
theorem elemSl : ElemT Tryz.prog 23 (.slice none 0 0) 1 24 := ElemT.of (by kernel_rfl) rfl (by decide)
structure BS where
  ao : Option Addr
  co : Nat
  af : Option Addr
  cf : Nat
  os : List Sl
  fs : List Sl
  Z : List HA
attribute [local irreducible] WL WC WN Yl WH WQ WT WE WU WG WV
end Go.Proofs.YtbkdjfgkebkknaaGreatDoor
namespace Go.Proofs.YtbkdjfgkebkknaaGreatDoor
set_option linter.unusedVariables false
set_option linter.unusedSimpArgs false
open Go Go.RowKit
set_option maxRecDepth 100000
set_option maxHeartbeats 8000000
def zs (l : List Nat) : List Int := l.map fun (k : Nat) => (k : Int)
theorem zs_len (l : List Nat) : (zs l).length = l.length := List.length_map _
theorem zs_snoc (l : List Nat) (i : Nat) : zcells (zs l) ++ zcells [(i : Int)] = zcells (zs (l ++ [i])) := by simp [zcells, zs]
structure AS where
  la : Option Addr
  lc : Nat
  i : Nat
attribute [local irreducible] WL WC WN Yl WH WQ WT WE WU WG WV
section
variable {bK co cf bk cap mb : Nat} {ao af da : Option Addr} {os fs : List Sl} {d : List (List UInt8)} {F : Nat → Option (List UInt8)}
end
end Go.Proofs.YtbkdjfgkebkknaaGreatDoor
namespace Go.Proofs.YtbkdjfgkebkknaaGreatDoor
set_option linter.unusedVariables false
set_option linter.unusedSimpArgs false
open Go Go.RowKit
set_option maxRecDepth 100000
set_option maxHeartbeats 8000000
def ROut (r : List UInt8 × Nat) : Value → List HA → Prop := NewRow (fun s => .tuple #[s, .int .i64 (r.2 : Int)]) 5 1 r.1.length (bs r.1)
attribute [local irreducible] WL WC WN Yl WH WQ WT WE WU WG
theorem rtear_c (a a2 : Option Addr) (n1 n2 c1 c2 : Nat) (l m : List UInt8) (k : Int) (w : World) (hl : l.length = n1) (hm : m.length = n2) (h1 : n1 ≤ 9223372036854775807) (h2 : n2 ≤ 9223372036854775807) (hc1 : n1 ≤ c1) (hc2 : n2 ≤ c2) (hr : CellsAt w a (bs l)) (hr2 : CellsAt w a2 (bs m)) :
    Calls Tryz.prog 164 #[.slice a n1 c1, .slice a2 n2 c2, .int .i64 k] w (Gives (ROut (tearR l m k)) w) := by
  refine enter (args := [_, _, _]) Tryz.func164 Tryz.ntmps164 rfl rfl ?_
  by_cases e1 : n1 = 128
  · by_cases e2 : n2 = 128
    · by_cases e3 : k < 0
      · rw [tearR, if_neg (by omega)]
        (repeat (first | (refine WL.kG ?_; first | refine WL.want rfl rfl rfl ?_ | refine WL.pass rfl rfl rfl rfl ?_) | refine WL.step (Yl.move rfl) rfl ?_ | refine WL.step (Yl.assign rfl) rfl ?_ | (refine WL.k_pick ?_; first | refine WL.step (Yl.pick_t rfl rfl rfl) rfl ?_ | refine WL.step (Yl.pick_f rfl rfl rfl) rfl ?_) | (refine WL.k_bin .neq ?_; refine WL.step (Yl.neqF rfl rfl (by omega)) rfl ?_) | refine WL.step (Yl.lssT rfl rfl e3) rfl ?_ | refine WL.step (Yl.len (t := 23) Tryz.underlying23 rfl) rfl ?_ | refine WC.seq ?_ | refine WC.region ?_ | refine WL.nil ?_ | refine WN.then_normal ?_))
        refine WC.cond_true rfl rfl ?_
        (repeat (first | refine WL.step (Yl.assign rfl) rfl ?_ | refine WC.seq ?_ | refine WC.region ?_ | refine WL.nil ?_ | refine WN.then_normal ?_ | refine WC.ret ?_ | refine WN.then_ret ?_))
        exact WN.ret2 rfl rfl rfl ⟨none, 0, Nat.le_refl _, rfl, rfl⟩ (.free .nil)
      · by_cases e4 : 128 < k
        · rw [tearR, if_neg (by omega)]
          (repeat (first | refine WL.want rfl rfl rfl ?_ | refine WL.step (Yl.move rfl) rfl ?_ | refine WL.step (Yl.assign rfl) rfl ?_ | refine WL.step (Yl.pick_f rfl rfl rfl) rfl ?_ | (refine WL.k_bin .neq ?_; refine WL.step (Yl.neqF rfl rfl (by omega)) rfl ?_) | refine WL.step (Yl.lssF rfl rfl e3) rfl ?_ | refine WL.step (Yl.gtrT rfl rfl e4) rfl ?_ | refine WL.step (Yl.len (t := 23) Tryz.underlying23 rfl) rfl ?_ | refine WC.seq ?_ | refine WC.region ?_ | refine WL.nil ?_ | refine WN.then_normal ?_))
          refine WC.cond_true rfl rfl ?_
          (repeat (first | refine WL.step (Yl.assign rfl) rfl ?_ | refine WC.seq ?_ | refine WC.region ?_ | refine WL.nil ?_ | refine WN.then_normal ?_ | refine WC.ret ?_ | refine WN.then_ret ?_))
          exact WN.ret2 rfl rfl rfl ⟨none, 0, Nat.le_refl _, rfl, rfl⟩ (.free .nil)
        · subst e1 e2
          obtain ⟨kp, rfl⟩ : ∃ kp : Nat, k = (kp : Int) := ⟨k.toNat, by omega⟩
          have hk : kp ≤ 128 := by omega
          rw [tearR, if_pos ⟨hl, hm, by omega, by omega⟩, Int.toNat_natCast]
          have hcut : CellsAt w (cutA a2 0 c2 1) (bs (m.take kp)) := cutOf32 (cap := c2) 0 kp hr2 (by omega)
          have hcut2 : CellsAt w (cutA a kp c1 1) (bs (l.drop kp)) := by have := cutOf32 (cap := c1) kp 128 hr (by omega); rwa [List.take_of_length_le (by rw [List.length_drop]; omega)] at this
          have hkl : (m.take kp).length = kp := by rw [List.length_take]; omega
          have hkl2 : (l.drop kp).length = 128 - kp := by rw [List.length_drop]; omega
          (repeat (first | refine WL.want rfl rfl rfl ?_ | refine WL.step (Yl.move rfl) rfl ?_ | refine WL.step (Yl.assign rfl) rfl ?_ | refine WL.step (Yl.pick_f rfl rfl rfl) rfl ?_ | refine WL.step (Yl.neqF rfl rfl rfl) rfl ?_ | refine WL.step (Yl.lssF rfl rfl e3) rfl ?_ | refine WL.step (Yl.gtrF rfl rfl e4) rfl ?_ | refine WL.step (Yl.len (t := 23) Tryz.underlying23 rfl) rfl ?_ | refine WC.seq ?_ | refine WC.region ?_ | refine WL.nil ?_ | refine WN.then_normal ?_))
          refine WC.cond_false rfl rfl ?_
          (repeat (first | refine WC.seq ?_ | refine WN.then_normal ?_ | refine WC.skip ?_))
          refine WC.regionH [] (by kernel_rfl) ?_
          (refine WH.order [1, 2, 3, 5, 6, 7] (by repeat (first | exact Part.nil | refine Part.cons zK ?_ | refine Part.free ?_)) (by kernel_rfl) ?_; (repeat (first | (refine WT.k_move rfl ?_; (refine WT.kn rfl ?_; refine WT.take rfl rfl (fun _ _ _ h => h) (Yl.move rfl) rfl (by kernel_rfl) (by kernel_rfl) ?_)) | (refine WT.k_slice rfl ?_; (refine WT.kn rfl ?_; first | refine WT.take rfl rfl (fun _ _ _ h => h) (Yl.cutTo (t := 23) Tryz.underlying23 Tryz.sizeOf5 rfl rfl (by omega)) rfl (by kernel_rfl) (by kernel_rfl) ?_ | refine WT.take rfl rfl (fun _ _ _ h => h) (Yl.cutFrom (t := 23) Tryz.underlying23 Tryz.sizeOf5 rfl rfl (by omega)) rfl (by kernel_rfl) (by kernel_rfl) ?_)))); refine WT.nil ?_)
          refine WH.only (i := 0) (by kernel_rfl) rfl ?_
          refine WL.lit (t := 23) (vs := []) Tryz.underlying23 elemU8 rfl rfl rfl (fun u hu => by cases hu) rfl fun bl => ?_
          refine WL.nil (WN.nextH .nil ?_)
          refine WH.only (i := 4) (by kernel_rfl) rfl ?_
          refine WL.appendRow (t := 23) (n := 0) (m := kp) (olds := []) (news := bs (m.take kp)) Tryz.underlying23 elemU8 rfl rfl zK rfl (Nat.le_refl _) (Rd.old hcut) (by rw [bs_length, hkl, Nat.mul_one]) (bs_one _) (by omega) (by simp only [maxLen]; omega) rfl fun q1 hq1 => ?_
          simp only [Nat.zero_add, List.nil_append] at hq1 ⊢
          refine WL.nil (WN.nextH .nil ?_)
          refine WH.only (i := 8) (by kernel_rfl) rfl ?_
          refine WL.appendRow (t := 23) (n := kp) (m := 128 - kp) (olds := bs (m.take kp)) (news := bs (l.drop kp)) Tryz.underlying23 elemU8 rfl rfl zK (by rw [bs_length, hkl, Nat.mul_one]) hq1 (Rd.old hcut2) (by rw [bs_length, hkl2, Nat.mul_one]) (bs_one _) (by omega) (by simp only [maxLen]; omega) rfl fun q2 hq2 => ?_
          refine WL.nil (WN.nextH .nil ?_)
          (refine WH.order [9, 10] (by repeat (first | exact Part.nil | refine Part.cons zK ?_ | refine Part.free ?_)) (by kernel_rfl) ?_; (repeat (first | (refine WT.k_assign rfl ?_; (refine WT.kn rfl ?_; refine WT.take rfl rfl (fun _ _ _ h => h) (Yl.assign rfl) rfl (by kernel_rfl) (by kernel_rfl) ?_)))); refine WT.nil ?_)
          refine WH.done (by kernel_rfl) ?_
          (repeat (first | refine WN.then_normal ?_ | refine WC.ret ?_))
          have htl : (m.take kp ++ l.drop kp).length = kp + (128 - kp) := by rw [List.length_append, hkl, hkl2]
          exact WN.ret2 rfl rfl rfl ⟨q2.1, q2.2, by show (m.take kp ++ l.drop kp).length ≤ _; omega, by show _ = Value.tuple #[.slice _ (m.take kp ++ l.drop kp).length _, _]; rw [htl]; rfl, by rw [bs_append]⟩ (.cons .here .nil)
    · rw [tearR, if_neg (by omega)]
      (repeat (first | (refine WL.kG ?_; first | refine WL.want rfl rfl rfl ?_ | refine WL.pass rfl rfl rfl rfl ?_) | refine WL.step (Yl.move rfl) rfl ?_ | refine WL.step (Yl.assign rfl) rfl ?_ | (refine WL.k_pick ?_; first | refine WL.step (Yl.pick_t rfl rfl rfl) rfl ?_ | refine WL.step (Yl.pick_f rfl rfl rfl) rfl ?_) | (refine WL.k_bin .neq ?_; first | refine WL.step (Yl.neqF rfl rfl (by omega)) rfl ?_ | refine WL.step (Yl.neqT rfl rfl (by omega)) rfl ?_) | refine WL.step (Yl.len (t := 23) Tryz.underlying23 rfl) rfl ?_ | refine WC.seq ?_ | refine WC.region ?_ | refine WL.nil ?_ | refine WN.then_normal ?_))
      refine WC.cond_true rfl rfl ?_
      (repeat (first | refine WL.step (Yl.assign rfl) rfl ?_ | refine WC.seq ?_ | refine WC.region ?_ | refine WL.nil ?_ | refine WN.then_normal ?_ | refine WC.ret ?_ | refine WN.then_ret ?_))
      exact WN.ret2 rfl rfl rfl ⟨none, 0, Nat.le_refl _, rfl, rfl⟩ (.free .nil)
  · rw [tearR, if_neg (by omega)]
    (repeat (first | refine WL.pass rfl rfl rfl rfl ?_ | refine WL.step (Yl.move rfl) rfl ?_ | refine WL.step (Yl.assign rfl) rfl ?_ | refine WL.step (Yl.pick_t rfl rfl rfl) rfl ?_ | (refine WL.k_bin .neq ?_; refine WL.step (Yl.neqT rfl rfl (by omega)) rfl ?_) | refine WL.step (Yl.len (t := 23) Tryz.underlying23 rfl) rfl ?_ | refine WC.seq ?_ | refine WC.region ?_ | refine WL.nil ?_ | refine WN.then_normal ?_))
    refine WC.cond_true rfl rfl ?_
    (repeat (first | refine WL.step (Yl.assign rfl) rfl ?_ | refine WC.seq ?_ | refine WC.region ?_ | refine WL.nil ?_ | refine WN.then_normal ?_ | refine WC.ret ?_ | refine WN.then_ret ?_))
    exact WN.ret2 rfl rfl rfl ⟨none, 0, Nat.le_refl _, rfl, rfl⟩ (.free .nil)
end Go.Proofs.YtbkdjfgkebkknaaGreatDoor
namespace Go.Proofs.YtbkdjfgkebkknaaGreatDoor
set_option linter.unusedVariables false
set_option linter.unusedSimpArgs false
open Go Go.RowKit
set_option maxRecDepth 100000
set_option maxHeartbeats 8000000
theorem fl178 : flatT Tryz.prog 178 = true := by kernel_rfl
def bls (l : List Bool) : List Value := l.map Value.bool
theorem bls_len (l : List Bool) : (bls l).length = l.length := List.length_map _
theorem bls_at {l : List Bool} {i : Nat} (h : i < l.length) : (bls l)[i]? = some (.bool (l.getD i false)) := by simp [bls, List.getD, h]
structure RbOk (os fs : List Sl) (Is : List Bool) (d : List (List UInt8)) (F : Nat → Option (List UInt8)) : Prop where
  k : KnOk os fs d F
  il : Is.length = d.length
  id : ∀ i, i < d.length → Is.getD i false = (F i).isSome
structure RP where
  br : Nat
  ao : Option Addr
  co : Nat
  ai : Option Addr
  ci : Nat
  af : Option Addr
  cf : Nat
def rbI (p : RP) (os fs : List Sl) (Is : List Bool) : List HA :=
  [.blk p.br (.cells #[.slice p.ao os.length p.co, .slice p.ai Is.length p.ci, .slice p.af fs.length p.cf] 178 (0, 0)), .row p.ao p.co 23 1 (svs os), .row p.ai p.ci 4 1 (bls Is), .row p.af p.cf 23 1 (svs fs)]
structure RbAt (w : World) (p : RP) (os fs : List Sl) (Is : List Bool) (d : List (List UInt8)) (F : Nat → Option (List UInt8)) : Prop where
  ok : RbOk os fs Is d F
  wf : BkWf d F
  blk : w.heap[p.br]? = some (.cells #[.slice p.ao os.length p.co, .slice p.ai Is.length p.ci, .slice p.af fs.length p.cf] 178 (0, 0))
  ro : CellsAt w p.ao (svs os)
  ri : CellsAt w p.ai (bls Is)
  rf : CellsAt w p.af (svs fs)
  rd : ∀ s ∈ os ++ fs, CellsAt w s.a (bs s.l)
theorem RbAt.keep {w w' : World} {p : RP} {os fs : List Sl} {Is : List Bool} {d : List (List UInt8)} {F : Nat → Option (List UInt8)} (h : RbAt w p os fs Is d F) (k : Kept w [] w') : RbAt w' p os fs Is d F :=
  ⟨h.ok, h.wf, (k.block p.br (lt_of_heap h.blk) (by simp)).trans h.blk, h.ro.keep k, h.ri.keep k, h.rf.keep k, fun s hs => (h.rd s hs).keep k⟩
theorem RbAt.of {w0 w : World} {S : List Nat} {A Z : List HA} {p : RP} {os fs : List Sl} {Is : List Bool} {d : List (List UInt8)} {F : Nat → Option (List UInt8)} (ok : RbOk os fs Is d F) (wf : BkWf d F) (hi : ∀ x ∈ rbI p os fs Is, x ∈ A) (hz : ∀ x ∈ Z, x ∈ A) (hin : ∀ s ∈ os ++ fs, InF Z s) (st : St w0 S A w) : RbAt w p os fs Is d F := by
  have m1 : HA.blk p.br (.cells #[.slice p.ao os.length p.co, .slice p.ai Is.length p.ci, .slice p.af fs.length p.cf] 178 (0, 0)) ∈ A := hi _ (by simp only [rbI]; exact .head _)
  have m2 : HA.row p.ao p.co 23 1 (svs os) ∈ A := hi _ (by simp only [rbI]; exact .tail _ (.head _))
  have m3 : HA.row p.ai p.ci 4 1 (bls Is) ∈ A := hi _ (by simp only [rbI]; exact .tail _ (.tail _ (.head _)))
  have m4 : HA.row p.af p.cf 23 1 (svs fs) ∈ A := hi _ (by simp only [rbI]; exact .tail _ (.tail _ (.tail _ (.head _))))
  exact ⟨ok, wf, st.holds _ m1, Rd.row (X := ⟨Tryz.prog, 0, w0, S⟩) m2 w st, Rd.row (X := ⟨Tryz.prog, 0, w0, S⟩) m3 w st, Rd.row (X := ⟨Tryz.prog, 0, w0, S⟩) m4 w st, fun s hs => (hin s hs).rd (X := ⟨Tryz.prog, 0, w0, S⟩) hz w st⟩
attribute [local irreducible] WL WC WN Yl WH WQ WT WE WU WG WV
def LOut (l : List Nat) : Value → List HA → Prop := NewRow id 3 1 l.length (zcells (zs l))
section
variable {p : RP} {os fs : List Sl} {Is : List Bool} {d : List (List UInt8)} {F : Nat → Option (List UInt8)}
theorem rvalid_c (w : World) (h : RbAt w p os fs Is d F) : Calls Tryz.prog 155 #[bptr p.br] w (Gives (Val (.bool true)) w) := by
  have hpos := h.wf.pos
  have hol := h.ok.k.ol
  refine enter (args := [.pointer (some ⟨p.br, 0, none⟩)]) Tryz.func155 Tryz.ntmps155 rfl rfl ?_
  (repeat (first | refine WL.want rfl rfl rfl ?_ | refine WL.step (Yl.move rfl) rfl ?_ | refine WL.step (Yl.assign rfl) rfl ?_ | refine WL.step (Yl.loadH Tryz.isAgg175 rfl (Has.old h.blk) rfl) rfl ?_ | refine WL.step (Yl.fld0 (t := 178) Tryz.underlying178 fl178 rfl rfl) rfl ?_ | refine WL.step (Yl.pick_t rfl rfl rfl) rfl ?_ | (refine WL.k_bin .neq ?_; refine WL.step (Yl.neqPN (by kernel_rfl) rfl) rfl ?_) | refine WL.step (Yl.nilCheck rfl) rfl ?_ | refine WL.step (Yl.len (t := 175) Tryz.underlying175 rfl) rfl ?_ | (refine WL.k_bin .gtr ?_; refine WL.step (Yl.gtrT rfl rfl (by omega)) rfl ?_) | refine WC.seq ?_ | refine WC.region ?_ | refine WL.nil ?_ | refine WN.then_normal ?_ | refine WC.ret ?_))
  exact WN.ret1 rfl rfl ⟨rfl, rfl⟩ .nil
theorem rlen_c (w : World) (h : RbAt w p os fs Is d F) : Calls Tryz.prog 118 #[bptr p.br] w (Gives (Val (.int .i64 (d.length : Int))) w) := by
  rw [← h.ok.k.ol]
  refine enter (args := [.pointer (some ⟨p.br, 0, none⟩)]) Tryz.func118 Tryz.ntmps118 rfl rfl ?_
  (repeat (first | refine WL.step (Yl.move rfl) rfl ?_ | refine WL.step (Yl.assign rfl) rfl ?_ | (refine WL.k_call 155 ?_; refine WL.callV (g := 155) (v := .bool true) Tryz.call155 rfl (fun w s => rvalid_c w (h.keep s.kept)) rfl ?_) | refine WL.step (Yl.not rfl) rfl ?_ | refine WC.seq ?_ | refine WC.region ?_ | refine WL.nil ?_ | refine WN.then_normal ?_))
  refine WC.cond_false rfl rfl ?_
  (repeat (first | refine WL.step (Yl.move rfl) rfl ?_ | refine WL.step (Yl.assign rfl) rfl ?_ | refine WL.step (Yl.loadH Tryz.isAgg175 rfl (Has.old h.blk) rfl) rfl ?_ | refine WL.step (Yl.fld0 (t := 178) Tryz.underlying178 fl178 rfl rfl) rfl ?_ | refine WL.step (Yl.nilCheck rfl) rfl ?_ | refine WL.step (Yl.len (t := 175) Tryz.underlying175 rfl) rfl ?_ | refine WC.seq ?_ | refine WC.region ?_ | refine WL.nil ?_ | refine WN.then_normal ?_ | refine WC.skip ?_ | refine WC.ret ?_))
  exact WN.ret1 rfl rfl ⟨rfl, rfl⟩ .nil
theorem rcheck_c (s : Int) (w : World) (h : RbAt w p os fs Is d F) : Calls Tryz.prog 119 #[bptr p.br, .int .i64 s] w (Gives (Val (.int .i64 (bchk d.length s : Nat))) w) := by
  have hol := h.ok.k.ol
  refine enter (args := [.pointer (some ⟨p.br, 0, none⟩), _]) Tryz.func119 Tryz.ntmps119 rfl rfl ?_
  (repeat (first | refine WL.step (Yl.move rfl) rfl ?_ | refine WL.step (Yl.assign rfl) rfl ?_ | (refine WL.k_call 155 ?_; refine WL.callV (g := 155) (v := .bool true) Tryz.call155 rfl (fun w s => rvalid_c w (h.keep s.kept)) rfl ?_) | refine WL.step (Yl.not rfl) rfl ?_ | refine WC.seq ?_ | refine WC.region ?_ | refine WL.nil ?_ | refine WN.then_normal ?_))
  refine WC.cond_false rfl rfl ?_
  by_cases h1 : s < 0
  · rw [bchk, if_pos (.inl h1)]
    (repeat (first | refine WL.pass rfl rfl rfl rfl ?_ | refine WL.step (Yl.move rfl) rfl ?_ | refine WL.step (Yl.pick_t rfl rfl rfl) rfl ?_ | refine WL.step (Yl.lssT rfl rfl h1) rfl ?_ | refine WC.seq ?_ | refine WC.region ?_ | refine WL.nil ?_ | refine WN.then_normal ?_ | refine WC.skip ?_))
    refine WC.cond_true rfl rfl ?_
    (repeat (first | refine WL.step (Yl.assign rfl) rfl ?_ | refine WC.seq ?_ | refine WC.region ?_ | refine WL.nil ?_ | refine WN.then_normal ?_ | refine WC.ret ?_ | refine WN.then_ret ?_))
    exact WN.ret1 rfl rfl ⟨rfl, rfl⟩ .nil
  · by_cases h2 : (d.length : Int) ≤ s
    · rw [bchk, if_pos (.inr h2)]
      (repeat (first | refine WL.want rfl rfl rfl ?_ | refine WL.step (Yl.move rfl) rfl ?_ | refine WL.step (Yl.loadH Tryz.isAgg175 rfl (Has.old h.blk) rfl) rfl ?_ | refine WL.step (Yl.fld0 (t := 178) Tryz.underlying178 fl178 rfl rfl) rfl ?_ | refine WL.step (Yl.pick_f rfl rfl rfl) rfl ?_ | refine WL.step (Yl.lssF rfl rfl h1) rfl ?_ | refine WL.step (Yl.nilCheck rfl) rfl ?_ | refine WL.step (Yl.len (t := 175) Tryz.underlying175 rfl) rfl ?_ | (refine WL.k_bin .geq ?_; refine WL.step (Yl.geqT rfl rfl (by omega)) rfl ?_) | refine WC.seq ?_ | refine WC.region ?_ | refine WL.nil ?_ | refine WN.then_normal ?_ | refine WC.skip ?_))
      refine WC.cond_true rfl rfl ?_
      (repeat (first | refine WL.step (Yl.assign rfl) rfl ?_ | refine WC.seq ?_ | refine WC.region ?_ | refine WL.nil ?_ | refine WN.then_normal ?_ | refine WC.ret ?_ | refine WN.then_ret ?_))
      exact WN.ret1 rfl rfl ⟨rfl, rfl⟩ .nil
    · rw [bchk, if_neg (by omega)]
      (repeat (first | refine WL.want rfl rfl rfl ?_ | refine WL.step (Yl.move rfl) rfl ?_ | refine WL.step (Yl.loadH Tryz.isAgg175 rfl (Has.old h.blk) rfl) rfl ?_ | refine WL.step (Yl.fld0 (t := 178) Tryz.underlying178 fl178 rfl rfl) rfl ?_ | refine WL.step (Yl.pick_f rfl rfl rfl) rfl ?_ | refine WL.step (Yl.lssF rfl rfl h1) rfl ?_ | refine WL.step (Yl.nilCheck rfl) rfl ?_ | refine WL.step (Yl.len (t := 175) Tryz.underlying175 rfl) rfl ?_ | (refine WL.k_bin .geq ?_; refine WL.step (Yl.geqF rfl rfl (by omega)) rfl ?_) | refine WC.seq ?_ | refine WC.region ?_ | refine WL.nil ?_ | refine WN.then_normal ?_ | refine WC.skip ?_))
      refine WC.cond_false rfl rfl ?_
      (repeat (first | refine WL.step (Yl.assign rfl) rfl ?_ | refine WC.seq ?_ | refine WC.region ?_ | refine WL.nil ?_ | refine WN.then_normal ?_ | refine WC.skip ?_ | refine WC.ret ?_))
      exact WN.ret1 rfl rfl ⟨rfl, rfl⟩ .nil
end
end Go.Proofs.YtbkdjfgkebkknaaGreatDoor
namespace Go.Proofs.YtbkdjfgkebkknaaGreatDoor
set_option linter.unusedVariables false
set_option linter.unusedSimpArgs false
open Go Go.RowKit
set_option maxRecDepth 100000
set_option maxHeartbeats 8000000
attribute [local irreducible] WL WC WN Yl WH WQ WT WE WU WG WV
section
variable {p : RP} {os fs : List Sl} {Is : List Bool} {d : List (List UInt8)} {F : Nat → Option (List UInt8)}
theorem rread_c (s : Int) (w : World) (h : RbAt w p os fs Is d F) : Calls Tryz.prog 79 #[bptr p.br, .int .i64 s] w (Gives (ROut (readR d F s)) w) := by
  have hol := h.ok.k.ol
  have hfl := h.ok.k.fl
  have hil := h.ok.il
  refine enter (args := [.pointer (some ⟨p.br, 0, none⟩), _]) Tryz.func79 Tryz.ntmps79 rfl rfl ?_
  rcases bchk_cases d.length s with ⟨hc, _⟩ | ⟨hc, k, rfl, hk⟩
  · rw [readR, if_neg (by rw [hc]; decide)]
    (repeat (first | refine WL.step (Yl.move rfl) rfl ?_ | refine WL.step (Yl.assign rfl) rfl ?_ | (refine WL.k_call 119 ?_; refine WL.callV (g := 119) (v := .int .i64 3) Tryz.call119 rfl (fun w st => by have := rcheck_c s w (h.keep st.kept); rw [hc] at this; exact this) rfl ?_) | (refine WL.k_bin .neq ?_; refine WL.step (Yl.neqT rfl rfl (by decide)) rfl ?_) | refine WC.seq ?_ | refine WC.region ?_ | refine WL.nil ?_ | refine WN.then_normal ?_))
    refine WC.cond_true rfl rfl ?_
    (repeat (first | refine WL.step (Yl.move rfl) rfl ?_ | refine WL.step (Yl.assign rfl) rfl ?_ | refine WC.seq ?_ | refine WC.region ?_ | refine WL.nil ?_ | refine WN.then_normal ?_ | refine WC.ret ?_ | refine WN.then_ret ?_))
    exact WN.ret2 rfl rfl rfl ⟨none, 0, Nat.le_refl _, rfl, rfl⟩ (.free .nil)
  · rw [readR, if_pos hc, Int.toNat_natCast]
    have hoi := svs_at (L := os) (i := k) (by omega)
    have hfi := svs_at (L := fs) (i := k) (by omega)
    have hii := bls_at (l := Is) (i := k) (by omega)
    have hmf : fs.getD k Sl.nil ∈ os ++ fs := List.mem_append_right _ (sl_mem (by omega))
    have hmo : os.getD k Sl.nil ∈ os ++ fs := List.mem_append_left _ (sl_mem (by omega))
    have hid := h.ok.id k hk
    have hod := h.ok.k.od k hk
    have hfd := h.ok.k.fd k hk
    have hrf := h.rd _ hmf
    have hro := h.rd _ hmo
    have hd128 : (d.getD k []).length = 128 := by
      have h9 : d[k]? = some (d.getD k []) := by simp [List.getD, hk]
      exact h.wf.len _ (List.mem_of_getElem? h9)
    generalize fs.getD k Sl.nil = xf at *
    generalize os.getD k Sl.nil = xo at *
    obtain ⟨fa, fc, fl⟩ := xf
    obtain ⟨oa, oc, ol⟩ := xo
    simp only at hod hrf hro
    subst hod
    simp only [Sl.v] at hfi hoi
    rw [hd128] at hoi
    rw [hid] at hii
    rcases hfd with ⟨e1, e2⟩ | e1
    · rw [e1] at hii ⊢
      (repeat (first | refine WL.step (Yl.move rfl) rfl ?_ | refine WL.step (Yl.assign rfl) rfl ?_ | (refine WL.k_call 119 ?_; refine WL.callV (g := 119) (v := .int .i64 0) Tryz.call119 rfl (fun w st => by have := rcheck_c (k : Int) w (h.keep st.kept); rw [hc] at this; exact this) rfl ?_) | refine WL.step (Yl.neqF rfl rfl rfl) rfl ?_ | refine WC.seq ?_ | refine WC.region ?_ | refine WL.nil ?_ | refine WN.then_normal ?_))
      refine WC.cond_false rfl rfl ?_
      (repeat (first | refine WL.step (Yl.move rfl) rfl ?_ | (refine WL.k_load ?_; first | refine WL.step (Yl.loadH Tryz.isAgg175 rfl (Has.old h.blk) rfl) rfl ?_ | refine WL.step (Yl.load (T := 4) (a := p.ai) (i := k) Tryz.isAgg4 rfl (Rd.old h.ri) hii) rfl ?_) | refine WL.step (Yl.fld0 (t := 178) Tryz.underlying178 fl178 rfl rfl) rfl ?_ | refine WL.step (Yl.nilCheck rfl) rfl ?_ | (refine WL.k_idxa ?_; refine WL.step (Yl.indexAddr1 (t := 176) (a := p.ai) (j := k) (n := Is.length) Tryz.underlying176 Tryz.sizeOf4 rfl rfl (Rd.old h.ri) (ne_nil_of hii) (by omega)) rfl ?_) | refine WC.seq ?_ | refine WC.region ?_ | refine WL.nil ?_ | refine WN.then_normal ?_ | refine WC.skip ?_))
      refine WC.cond_false rfl rfl ?_
      (repeat (first | refine WC.seq ?_ | refine WC.region ?_ | refine WN.then_normal ?_ | refine WC.skip ?_))
      refine WL.lit (t := 23) (vs := []) Tryz.underlying23 elemU8 rfl rfl rfl (fun u hu => by cases hu) rfl fun bl => ?_
      (repeat (first | refine WL.step (Yl.move rfl) rfl ?_ | (refine WL.k_load ?_; first | refine WL.step (Yl.loadH Tryz.isAgg175 rfl (Has.old h.blk) rfl) rfl ?_ | refine WL.step (Yl.load (T := 23) (a := p.ao) (i := k) Tryz.isAgg23 rfl (Rd.old h.ro) hoi) rfl ?_) | refine WL.step (Yl.fld0 (t := 178) Tryz.underlying178 fl178 rfl rfl) rfl ?_ | refine WL.step (Yl.nilCheck rfl) rfl ?_ | (refine WL.k_idxa ?_; refine WL.step (Yl.indexAddr1 (t := 175) (a := p.ao) (j := k) (n := os.length) Tryz.underlying175 Tryz.sizeOf23 rfl rfl (Rd.old h.ro) (ne_nil_of hoi) (by omega)) rfl ?_)))
      refine WL.appendRow (t := 23) (n := 0) (m := 128) (olds := []) (news := bs (d.getD k [])) Tryz.underlying23 elemU8 rfl rfl zK rfl (Nat.le_refl _) (Rd.old hro) (by rw [bs_length, hd128]) (bs_one _) (by omega) (by simp only [maxLen]; omega) rfl fun q hq => ?_
      simp only [Nat.zero_add, List.nil_append] at hq ⊢
      (repeat (first | refine WL.step (Yl.assign rfl) rfl ?_ | refine WL.nil ?_ | refine WN.then_normal ?_ | refine WC.ret ?_))
      exact WN.ret2 rfl rfl rfl ⟨q.1, q.2, by simp only [Option.getD_none, Option.getD_some, hd128]; exact hq, by simp only [Option.getD_none, Option.getD_some, hd128]; rfl, by simp only [Option.getD_none, Option.getD_some]⟩ (.cons .here .nil)
    · rw [e1] at hii ⊢
      have hful : fl.length = 128 := h.wf.val k _ e1
      rw [hful] at hfi
      (repeat (first | refine WL.step (Yl.move rfl) rfl ?_ | refine WL.step (Yl.assign rfl) rfl ?_ | (refine WL.k_call 119 ?_; refine WL.callV (g := 119) (v := .int .i64 0) Tryz.call119 rfl (fun w st => by have := rcheck_c (k : Int) w (h.keep st.kept); rw [hc] at this; exact this) rfl ?_) | refine WL.step (Yl.neqF rfl rfl rfl) rfl ?_ | refine WC.seq ?_ | refine WC.region ?_ | refine WL.nil ?_ | refine WN.then_normal ?_))
      refine WC.cond_false rfl rfl ?_
      (repeat (first | refine WL.step (Yl.move rfl) rfl ?_ | (refine WL.k_load ?_; first | refine WL.step (Yl.loadH Tryz.isAgg175 rfl (Has.old h.blk) rfl) rfl ?_ | refine WL.step (Yl.load (T := 4) (a := p.ai) (i := k) Tryz.isAgg4 rfl (Rd.old h.ri) hii) rfl ?_) | refine WL.step (Yl.fld0 (t := 178) Tryz.underlying178 fl178 rfl rfl) rfl ?_ | refine WL.step (Yl.nilCheck rfl) rfl ?_ | (refine WL.k_idxa ?_; refine WL.step (Yl.indexAddr1 (t := 176) (a := p.ai) (j := k) (n := Is.length) Tryz.underlying176 Tryz.sizeOf4 rfl rfl (Rd.old h.ri) (ne_nil_of hii) (by omega)) rfl ?_) | refine WC.seq ?_ | refine WC.region ?_ | refine WL.nil ?_ | refine WN.then_normal ?_ | refine WC.skip ?_))
      refine WC.cond_true rfl rfl ?_
      (repeat (first | refine WC.seq ?_ | refine WC.region ?_))
      refine WL.lit (t := 23) (vs := []) Tryz.underlying23 elemU8 rfl rfl rfl (fun u hu => by cases hu) rfl fun bl => ?_
      (repeat (first | refine WL.step (Yl.move rfl) rfl ?_ | (refine WL.k_load ?_; first | refine WL.step (Yl.loadH Tryz.isAgg175 rfl (Has.old h.blk) rfl) rfl ?_ | refine WL.step (Yl.load (T := 23) (a := p.af) (i := k) Tryz.isAgg23 rfl (Rd.old h.rf) hfi) rfl ?_) | refine WL.step (Yl.fld0 (t := 178) Tryz.underlying178 fl178 rfl rfl) rfl ?_ | refine WL.step (Yl.nilCheck rfl) rfl ?_ | (refine WL.k_idxa ?_; refine WL.step (Yl.indexAddr1 (t := 175) (a := p.af) (j := k) (n := fs.length) Tryz.underlying175 Tryz.sizeOf23 rfl rfl (Rd.old h.rf) (ne_nil_of hfi) (by omega)) rfl ?_)))
      refine WL.appendRow (t := 23) (n := 0) (m := 128) (olds := []) (news := bs fl) Tryz.underlying23 elemU8 rfl rfl zK rfl (Nat.le_refl _) (Rd.old hrf) (by rw [bs_length, hful]) (bs_one _) (by omega) (by simp only [maxLen]; omega) rfl fun q hq => ?_
      simp only [Nat.zero_add, List.nil_append] at hq ⊢
      (repeat (first | refine WL.step (Yl.assign rfl) rfl ?_ | refine WL.nil ?_ | refine WN.then_normal ?_ | refine WC.ret ?_ | refine WN.then_ret ?_))
      exact WN.ret2 rfl rfl rfl ⟨q.1, q.2, by simp only [Option.getD_none, Option.getD_some, hful]; exact hq, by simp only [Option.getD_none, Option.getD_some, hful]; rfl, by simp only [Option.getD_none, Option.getD_some]⟩ (.cons .here .nil)
theorem rdirty_c (w : World) (h : RbAt w p os fs Is d F) : Calls Tryz.prog 163 #[bptr p.br] w (Gives (LOut (dirtyOf d.length F)) w) := by
  have hil := h.ok.il
  have hle := h.wf.le
  refine enter (args := [.pointer (some ⟨p.br, 0, none⟩)]) Tryz.func163 Tryz.ntmps163 rfl rfl ?_
  (repeat (first | refine WL.step (Yl.assign rfl) rfl ?_ | refine WC.seq ?_ | refine WC.region ?_ | refine WL.nil ?_ | refine WN.then_normal ?_ | refine WC.block ?_))
  refine WC.loop (α := AS) (fun s => [(0, .pointer (some ⟨p.br, 0, none⟩)), (3, .slice s.la (dpre F s.i).length s.lc), (4, .int .i64 (s.i : Int))]) (fun s => [.row s.la s.lc 3 1 (zcells (zs (dpre F s.i)))])
    (fun s => s.i ≤ d.length ∧ (dpre F s.i).length ≤ s.lc) (fun s => d.length - s.i) ⟨none, 0, 0⟩ zS (.free .nil) ⟨Nat.zero_le _, Nat.le_refl _⟩ ?_
  rintro ⟨la, lc, i⟩ ⟨hi, hc⟩
  simp only at hi hc ⊢
  have hdl := dpre_le F i
  by_cases h1 : i < d.length
  · have hii := bls_at (l := Is) (i := i) (by omega)
    rw [h.ok.id i h1] at hii
    (repeat (first | refine WL.want rfl rfl rfl ?_ | refine WL.step (Yl.move rfl) rfl ?_ | refine WL.step (Yl.loadH Tryz.isAgg175 rfl (Has.old h.blk) rfl) rfl ?_ | refine WL.step (Yl.fld0 (t := 178) Tryz.underlying178 fl178 rfl rfl) rfl ?_ | refine WL.step (Yl.pick_t rfl rfl rfl) rfl ?_ | (refine WL.k_call 155 ?_; refine WL.callV (g := 155) (v := .bool true) Tryz.call155 rfl (fun w s => rvalid_c w (h.keep s.kept)) rfl ?_) | refine WL.step (Yl.nilCheck rfl) rfl ?_ | refine WL.step (Yl.len (t := 176) Tryz.underlying176 rfl) rfl ?_ | (refine WL.k_bin .lss ?_; refine WL.step (Yl.lssT rfl rfl (by omega)) rfl ?_) | refine WC.seq ?_ | refine WC.region ?_ | refine WL.nil ?_ | refine WN.then_normal ?_))
    refine WC.cond_true rfl rfl ?_
    cases e : F i with
    | none =>
      rw [e] at hii
      have hn := dpre_none e
      (repeat (first | refine WL.step (Yl.move rfl) rfl ?_ | (refine WL.k_load ?_; first | refine WL.step (Yl.loadH Tryz.isAgg175 rfl (Has.old h.blk) rfl) rfl ?_ | refine WL.step (Yl.load (T := 4) (a := p.ai) (i := i) Tryz.isAgg4 rfl (Rd.old h.ri) hii) rfl ?_) | refine WL.step (Yl.fld0 (t := 178) Tryz.underlying178 fl178 rfl rfl) rfl ?_ | refine WL.step (Yl.nilCheck rfl) rfl ?_ | (refine WL.k_idxa ?_; refine WL.step (Yl.indexAddr1 (t := 176) (a := p.ai) (j := i) (n := Is.length) Tryz.underlying176 Tryz.sizeOf4 rfl rfl (Rd.old h.ri) (ne_nil_of hii) (by omega)) rfl ?_) | refine WC.seq ?_ | refine WC.region ?_ | refine WL.nil ?_ | refine WN.then_normal ?_ | refine WC.block ?_ | refine WC.skip ?_))
      refine WC.cond_false rfl rfl ?_
      (repeat (first | refine WL.step (Yl.move rfl) rfl ?_ | refine WL.step (Yl.assign rfl) rfl ?_ | (refine WL.k_bin .add ?_; refine WL.step (Yl.add64C rfl (by omega)) rfl ?_) | refine WC.region ?_ | refine WL.nil ?_ | refine WN.then_normal ?_ | refine WC.skip ?_ | refine WN.block_normal ?_))
      exact WN.next ⟨la, lc, i + 1⟩ ⟨by simp only; omega, by simp only [hn]; exact hc⟩ (by simp only; omega) (by simp only [hn]; exact zS) (by simp only [hn]; exact (by repeat (first | exact Part.nil | refine Part.cons zK ?_ | refine Part.free ?_)))
    | some u =>
      rw [e] at hii
      have hn := dpre_some e
      have hnl : (dpre F (i + 1)).length = (dpre F i).length + 1 := by rw [hn, List.length_append]; rfl
      (repeat (first | refine WL.step (Yl.move rfl) rfl ?_ | (refine WL.k_load ?_; first | refine WL.step (Yl.loadH Tryz.isAgg175 rfl (Has.old h.blk) rfl) rfl ?_ | refine WL.step (Yl.load (T := 4) (a := p.ai) (i := i) Tryz.isAgg4 rfl (Rd.old h.ri) hii) rfl ?_) | refine WL.step (Yl.fld0 (t := 178) Tryz.underlying178 fl178 rfl rfl) rfl ?_ | refine WL.step (Yl.nilCheck rfl) rfl ?_ | (refine WL.k_idxa ?_; refine WL.step (Yl.indexAddr1 (t := 176) (a := p.ai) (j := i) (n := Is.length) Tryz.underlying176 Tryz.sizeOf4 rfl rfl (Rd.old h.ri) (ne_nil_of hii) (by omega)) rfl ?_) | refine WC.seq ?_ | refine WC.region ?_ | refine WL.nil ?_ | refine WN.then_normal ?_ | refine WC.block ?_ | refine WC.skip ?_))
      refine WC.cond_true rfl rfl ?_
      (repeat (first | refine WL.step (Yl.move rfl) rfl ?_ | refine WC.region ?_))
      refine WL.lit (t := 61) (vs := [.int .i64 (i : Int)]) Tryz.underlying61 elemZ rfl rfl rfl (fun u hu => by simp at hu; subst hu; rfl) rfl fun b7 => ?_
      rw [show flat [.int .i64 (i : Int)] = zcells [(i : Int)] from rfl]
      refine WL.appendRow (n := (dpre F i).length) (m := 1) (olds := zcells (zs (dpre F i))) (news := zcells [(i : Int)]) Tryz.underlying61 elemZ rfl rfl zK (by rw [zcells_len, zs_len, Nat.mul_one]) hc (Rd.row (.head _)) rfl (fun u hu => by obtain ⟨_, _, rfl⟩ := List.mem_map.1 hu; rfl) (by omega) (by simp only [maxLen]; omega) rfl fun q hq => ?_
      rw [zs_snoc, ← hn]
      (repeat (first | refine WL.step (Yl.move rfl) rfl ?_ | refine WL.step (Yl.assign rfl) rfl ?_ | (refine WL.k_bin .add ?_; refine WL.step (Yl.add64C rfl (by omega)) rfl ?_) | refine WC.region ?_ | refine WL.nil ?_ | refine WN.then_normal ?_ | refine WN.block_normal ?_))
      exact WN.next ⟨q.1, q.2, i + 1⟩ ⟨by simp only; omega, by simp only [hnl]; exact hq⟩ (by simp only; omega) (by simp only [hnl]; exact zS) (by repeat (first | exact Part.nil | refine Part.cons zK ?_ | refine Part.free ?_))
  · have hid : i = d.length := by omega
    subst hid
    rw [dpre_all] at *
    (repeat (first | refine WL.want rfl rfl rfl ?_ | refine WL.step (Yl.move rfl) rfl ?_ | refine WL.step (Yl.loadH Tryz.isAgg175 rfl (Has.old h.blk) rfl) rfl ?_ | refine WL.step (Yl.fld0 (t := 178) Tryz.underlying178 fl178 rfl rfl) rfl ?_ | refine WL.step (Yl.pick_t rfl rfl rfl) rfl ?_ | (refine WL.k_call 155 ?_; refine WL.callV (g := 155) (v := .bool true) Tryz.call155 rfl (fun w s => rvalid_c w (h.keep s.kept)) rfl ?_) | refine WL.step (Yl.nilCheck rfl) rfl ?_ | refine WL.step (Yl.len (t := 176) Tryz.underlying176 rfl) rfl ?_ | (refine WL.k_bin .lss ?_; refine WL.step (Yl.lssF rfl rfl (by omega)) rfl ?_) | refine WC.seq ?_ | refine WC.region ?_ | refine WL.nil ?_ | refine WN.then_normal ?_))
    refine WC.cond_false rfl rfl ?_
    (repeat (first | refine WL.step (Yl.move rfl) rfl ?_ | refine WL.step (Yl.assign rfl) rfl ?_ | refine WC.seq ?_ | refine WC.region ?_ | refine WL.nil ?_ | refine WN.then_normal ?_ | refine WC.exit ?_ | refine WC.ret ?_ | refine WN.then_exit ?_ | refine WN.block_here ?_))
    exact WN.ret1 rfl rfl ⟨la, lc, hc, rfl, rfl⟩ (.cons .here .nil)
end
end Go.Proofs.YtbkdjfgkebkknaaGreatDoor
namespace Go.Proofs.YtbkdjfgkebkknaaGreatDoor
set_option linter.unusedVariables false
set_option linter.unusedSimpArgs false
open Go Go.RowKit
set_option maxRecDepth 100000
set_option maxHeartbeats 8000000
attribute [local irreducible] WL WC WN Yl WH WQ WT WE WU WG WV
section
variable {p : RP} {os fs : List Sl} {Is : List Bool} {d : List (List UInt8)} {F : Nat → Option (List UInt8)} {bk cap mb : Nat} {da : Option Addr}
end
end Go.Proofs.YtbkdjfgkebkknaaGreatDoor
namespace Go.Proofs.YtbkdjfgkebkknaaGreatDoor
set_option linter.unusedVariables false
set_option linter.unusedSimpArgs false
open Go Go.RowKit
set_option maxRecDepth 100000
set_option maxHeartbeats 8000000
def doT (t : Turn) (s : BSt) : BSt :=
  if t.k.toNat % 8 < 5 then (s.1, setF s.2 (t.s.toNat % s.1.length) (some (t.m :: List.replicate 127 t.n)))
  else if t.k.toNat % 8 = 5 then (crashR [128] s.1 s.2).1
  else (crashR [((min t.n.toNat 128 : Nat) : Int), ((min t.m.toNat 128 : Nat) : Int)] s.1 s.2).1
attribute [local irreducible] WL WC WN Yl WH WQ WT WE WU WG WV
section
variable {os fs : List Sl} {d : List (List UInt8)} {F : Nat → Option (List UInt8)} {S : List Nat}
end
end Go.Proofs.YtbkdjfgkebkknaaGreatDoor
namespace Go.Proofs.YtbkdjfgkebkknaaGreatDoor
set_option linter.unusedVariables false
set_option linter.unusedSimpArgs false
open Go Go.RowKit
set_option maxRecDepth 100000
set_option maxHeartbeats 8000000
theorem RbAt.out {w0 w : World} {S : List Nat} {A : List HA} {p : RP} {os fs : List Sl} {Is : List Bool} {d : List (List UInt8)} {F : Nat → Option (List UInt8)} (ok : RbOk os fs Is d F) (wf : BkWf d F) (hi : ∀ x ∈ rbI p os fs Is, x ∈ A) (hO : ∀ s ∈ os ++ fs, OutF w0 S s) (st : St w0 S A w) : RbAt w p os fs Is d F := by
  have m1 : HA.blk p.br (.cells #[.slice p.ao os.length p.co, .slice p.ai Is.length p.ci, .slice p.af fs.length p.cf] 178 (0, 0)) ∈ A := hi _ (by simp only [rbI]; exact .head _)
  have m2 : HA.row p.ao p.co 23 1 (svs os) ∈ A := hi _ (by simp only [rbI]; exact .tail _ (.head _))
  have m3 : HA.row p.ai p.ci 4 1 (bls Is) ∈ A := hi _ (by simp only [rbI]; exact .tail _ (.tail _ (.head _)))
  have m4 : HA.row p.af p.cf 23 1 (svs fs) ∈ A := hi _ (by simp only [rbI]; exact .tail _ (.tail _ (.tail _ (.head _))))
  exact ⟨ok, wf, st.holds _ m1, Rd.row (X := ⟨Tryz.prog, 0, w0, S⟩) m2 w st, Rd.row (X := ⟨Tryz.prog, 0, w0, S⟩) m3 w st, Rd.row (X := ⟨Tryz.prog, 0, w0, S⟩) m4 w st, fun s hs => Rd.out (P := Tryz.prog) (n := 0) (hO s hs).2 w st⟩
def RbV (p : RP) (os fs : List Sl) (d : List (List UInt8)) (F : Nat → Option (List UInt8)) (e : Nat) : Value → List HA → Prop := fun u B =>
  u = .int .i64 (e : Int) ∧ ∃ os' fs' Is' Z, B = rbI p os' fs' Is' ++ Z ∧ RbOk os' fs' Is' d F ∧ ∀ x ∈ os' ++ fs', x ∈ os ++ fs ∨ InF Z x
theorem bls_set (l : List Bool) (i : Nat) (b : Bool) : (bls l).set i (.bool b) = bls (l.set i b) := by simp [bls, List.map_set]
theorem bl_set_same {l : List Bool} {i : Nat} (h : i < l.length) (b : Bool) : (l.set i b).getD i false = b := by simp [List.getD, h]
theorem bl_set_ne {l : List Bool} {i j : Nat} (h : i ≠ j) (b : Bool) : (l.set i b).getD j false = l.getD j false := by simp [List.getD, List.getElem?_set_ne h]
theorem RbOk.write {os fs : List Sl} {Is : List Bool} {d : List (List UInt8)} {F : Nat → Option (List UInt8)} (h : RbOk os fs Is d F) {i : Nat} (t : Sl) : RbOk os (fs.set i t) (Is.set i true) d (setF F i (some t.l)) := by
  refine ⟨h.k.write t, by rw [List.length_set, h.il], fun j hj => ?_⟩
  by_cases e : i = j
  · subst e
    rw [bl_set_same (by rw [h.il]; exact hj)]; simp [setF]
  · rw [bl_set_ne e, h.id j hj, show setF F i (some t.l) j = F j by simp [setF, Ne.symm e]]
attribute [local irreducible] WL WC WN Yl WH WQ WT WE WU WG WV
section
variable {p : RP} {os fs : List Sl} {Is : List Bool} {d : List (List UInt8)} {F : Nat → Option (List UInt8)} {S : List Nat}
end
end Go.Proofs.YtbkdjfgkebkknaaGreatDoor
namespace Go.Proofs.YtbkdjfgkebkknaaGreatDoor
set_option linter.unusedVariables false
set_option linter.unusedSimpArgs false
open Go Go.RowKit
set_option maxRecDepth 100000
set_option maxHeartbeats 8000000
theorem buildRb (w : World) : (Instr.build 178 [].toArray).run Tryz.prog w = .ok (.agg #[.slice none 0 0, .slice none 0 0, .slice none 0 0]) w := by
  simp [Instr.build, Tryz.zeroValue178, run_underlying Tryz.underlying178, Instr.fill, Value.cells]
theorem elemB : ElemT Tryz.prog 4 (.bool false) 1 1 := ElemT.of (by kernel_rfl) rfl (by decide)
theorem bls_one (l : List Bool) : ∀ u ∈ bls l, u.oneCell' = true := fun u h => by obtain ⟨s, _, rfl⟩ := List.mem_map.1 h; rfl
structure RS where
  ao : Option Addr
  co : Nat
  ai : Option Addr
  ci : Nat
  af : Option Addr
  cf : Nat
  os : List Sl
  fs : List Sl
  Is : List Bool
  Z : List HA
def RNewV (n : Nat) : Value → List HA → Prop := fun u B => ∃ p os fs Is Z, u = .tuple #[bptr p.br, .int .i64 0] ∧ B = rbI p os fs Is ++ Z ∧ RbOk os fs Is (List.replicate n zblk) (fun _ => none) ∧ ∀ s ∈ os ++ fs, InF Z s
attribute [local irreducible] WL WC WN Yl WH WQ WT WE WU WG WV
theorem rnew_c (n : Nat) (w : World) (h1 : 1 ≤ n) (h2 : n ≤ 4096) : Calls Tryz.prog 70 #[.int .i64 (n : Int)] w (Gives (RNewV n) w) := by
  refine enter (args := [_]) Tryz.func70 Tryz.ntmps70 rfl rfl ?_
  (repeat (first | refine WL.want rfl rfl rfl ?_ | refine WL.step (Yl.move rfl) rfl ?_ | refine WL.step (Yl.assign rfl) rfl ?_ | refine WL.step (Yl.pick_f rfl rfl rfl) rfl ?_ | (refine WL.k_bin .lss ?_; refine WL.step (Yl.lssF rfl rfl (by omega)) rfl ?_) | (refine WL.k_bin .gtr ?_; refine WL.step (Yl.gtrF rfl rfl (by omega)) rfl ?_) | refine WC.seq ?_ | refine WC.region ?_ | refine WL.nil ?_ | refine WN.then_normal ?_))
  refine WC.cond_false rfl rfl ?_
  (repeat (first | refine WL.step (Yl.build (ps := []) (vs := []) rfl (fun w => buildRb w)) rfl ?_ | refine WC.seq ?_ | refine WC.region ?_ | refine WN.then_normal ?_ | refine WC.skip ?_))
  refine WL.boxA rfl rfl fun br => ?_
  (repeat (first | refine WL.step (Yl.assign rfl) rfl ?_ | refine WC.seq ?_ | refine WC.region ?_ | refine WL.nil ?_ | refine WN.then_normal ?_ | refine WC.block ?_))
  refine WC.loop (α := RS) (fun s => [(0, .int .i64 (n : Int)), (4, .pointer (some ⟨br, 0, none⟩)), (5, .int .i64 (s.os.length : Int))]) (fun s => rbI ⟨br, s.ao, s.co, s.ai, s.ci, s.af, s.cf⟩ s.os s.fs s.Is ++ s.Z)
    (fun s => s.os.length ≤ n ∧ s.os.length = s.fs.length ∧ s.os.length = s.Is.length ∧ s.os.length ≤ s.co ∧ s.fs.length ≤ s.cf ∧ s.Is.length ≤ s.ci ∧ (∀ x ∈ s.os, x.l = zblk ∧ InF s.Z x) ∧ (∀ x ∈ s.fs, x = Sl.nil) ∧ (∀ x ∈ s.Is, x = false)) (fun s => n - s.os.length) ⟨none, 0, none, 0, none, 0, [], [], [], []⟩ zS ?_ ⟨by simp, rfl, rfl, Nat.le_refl _, Nat.le_refl _, Nat.le_refl _, fun x hx => (by cases hx), fun x hx => (by cases hx), fun x hx => (by cases hx)⟩ ?_
  · simp only [rbI, List.cons_append, List.nil_append, svs, bls, List.map_nil, List.length_nil]
    exact .cons zK (.free (.free (.free .nil)))
  rintro ⟨ao, co, ai, ci, af, cf, os, fs, Is, Z⟩ ⟨h3, h4, h5, h6, h7, h8, h9, h10, h11⟩
  simp only at h3 h4 h5 h6 h7 h8 h9 h10 h11 ⊢
  simp only [rbI, List.cons_append, List.nil_append]
  generalize hi : os.length = i at *
  (repeat (first | refine WL.step (Yl.move rfl) rfl ?_ | refine WL.step (Yl.lss rfl rfl) rfl ?_ | refine WC.seq ?_ | refine WC.region ?_ | refine WL.nil ?_ | refine WN.then_normal ?_))
  refine WC.ite rfl (fun g1 => ?_) (fun g1 => ?_)
  · (repeat (first | refine WC.seq ?_ | refine WN.then_normal ?_ | refine WC.block ?_ | refine WC.skip ?_))
    refine WC.regionE [.blk br (.cells #[.slice ao i co, .slice ai Is.length ci, .slice af fs.length cf] 178 (0, 0))] 10 (by kernel_rfl) ?_
    (refine WE.order [0, 1, 2, 3, 4] (by repeat (first | exact Part.nil | refine Part.cons zK ?_ | refine Part.free ?_)) (by kernel_rfl) ?_; (repeat (first | (refine WU.k_move rfl ?_; (refine WU.kn rfl ?_; refine WU.take rfl rfl (fun _ _ _ h => h) (Yl.move rfl) rfl (by kernel_rfl) (by kernel_rfl) (by kernel_rfl) ?_)) | (refine WU.k_load rfl ?_; (refine WU.kn rfl ?_; refine WU.take rfl rfl (fun _ _ _ h => h) (Yl.loadBlk (T := 175) Tryz.isAgg175 rfl zH (by rfl)) rfl (by kernel_rfl) (by kernel_rfl) (by kernel_rfl) ?_)) | (refine WU.k_fld rfl ?_; (refine WU.kn rfl ?_; refine WU.take rfl rfl (fun _ _ _ h => h) (Yl.fld0 (t := 178) Tryz.underlying178 fl178 rfl rfl) rfl (by kernel_rfl) (by kernel_rfl) (by kernel_rfl) ?_)) | (refine WU.k_nilc rfl ?_; (refine WU.kn rfl ?_; refine WU.take rfl rfl (fun _ _ _ h => h) (Yl.nilCheck rfl) rfl (by kernel_rfl) (by kernel_rfl) (by kernel_rfl) ?_)))); refine WU.nil ?_)
    refine WE.only (i := 5) (by kernel_rfl) rfl fun sh => ?_
    refine WL.make (t := 23) Tryz.underlying23 elemU8 rfl rfl rfl (Nat.le_refl _) (by decide) (by decide) rfl fun b5 => ?_
    rw [show List.replicate 128 (Value.int .u8 0) = bs zblk from rfl]
    refine WL.nil (WN.nextE sh (by repeat (first | exact Part.nil | refine Part.cons zK ?_ | refine Part.free ?_)) ?_)
    refine WE.only (i := 6) (by kernel_rfl) rfl fun sh => ?_
    refine WL.lit (t := 175) (vs := [.slice (some ⟨b5, 0, none⟩) 128 128]) Tryz.underlying175 elemSl rfl rfl rfl (fun u hu => by simp at hu; subst hu; rfl) rfl fun b6 => ?_
    rw [show flat [.slice (some ⟨b5, 0, none⟩) 128 128] = svs [⟨some ⟨b5, 0, none⟩, 128, zblk⟩] from rfl]
    refine WL.nil (WN.nextE sh (by repeat (first | exact Part.nil | refine Part.cons zK ?_ | refine Part.free ?_)) ?_)
    refine WE.only (i := 7) (by kernel_rfl) rfl fun sh => ?_
    refine WL.appendRow (t := 175) (n := i) (m := 1) (olds := svs os) (news := svs [⟨some ⟨b5, 0, none⟩, 128, zblk⟩]) Tryz.underlying175 elemSl rfl rfl zK (by rw [svs_len, hi, Nat.mul_one]) h6 (Rd.row zH) rfl (svs_one _) (by omega) (by simp only [maxLen]; omega) rfl fun q1 hq1 => ?_
    refine WL.nil (WN.nextE sh (by repeat (first | exact Part.nil | refine Part.cons zK ?_ | refine Part.free ?_)) ?_)
    (refine WE.order [8, 9] (by repeat (first | exact Part.nil | refine Part.cons zK ?_ | refine Part.free ?_)) (by kernel_rfl) ?_; (repeat (first | (refine WU.k_fld rfl ?_; (refine WU.kn rfl ?_; refine WU.take rfl rfl (fun _ _ _ h => h) (Yl.fld0 (t := 178) Tryz.underlying178 fl178 rfl rfl) rfl (by kernel_rfl) (by kernel_rfl) (by kernel_rfl) ?_)) | (refine WU.k_nilc rfl ?_; (refine WU.kn rfl ?_; refine WU.take rfl rfl (fun _ _ _ h => h) (Yl.nilCheck rfl) rfl (by kernel_rfl) (by kernel_rfl) (by kernel_rfl) ?_)))); refine WU.nil ?_)
    refine WE.only (i := 10) (by kernel_rfl) rfl fun sh => ?_
    refine WL.storeAt (T := 175) Tryz.sizeOf175 rfl rfl rfl zK rfl ?_
    refine WL.nil (WN.lastE (by kernel_rfl) sh (WE.done (by kernel_rfl) ?_))
    (repeat (first | refine WL.step (Yl.move rfl) rfl ?_ | (refine WL.k_load ?_; refine WL.step (Yl.loadBlk (T := 176) Tryz.isAgg176 rfl zH (by rfl)) rfl ?_) | refine WL.step (Yl.fld0 (t := 178) Tryz.underlying178 fl178 rfl rfl) rfl ?_ | refine WL.step (Yl.nilCheck rfl) rfl ?_ | refine WC.seq ?_ | refine WC.region ?_ | refine WN.then_normal ?_))
    refine WL.lit (t := 176) (vs := [.bool false]) Tryz.underlying176 elemB rfl rfl rfl (fun u hu => by simp at hu; subst hu; rfl) rfl fun b7 => ?_
    rw [show flat [.bool false] = bls [false] from rfl]
    refine WL.appendRow (t := 176) (n := Is.length) (m := 1) (olds := bls Is) (news := bls [false]) Tryz.underlying176 elemB rfl rfl zK (by rw [bls_len, Nat.mul_one]) h8 (Rd.row zH) rfl (bls_one _) (by omega) (by simp only [maxLen]; omega) rfl fun q2 hq2 => ?_
    (repeat (first | refine WL.step (Yl.fld0 (t := 178) Tryz.underlying178 fl178 rfl rfl) rfl ?_ | refine WL.step (Yl.nilCheck rfl) rfl ?_))
    refine WL.storeAt (T := 176) Tryz.sizeOf176 rfl rfl rfl zK rfl ?_
    (repeat (first | refine WL.step (Yl.move rfl) rfl ?_ | (refine WL.k_load ?_; refine WL.step (Yl.loadBlk (T := 175) Tryz.isAgg175 rfl zH (by rfl)) rfl ?_) | refine WL.step (Yl.fld0 (t := 178) Tryz.underlying178 fl178 rfl rfl) rfl ?_ | refine WL.step (Yl.nilCheck rfl) rfl ?_ | refine WC.region ?_ | refine WL.nil ?_ | refine WN.then_normal ?_))
    refine WL.lit (t := 175) (vs := [.slice none 0 0]) Tryz.underlying175 elemSl rfl rfl rfl (fun u hu => by simp at hu; subst hu; rfl) rfl fun b8 => ?_
    rw [show flat [.slice none 0 0] = svs [Sl.nil] from rfl]
    refine WL.appendRow (t := 175) (n := fs.length) (m := 1) (olds := svs fs) (news := svs [Sl.nil]) Tryz.underlying175 elemSl rfl rfl zK (by rw [svs_len, Nat.mul_one]) h7 (Rd.row zH) rfl (svs_one _) (by omega) (by simp only [maxLen]; omega) rfl fun q3 hq3 => ?_
    (repeat (first | refine WL.step (Yl.fld0 (t := 178) Tryz.underlying178 fl178 rfl rfl) rfl ?_ | refine WL.step (Yl.nilCheck rfl) rfl ?_))
    refine WL.storeAt (T := 175) Tryz.sizeOf175 rfl rfl rfl zK rfl ?_
    (repeat (first | refine WL.step (Yl.move rfl) rfl ?_ | refine WL.step (Yl.assign rfl) rfl ?_ | (refine WL.k_bin .add ?_; refine WL.step (Yl.add64C rfl (by omega)) rfl ?_) | refine WC.region ?_ | refine WL.nil ?_ | refine WN.then_normal ?_ | refine WN.block_normal ?_))
    rw [show svs os ++ svs [⟨some ⟨b5, 0, none⟩, 128, zblk⟩] = svs (os ++ [⟨some ⟨b5, 0, none⟩, 128, zblk⟩]) by simp [svs], show svs fs ++ svs [Sl.nil] = svs (fs ++ [Sl.nil]) by simp [svs], show bls Is ++ bls [false] = bls (Is ++ [false]) by simp [bls]]
    have hol : (os ++ [(⟨some ⟨b5, 0, none⟩, 128, zblk⟩ : Sl)]).length = i + 1 := by rw [List.length_append, hi]; rfl
    have hfl : (fs ++ [Sl.nil]).length = fs.length + 1 := by rw [List.length_append]; rfl
    have hil : (Is ++ [false]).length = Is.length + 1 := by rw [List.length_append]; rfl
    refine WN.next ⟨q1.1, q1.2, q2.1, q2.2, q3.1, q3.2, os ++ [⟨some ⟨b5, 0, none⟩, 128, zblk⟩], fs ++ [Sl.nil], Is ++ [false], .row (some ⟨b5, 0, none⟩) 128 5 1 (bs zblk) :: Z⟩ ⟨by simp only [hol]; omega, by simp only [hol, hfl]; omega, by simp only [hol, hil]; omega, by simp only [hol]; omega, by simp only [hfl]; omega, by simp only [hil]; omega, fun x hx => ?_, fun x hx => ?_, fun x hx => ?_⟩ (by simp only [hol]; omega) (by simp only [hol]; exact zS) ?_
    · rcases List.mem_append.1 hx with h | h
      · exact ⟨(h9 x h).1, (h9 x h).2.mono fun y hy => .tail _ hy⟩
      · simp at h; subst h
        exact ⟨rfl, .inr ⟨by show zblk.length ≤ 128; decide, _, .head _⟩⟩
    · rcases List.mem_append.1 hx with h | h
      · exact h10 x h
      · simpa using h
    · rcases List.mem_append.1 hx with h | h
      · exact h11 x h
      · simpa using h
    · simp only [rbI, hol, hfl, hil, List.cons_append, List.nil_append]
      exact (by refine Part.cons zK ?_; refine Part.cons zK ?_; refine Part.cons zK ?_; refine Part.cons zK ?_; refine Part.cons zK ?_; repeat (first | refine Part.more ?_ | exact Part.refl _))
  · (repeat (first | refine WL.step (Yl.move rfl) rfl ?_ | refine WL.step (Yl.assign rfl) rfl ?_ | refine WC.seq ?_ | refine WC.region ?_ | refine WL.nil ?_ | refine WN.then_normal ?_ | refine WC.exit ?_ | refine WC.ret ?_ | refine WN.then_exit ?_ | refine WN.block_here ?_))
    refine WN.ret2 rfl rfl rfl ⟨⟨br, ao, co, ai, ci, af, cf⟩, os, fs, Is, Z, rfl, rfl, ⟨⟨?_, ?_, fun j hj => ?_, fun j hj => .inl ⟨rfl, ?_⟩⟩, ?_, fun j hj => ?_⟩, fun s hs => ?_⟩ ?_
    · rw [List.length_replicate]; omega
    · rw [List.length_replicate]; omega
    · rw [List.length_replicate] at hj
      rw [show (List.replicate n zblk).getD j [] = zblk by simp [List.getD, hj]]
      exact (h9 _ (sl_mem (by omega))).1
    · rw [List.length_replicate] at hj
      exact h10 _ (sl_mem (by omega))
    · rw [List.length_replicate]; omega
    · rw [List.length_replicate] at hj
      have h12 : Is[j]? = some (Is.getD j false) := by simp [List.getD, show j < Is.length by omega]
      rw [h11 _ (List.mem_of_getElem? h12)]; rfl
    · rcases List.mem_append.1 hs with h | h
      · exact (h9 s h).2
      · rw [h10 s h]; exact InF.nil _
    · simp only [rbI, hi, List.cons_append, List.nil_append]
      exact Part.refl _
end Go.Proofs.YtbkdjfgkebkknaaGreatDoor
