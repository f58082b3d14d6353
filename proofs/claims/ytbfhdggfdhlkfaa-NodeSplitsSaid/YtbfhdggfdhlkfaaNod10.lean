/- Where keys are found; halves of nodes. -/
import Derived.Test.YtbfhdggfdhlkfaaNod8
import Derived.Test.YtbfhdggfdhlkfaaNod7
namespace Go.Proofs.Ytbfhdggfdhlkfaa
set_option linter.unusedVariables false
set_option linter.unusedSimpArgs false
open Go Go.RowKit
set_option maxRecDepth 100000
set_option maxHeartbeats 8000000
namespace Nod
def fidx (l : List K) (k : K) : Int := if place l k < l.length then ((place l k : Nat) : Int) else -1
def cutN (x : N) (lo hi : Nat) : N := if x.leaf then ⟨true, (x.ks.drop lo).take (hi - lo), (x.vs.drop lo).take (hi - lo), []⟩ else ⟨false, (x.ks.drop lo).take (hi - lo), [], (x.cs.drop lo).take (hi + 1 - lo)⟩
def sp (x : N) : N × K × N × Nat := if Full x then (low x, mid x, high x, 0) else (zero, ⟨0, List.replicate 32 0⟩, zero, 2)
theorem low_cut (x : N) : low x = if x.leaf then cutN x 0 4 else cutN x 0 6 := by
  unfold low cutN
  split
  · simp
  · simp
theorem high_cut {x : N} (h : Full x) : high x = if x.leaf then cutN x 4 9 else cutN x 7 12 := by
  have hl := full_len h
  obtain ⟨⟨_, hf⟩, _⟩ := h
  unfold high cutN
  by_cases hlf : x.leaf = true
  · rw [if_pos hlf] at hl hf
    simp only [if_pos hlf]
    congr 1
    · rw [List.take_of_length_le (by rw [List.length_drop]; omega)]
    · rw [List.take_of_length_le (by rw [List.length_drop]; omega)]
  · rw [if_neg hlf] at hl hf
    simp only [if_neg hlf]
    congr 1
    · rw [List.take_of_length_le (by rw [List.length_drop]; omega)]
    · rw [List.take_of_length_le (by rw [List.length_drop]; omega)]
theorem isAt_of {l : List K} {k : K} (h : place l k < l.length) : isAt l k = decide (((key l (place l k)).n : Int) = (k.n : Int) ∧ (key l (place l k)).d = k.d) := by
  unfold isAt
  rw [decide_eq_decide]
  constructor
  · intro h2; rw [h2.2]; exact ⟨rfl, rfl⟩
  · intro h2
    refine ⟨h, ?_⟩
    obtain ⟨e1, e2⟩ := h2
    cases hk : key l (place l k); cases k
    rw [hk] at e1 e2
    simp only [K.mk.injEq] at *
    exact ⟨by omega, e2⟩
theorem isAt_not {l : List K} {k : K} (h : ¬ place l k < l.length) : isAt l k = false := decide_eq_false fun q => h q.1
end Nod
theorem kcells_cut {l : List Nod.K} (hl : ∀ k ∈ l, k.Wf) (lo m : Nat) : ((kcells l).drop (lo * 33)).take (m * 33) = kcells ((l.drop lo).take m) := by
  have key : ∀ (l : List Nod.K) (m : Nat), (∀ k ∈ l, k.Wf) → (kcells l).take (m * 33) = kcells (l.take m) ∧ (kcells l).drop (m * 33) = kcells (l.drop m) := by
    intro l m hl
    have e : kcells l = kcells (l.take m) ++ kcells (l.drop m) := by rw [← kcells_app, List.take_append_drop]
    have hlen := kcells_len (l := l.take m) (fun k hk => hl k (List.mem_of_mem_take hk))
    rw [List.length_take] at hlen
    by_cases hm : m ≤ l.length
    · rw [Nat.min_eq_left hm] at hlen
      rw [e, ← hlen]
      exact ⟨List.take_left, List.drop_left⟩
    · have h2 : l.take m = l := List.take_of_length_le (by omega)
      have h3 : l.drop m = [] := List.drop_eq_nil_of_le (by omega)
      have h4 := kcells_len hl
      rw [h2, h3]
      exact ⟨List.take_of_length_le (by omega), by rw [List.drop_eq_nil_of_le (by omega)]; rfl⟩
  rw [(key l lo hl).2, (key (l.drop lo) m (fun k hk => hl k (List.mem_of_mem_drop hk))).1]
theorem vcells_cut {l : List (List UInt8)} (hl : ∀ k ∈ l, k.length = 20) (lo m : Nat) : ((vcells l).drop (lo * 20)).take (m * 20) = vcells ((l.drop lo).take m) := by
  have key : ∀ (l : List (List UInt8)) (m : Nat), (∀ k ∈ l, k.length = 20) → (vcells l).take (m * 20) = vcells (l.take m) ∧ (vcells l).drop (m * 20) = vcells (l.drop m) := by
    intro l m hl
    have e : vcells l = vcells (l.take m) ++ vcells (l.drop m) := by rw [← vcells_app, List.take_append_drop]
    have hlen := vcells_len (l := l.take m) (fun k hk => hl k (List.mem_of_mem_take hk))
    rw [List.length_take] at hlen
    by_cases hm : m ≤ l.length
    · rw [Nat.min_eq_left hm] at hlen
      rw [e, ← hlen]
      exact ⟨List.take_left, List.drop_left⟩
    · have h2 : l.take m = l := List.take_of_length_le (by omega)
      have h3 : l.drop m = [] := List.drop_eq_nil_of_le (by omega)
      have h4 := vcells_len hl
      rw [h2, h3]
      exact ⟨List.take_of_length_le (by omega), by rw [List.drop_eq_nil_of_le (by omega)]; rfl⟩
  rw [(key l lo hl).2, (key (l.drop lo) m (fun k hk => hl k (List.mem_of_mem_drop hk))).1]
theorem icells_cut (l : List Int) (lo m : Nat) : ((icells l).drop (lo * 1)).take (m * 1) = icells ((l.drop lo).take m) := by
  simp only [icells, Nat.mul_one, List.map_take, List.map_drop]
theorem Rd.kcut {X : Cx} {A : List HA} {a : Option Addr} {l : List Nod.K} (hl : ∀ k ∈ l, k.Wf) (h : Rd X A a (kcells l)) {lo cap : Nat} (m : Nat) (hc : l.length ≤ cap) : Rd X A (cutA a lo cap 33) (kcells ((l.drop lo).take m)) := by
  have := Rd.cut (lo := lo) (cap := cap) (k := 33) (m := m * 33) h (by rw [kcells_len hl]; omega)
  rwa [kcells_cut hl] at this
theorem Rd.vcut {X : Cx} {A : List HA} {a : Option Addr} {l : List (List UInt8)} (hl : ∀ k ∈ l, k.length = 20) (h : Rd X A a (vcells l)) {lo cap : Nat} (m : Nat) (hc : l.length ≤ cap) : Rd X A (cutA a lo cap 20) (vcells ((l.drop lo).take m)) := by
  have := Rd.cut (lo := lo) (cap := cap) (k := 20) (m := m * 20) h (by rw [vcells_len hl]; omega)
  rwa [vcells_cut hl] at this
theorem Rd.icut {X : Cx} {A : List HA} {a : Option Addr} {l : List Int} (h : Rd X A a (icells l)) {lo cap : Nat} (m : Nat) (hc : l.length ≤ cap) : Rd X A (cutA a lo cap 1) (icells ((l.drop lo).take m)) := by
  have := Rd.cut (lo := lo) (cap := cap) (k := 1) (m := m * 1) h (by rw [icells_len]; omega)
  rwa [icells_cut] at this
attribute [local irreducible] WL WC WN Yl WH WQ WT WE WU
theorem find1_c (x k : Nod.K) (c : Nat) (w : World) (hx : x.Wf) (hk : k.Wf) (hr : CellsAt w (some ⟨c, 0, none⟩) (kv k)) :
    Calls Try.prog 49 #[kval x, .pointer (some ⟨c, 0, none⟩)] w (Gives (Val (.bool (decide (0 ≤ Nod.cmp x k)))) w) := by
  have hks := kv_size hx
  have hkb : Nat.beq (kv k).length 33 = true := by rw [kv_len hk]; rfl
  refine enter (args := [_, _]) Try.func49 Try.ntmps49 rfl rfl ?_
  (repeat (first | refine WL.step (Yl.assign rfl) rfl ?_ | refine WL.boxA (cs := (kv x).toArray) rfl rfl fun b1 => ?_ | refine WC.seq ?_ | refine WC.region ?_ | refine WL.nil ?_ | refine WN.then_normal ?_))
  (repeat (first | refine WL.step (Yl.assign rfl) rfl ?_ | (refine WL.k_load ?_; first | refine WL.step (Yl.loadAll (T := 42) (T' := 42) (cs := (kv x).toArray) Try.isAgg42 Try.sizeOf42 rfl (by repeat (first | exact .head _ | refine .tail _ ?_)) hks) rfl ?_ | refine WL.step (Yl.loadAggRd (T := 42) (us := kv k) Try.isAgg42 Try.sizeOf42 rfl (.old hr) hkb (by rw [List.drop_zero, List.take_length])) rfl ?_) | (refine WL.k_call 27 ?_; refine WL.callV (g := 27) Try.call27 rfl (fun w s => ncmp_c x k w hx hk) rfl ?_) | refine WL.step (Yl.geq rfl rfl) rfl ?_ | refine WL.nil ?_ | refine WN.then_normal ?_ | refine WC.ret ?_))
  exact WN.ret1 rfl rfl ⟨rfl, rfl⟩ .nil
theorem fidx_c (a : Option Addr) (n cap c : Nat) (l : List Nod.K) (k : Nod.K) (w : World) (hl : l.length = n) (hn : n ≤ 1000) (hw : ∀ k ∈ l, k.Wf) (hk : k.Wf) (hr : CellsAt w a (kcells l)) (hc : CellsAt w (some ⟨c, 0, none⟩) (kv k)) :
    Calls Try.prog 48 #[.slice a n cap, .func (.func 49) #[] #[.pointer (some ⟨c, 0, none⟩)]] w (Gives (Val (.int .i64 (Nod.fidx l k))) w) := by
  refine enter (args := [_, _]) Try.func48 Try.ntmps48 rfl rfl ?_
  (repeat (first | refine WL.step (Yl.move rfl) rfl ?_ | refine WL.step (Yl.assign rfl) rfl ?_ | refine WL.step (Yl.len (t := 22) Try.underlying22 rfl) rfl ?_ | refine WC.seq ?_ | refine WC.region ?_ | refine WL.nil ?_ | refine WN.then_normal ?_ | refine WC.block ?_))
  refine WC.loop (α := Nat) (fun i => [(0, .slice a n cap), (1, .func (.func 49) #[] #[.pointer (some ⟨c, 0, none⟩)]), (7, .int .i64 (n : Int)), (8, .int .i64 (i : Int))]) (fun _ => []) (fun i => i ≤ n ∧ ∀ j, j < i → Nod.cmp (Nod.key l j) k < 0) (fun i => n - i) 0 (by repeat (first | exact Sub.nil | refine Sub.cons rfl rfl ?_)) .nil ⟨by omega, by omega⟩ ?_
  intro i ⟨hi, hz⟩
  (repeat (first | refine WL.step (Yl.lss rfl rfl) rfl ?_ | refine WC.seq ?_ | refine WC.region ?_ | refine WL.nil ?_ | refine WN.then_normal ?_))
  refine WC.ite rfl (fun h1 => ?_) (fun h1 => ?_)
  · have hil : i < l.length := by omega
    have hkw := hw _ (key_mem hil)
    (repeat (first | refine WL.step (Yl.move rfl) rfl ?_ | refine WL.step (Yl.assign rfl) rfl ?_ | refine WL.step (Yl.loadEl (kv (Nod.key l i)) Try.isAgg42 Try.sizeOf42 rfl (.old hr) (kv_len hkw) (kv_ne _) (kcells_at hw hil)) rfl ?_ | (refine WL.k_idxa ?_; refine WL.step (Yl.indexAddr (t := 22) Try.underlying22 Try.sizeOf42 rfl rfl (.old hr) (kcells_ne hil) (by omega)) rfl ?_) | (refine WL.k_callt ?_; refine WL.callFV (g := 49) (cs := [.pointer (some ⟨c, 0, none⟩)]) Try.call49 rfl rfl (fun w s => find1_c (Nod.key l i) k c w hkw hk (Rd.old hc w s)) rfl ?_) | refine WC.seq ?_ | refine WC.region ?_ | refine WL.nil ?_ | refine WN.then_normal ?_ | refine WC.block ?_ | refine WC.skip ?_))
    refine WC.ite rfl (fun h2 => ?_) (fun h2 => ?_)
    · have hp : Nod.place l k = i := Nod.place_of (by omega) hz (fun _ => h2)
      rw [show Nod.fidx l k = (i : Int) by unfold Nod.fidx; rw [hp, if_pos hil]]
      (repeat (first | refine WL.step (Yl.move rfl) rfl ?_ | refine WL.step (Yl.assign rfl) rfl ?_ | refine WC.seq ?_ | refine WC.region ?_ | refine WL.nil ?_ | refine WN.then_normal ?_ | refine WC.ret ?_ | refine WN.then_ret ?_ | refine WN.block_ret ?_))
      exact WN.ret1 rfl rfl ⟨rfl, rfl⟩ .nil
    · (repeat (first | refine WL.step (Yl.move rfl) rfl ?_ | (refine WL.k_bin .add ?_; refine WL.step (Yl.add64C rfl (by omega)) rfl ?_) | refine WC.region ?_ | refine WL.nil ?_ | refine WN.then_normal ?_ | refine WC.skip ?_ | refine WN.block_normal ?_))
      exact WN.next (i + 1) ⟨by omega, fun j hj => by rcases Nat.lt_or_ge j i with h | h; exact hz j h; rw [show j = i by omega]; omega⟩ (by omega) (by repeat (first | exact Sub.nil | refine Sub.cons rfl rfl ?_)) .nil
  · have hp : Nod.place l k = l.length := Nod.place_of (by omega) (fun j hj => hz j (by omega)) (fun h => by omega)
    rw [show Nod.fidx l k = -1 by unfold Nod.fidx; rw [hp, if_neg (by omega)]]
    (repeat (first | refine WL.step (Yl.assign rfl) rfl ?_ | refine WC.seq ?_ | refine WC.region ?_ | refine WL.nil ?_ | refine WN.then_normal ?_ | refine WC.exit ?_ | refine WC.ret ?_ | refine WN.then_exit ?_ | refine WN.block_here ?_))
    exact WN.ret1 rfl rfl ⟨rfl, rfl⟩ .nil
def FindV (x : Nod.N) (k : Nod.K) : Value := .tuple #[.int .i64 ((Nod.place x.ks k : Nat) : Int), .bool (Nod.isAt x.ks k)]
theorem find_c (x : Nod.N) (p : Pl) (k : Nod.K) (w : World) (hx : x.Wf) (hk : k.Wf) (h : NdAt w x p) : Calls Try.prog 25 #[ndv x p, kval k] w (Gives (Val (FindV x k)) w) := by
  have hkl := hx.kl
  have hks := kv_size hk
  have hpl := Nod.place_le x.ks k
  refine enter (args := [_, _]) Try.func25 Try.ntmps25 rfl rfl ?_
  (repeat (first | refine WL.boxA (cs := (ndl x p).toArray) rfl rfl fun b1 => ?_ | refine WC.seq ?_ | refine WC.region ?_))
  refine WL.boxA (cs := (kv k).toArray) rfl rfl fun b2 => ?_
  have hfi := fun w (q : CellsAt w p.ka (kcells x.ks)) (r : CellsAt w (some ⟨b2, 0, none⟩) (kv k)) => fidx_c p.ka x.ks.length p.kc b2 x.ks k w rfl hkl hx.ks hk q r
  by_cases h1 : Nod.place x.ks k < x.ks.length
  · have hf : Nod.fidx x.ks k = ((Nod.place x.ks k : Nat) : Int) := if_pos h1
    rw [hf] at hfi
    have hkw := hx.ks _ (key_mem h1)
    (repeat (first | refine WL.step (Yl.move rfl) rfl ?_ | refine WL.step (Yl.assign rfl) rfl ?_ | (refine WL.k_load ?_; refine WL.step (Yl.loadBlk (T := 22) Try.isAgg22 rfl (by repeat (first | exact .head _ | refine .tail _ ?_)) (by rfl)) rfl ?_) | refine WL.step (Yl.fld0 (t := 26) Try.underlying26 fl26 rfl rfl) rfl ?_ | refine WL.step (Yl.capFunc (vs := [.pointer (some ⟨b2, 0, none⟩)]) rfl) rfl ?_ | (refine WL.k_call 48 ?_; refine WL.callV (g := 48) Try.call48 rfl (fun w s => hfi w (Rd.old h.ks w s) (Rd.lit (vs := kv k) (by repeat (first | exact .head _ | refine .tail _ ?_)) w s)) rfl ?_) | refine WL.step (Yl.lss rfl rfl) rfl ?_ | refine WC.seq ?_ | refine WC.region ?_ | refine WL.nil ?_ | refine WN.then_normal ?_))
    refine WC.ite_false rfl (by omega) ?_
    (repeat (first | refine WC.seq ?_ | refine WN.then_normal ?_ | refine WC.skip ?_))
    refine WC.regionQ (by kernel_rfl) (by kernel_rfl) ?_
    (repeat (first | refine WQ.step (Yl.fld0 (t := 26) Try.underlying26 fl26 rfl rfl) rfl ?_ | refine WQ.step (Yl.loadBlk (T := 22) Try.isAgg22 rfl (by repeat (first | exact .head _ | refine .tail _ ?_)) (by rfl)) rfl ?_ | refine WQ.step (Yl.indexAddr (t := 22) Try.underlying22 Try.sizeOf42 rfl rfl (.old h.ks) (kcells_ne h1) (by omega)) rfl ?_ | refine WQ.step (Yl.loadEl (kv (Nod.key x.ks (Nod.place x.ks k))) Try.isAgg42 Try.sizeOf42 rfl (.old h.ks) (kv_len hkw) (kv_ne _) (kcells_at hx.ks h1)) rfl ?_ | refine WQ.step (Yl.loadAll (T := 42) (T' := 42) (cs := (kv k).toArray) Try.isAgg42 Try.sizeOf42 rfl (by repeat (first | exact .head _ | refine .tail _ ?_)) hks) rfl ?_ | refine WQ.step (Yl.eqlK keyT rfl rfl hkw.2 hk.2) rfl ?_ | refine WQ.step (Yl.move rfl) rfl ?_ | refine WQ.step (Yl.assign rfl) rfl ?_ | refine WQ.nil ?_))
    (repeat (first | refine WN.then_normal ?_ | refine WC.ret ?_))
    exact WN.ret2 rfl rfl rfl ⟨by rw [FindV, Nod.isAt_of h1], rfl⟩ .nil
  · have hf : Nod.fidx x.ks k = -1 := if_neg h1
    rw [hf] at hfi
    have hp : Nod.place x.ks k = x.ks.length := by omega
    (repeat (first | refine WL.step (Yl.move rfl) rfl ?_ | refine WL.step (Yl.assign rfl) rfl ?_ | (refine WL.k_load ?_; refine WL.step (Yl.loadBlk (T := 22) Try.isAgg22 rfl (by repeat (first | exact .head _ | refine .tail _ ?_)) (by rfl)) rfl ?_) | refine WL.step (Yl.fld0 (t := 26) Try.underlying26 fl26 rfl rfl) rfl ?_ | refine WL.step (Yl.capFunc (vs := [.pointer (some ⟨b2, 0, none⟩)]) rfl) rfl ?_ | (refine WL.k_call 48 ?_; refine WL.callV (g := 48) Try.call48 rfl (fun w s => hfi w (Rd.old h.ks w s) (Rd.lit (vs := kv k) (by repeat (first | exact .head _ | refine .tail _ ?_)) w s)) rfl ?_) | refine WL.step (Yl.lss rfl rfl) rfl ?_ | refine WC.seq ?_ | refine WC.region ?_ | refine WL.nil ?_ | refine WN.then_normal ?_))
    refine WC.ite_true rfl (by decide) ?_
    (repeat (first | refine WL.step (Yl.assign rfl) rfl ?_ | (refine WL.k_load ?_; refine WL.step (Yl.loadBlk (T := 22) Try.isAgg22 rfl (by repeat (first | exact .head _ | refine .tail _ ?_)) (by rfl)) rfl ?_) | refine WL.step (Yl.fld0 (t := 26) Try.underlying26 fl26 rfl rfl) rfl ?_ | refine WL.step (Yl.len (t := 22) Try.underlying22 rfl) rfl ?_ | refine WC.seq ?_ | refine WC.region ?_ | refine WL.nil ?_ | refine WN.then_normal ?_ | refine WC.ret ?_ | refine WN.then_ret ?_))
    exact WN.ret2 rfl rfl rfl ⟨by rw [FindV, Nod.isAt_not h1, hp], rfl⟩ .nil
theorem rfind_c (x : Nod.N) (p : Pl) (k : Nod.K) (w : World) (hx : x.Wf) (hk : k.Wf) (h : NdAt w x p) : Calls Try.prog 26 #[ndv x p, kval k] w (Gives (Val (FindV x k)) w) := by
  have hkl := hx.kl
  have hks := kv_size hk
  refine enter (args := [_, _]) Try.func26 Try.ntmps26 rfl rfl ?_
  (repeat (first | refine WL.boxA (cs := (ndl x p).toArray) rfl rfl fun b1 => ?_ | refine WC.seq ?_ | refine WC.region ?_))
  refine WL.boxA (cs := (kv k).toArray) rfl rfl fun b2 => ?_
  (repeat (first | refine WL.step (Yl.assign rfl) rfl ?_ | refine WC.seq ?_ | refine WC.region ?_ | refine WL.nil ?_ | refine WN.then_normal ?_ | refine WC.block ?_))
  refine WC.loop (α := Nat) (fun i => [(2, .pointer (some ⟨b1, 0, none⟩)), (3, .pointer (some ⟨b2, 0, none⟩)), (6, .int .i64 (i : Int))]) (fun _ => [.blk b2 (.cells (kv k).toArray 45 (0, 0)), .blk b1 (.cells (ndl x p).toArray 32 (0, 0))])
    (fun i => i ≤ x.ks.length ∧ ∀ j, j < i → Nod.cmp (Nod.key x.ks j) k < 0) (fun i => x.ks.length - i) 0 (by repeat (first | exact Sub.nil | refine Sub.cons rfl rfl ?_)) (by repeat (first | exact Part.nil | refine Part.cons (by repeat (first | exact Pick.here | apply Pick.there)) ?_ | refine Part.free ?_)) ⟨by omega, by omega⟩ ?_
  intro i ⟨hi, hz⟩
  (repeat (first | refine WL.step (Yl.move rfl) rfl ?_ | (refine WL.k_load ?_; refine WL.step (Yl.loadBlk (T := 29) Try.isAgg29 rfl (by repeat (first | exact .head _ | refine .tail _ ?_)) (by rfl)) rfl ?_) | refine WL.step (Yl.fld0 (t := 32) Try.underlying32 fl32 rfl rfl) rfl ?_ | refine WL.step (Yl.len (t := 29) Try.underlying29 rfl) rfl ?_ | refine WL.step (Yl.lss rfl rfl) rfl ?_ | refine WC.seq ?_ | refine WC.region ?_ | refine WL.nil ?_ | refine WN.then_normal ?_))
  refine WC.ite rfl (fun h1 => ?_) (fun h1 => ?_)
  · have hil : i < x.ks.length := by omega
    have hkw := hx.ks _ (key_mem hil)
    (repeat (first | refine WC.seq ?_ | refine WN.then_normal ?_ | refine WC.block ?_ | refine WC.skip ?_))
    refine WC.regionH [.blk b2 (.cells (kv k).toArray 45 (0, 0)), .blk b1 (.cells (ndl x p).toArray 32 (0, 0))] (by kernel_rfl) ?_
    (refine WH.order [0, 1, 2, 3, 4, 5] (by repeat (first | exact Part.nil | refine Part.cons (by repeat (first | exact Pick.here | apply Pick.there)) ?_ | refine Part.free ?_)) (by kernel_rfl) ?_; (repeat (first | (refine WT.k_move rfl ?_; refine WT.take rfl rfl (fun _ _ _ h => h) (Yl.move rfl) rfl (by kernel_rfl) (by kernel_rfl) ?_) | (refine WT.k_load rfl ?_; first | refine WT.take rfl rfl (fun _ _ _ h => h) (Yl.loadBlk (T := 29) Try.isAgg29 rfl (by repeat (first | exact .head _ | refine .tail _ ?_)) (by rfl)) rfl (by kernel_rfl) (by kernel_rfl) ?_ | refine WT.take rfl rfl (fun _ _ _ h => h) (Yl.loadEl (kv (Nod.key x.ks i)) Try.isAgg45 Try.sizeOf45 rfl (.old h.ks) (kv_len hkw) (kv_ne _) (kcells_at hx.ks hil)) rfl (by kernel_rfl) (by kernel_rfl) ?_ | refine WT.take rfl rfl (fun _ _ _ h => h) (Yl.loadAll (T := 45) (T' := 45) (cs := (kv k).toArray) Try.isAgg45 Try.sizeOf45 rfl (by repeat (first | exact .head _ | refine .tail _ ?_)) hks) rfl (by kernel_rfl) (by kernel_rfl) ?_) | (refine WT.k_fld rfl ?_; refine WT.take rfl rfl (fun _ _ _ h => h) (Yl.fld0 (t := 32) Try.underlying32 fl32 rfl rfl) rfl (by kernel_rfl) (by kernel_rfl) ?_) | (refine WT.k_idxa rfl ?_; refine WT.take rfl rfl (fun _ _ _ h => h) (Yl.indexAddr (t := 29) Try.underlying29 Try.sizeOf45 rfl rfl (.old h.ks) (kcells_ne hil) (by omega)) rfl (by kernel_rfl) (by kernel_rfl) ?_))); refine WT.nil ?_)
    refine WH.only (i := 6) (by kernel_rfl) rfl ?_
    refine WL.callV (g := 28) Try.call28 rfl (fun w _ => rcmp_c (Nod.key x.ks i) k w hkw hk) rfl ?_
    refine WL.nil (WN.nextH (by repeat (first | exact Part.nil | refine Part.cons (by repeat (first | exact Pick.here | apply Pick.there)) ?_ | refine Part.free ?_)) ?_)
    (refine WH.order [7] (by repeat (first | exact Part.nil | refine Part.cons (by repeat (first | exact Pick.here | apply Pick.there)) ?_ | refine Part.free ?_)) (by kernel_rfl) ?_; (repeat (first | (refine WT.k_bin .geq rfl ?_; refine WT.take rfl rfl (fun _ _ _ h => h) (Yl.geq rfl rfl) rfl (by kernel_rfl) (by kernel_rfl) ?_))); refine WT.nil ?_)
    refine WH.done (by kernel_rfl) ?_
    (repeat (first | refine WN.then_normal ?_))
    refine WC.ite rfl (fun h2 => ?_) (fun h2 => ?_)
    · have hp : Nod.place x.ks k = i := Nod.place_of (by omega) hz (fun _ => h2)
      have hat := Nod.isAt_of (l := x.ks) (k := k) (by omega)
      rw [hp] at hat
      (repeat (first | refine WC.seq ?_))
      refine WC.regionQ (by kernel_rfl) (by kernel_rfl) ?_
      (repeat (first | refine WQ.step (Yl.fld0 (t := 32) Try.underlying32 fl32 rfl rfl) rfl ?_ | refine WQ.step (Yl.loadBlk (T := 29) Try.isAgg29 rfl (by repeat (first | exact .head _ | refine .tail _ ?_)) (by rfl)) rfl ?_ | refine WQ.step (Yl.indexAddr (t := 29) Try.underlying29 Try.sizeOf45 rfl rfl (.old h.ks) (kcells_ne hil) (by omega)) rfl ?_ | refine WQ.step (Yl.loadEl (kv (Nod.key x.ks i)) Try.isAgg45 Try.sizeOf45 rfl (.old h.ks) (kv_len hkw) (kv_ne _) (kcells_at hx.ks hil)) rfl ?_ | refine WQ.step (Yl.loadAll (T := 45) (T' := 45) (cs := (kv k).toArray) Try.isAgg45 Try.sizeOf45 rfl (by repeat (first | exact .head _ | refine .tail _ ?_)) hks) rfl ?_ | refine WQ.step (Yl.eqlK rkeyT rfl rfl hkw.2 hk.2) rfl ?_ | refine WQ.step (Yl.move rfl) rfl ?_ | refine WQ.step (Yl.assign rfl) rfl ?_ | refine WQ.nil ?_))
      (repeat (first | refine WN.then_normal ?_ | refine WC.ret ?_ | refine WN.then_ret ?_ | refine WN.block_ret ?_))
      exact WN.ret2 rfl rfl rfl ⟨by rw [FindV, hp, hat], rfl⟩ .nil
    · (repeat (first | refine WL.step (Yl.move rfl) rfl ?_ | refine WL.step (Yl.assign rfl) rfl ?_ | (refine WL.k_bin .add ?_; refine WL.step (Yl.add64C rfl (by omega)) rfl ?_) | refine WC.region ?_ | refine WL.nil ?_ | refine WN.then_normal ?_ | refine WC.skip ?_ | refine WN.block_normal ?_))
      exact WN.next (i + 1) ⟨by omega, fun j hj => by rcases Nat.lt_or_ge j i with h | h; exact hz j h; rw [show j = i by omega]; omega⟩ (by omega) (by repeat (first | exact Sub.nil | refine Sub.cons rfl rfl ?_)) (by repeat (first | exact Part.nil | refine Part.cons (by repeat (first | exact Pick.here | apply Pick.there)) ?_ | refine Part.free ?_))
  · have hp : Nod.place x.ks k = x.ks.length := Nod.place_of (by omega) (fun j hj => hz j (by omega)) (fun h => by omega)
    (repeat (first | refine WL.step (Yl.assign rfl) rfl ?_ | (refine WL.k_load ?_; refine WL.step (Yl.loadBlk (T := 29) Try.isAgg29 rfl (by repeat (first | exact .head _ | refine .tail _ ?_)) (by rfl)) rfl ?_) | refine WL.step (Yl.fld0 (t := 32) Try.underlying32 fl32 rfl rfl) rfl ?_ | refine WL.step (Yl.len (t := 29) Try.underlying29 rfl) rfl ?_ | refine WC.seq ?_ | refine WC.region ?_ | refine WL.nil ?_ | refine WN.then_normal ?_ | refine WC.exit ?_ | refine WC.ret ?_ | refine WN.then_exit ?_ | refine WN.block_here ?_))
    exact WN.ret2 rfl rfl rfl ⟨by rw [FindV, Nod.isAt_not (by omega), hp], rfl⟩ .nil
end Go.Proofs.Ytbfhdggfdhlkfaa
