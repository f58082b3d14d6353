/- Nodes handed to the reference; equal nodes; few keys. -/
import Derived.Test.YtbfhdggfdhlkfaaNod11
namespace Go.Proofs.Ytbfhdggfdhlkfaa
set_option linter.unusedVariables false
set_option linter.unusedSimpArgs false
open Go Go.RowKit
set_option maxRecDepth 100000
set_option maxHeartbeats 8000000
/-- A node for the reference: its kids are shared. -/
def RefR (x : Nod.N) (p : Pl) : Value → List HA → Prop := fun u B => ∃ (k v : Option Addr × Nat), x.ks.length ≤ k.2 ∧ x.vs.length ≤ v.2 ∧ u = ndv x ⟨k.1, k.2, v.1, v.2, p.ca, p.cc⟩ ∧
  B = [.row k.1 k.2 45 33 (kcells x.ks), .row v.1 v.2 78 20 (vcells x.vs)]
theorem buildRLC (v : Bool) (a : Option Addr) (n c : Nat) (w : World) : (Instr.build 32 [(0, Value.bool v), (3, .slice a n c)].toArray).run Try.prog w = .ok (.agg #[.bool v, .slice none 0 0, .slice none 0 0, .slice a n c]) w := by
  simp [Instr.build, Try.zeroValue32, run_underlying Try.underlying32, Try.sizeOf4, Try.sizeOf24, Value.cells, Instr.fill]
theorem take_key {l : List Nod.K} {i : Nat} (h : i < l.length) : l.take (i + 1) = l.take i ++ [Nod.key l i] := take_snoc _ _ h
theorem list_eq_of {α : Type} {l m : List α} (d : α) (hl : l.length = m.length) (h : ∀ j, j < l.length → l.getD j d = m.getD j d) : l = m := by
  apply List.ext_getElem hl
  intro i h1 h2
  have := h i h1
  simpa [List.getD, h1, h2] using this
theorem k_eq {a b : Nod.K} (h : (a.n : Int) = (b.n : Int) ∧ a.d = b.d) : a = b := by
  cases a; cases b; simp only [Nod.K.mk.injEq] at *; exact ⟨by omega, h.2⟩
theorem Yl.neqBv {X : Cx} {ρ : Env} {A : List HA} {ty : TypeId} {x y : Operand} {t u : TypeId} {p q b : Bool} (ht : X.P.underlying t = some .bool) (hx : ev ρ x = some (.bool p)) (hy : ev ρ y = some (.bool q)) (h : (p != q) = b) :
    Yl X (.binOp .neq t x y u) ty ρ A (.bool b) := by subst h; exact Yl.neqB ht hx hy
attribute [local irreducible] WL WC WN Yl WH WQ WT WE WU
theorem lref_c (x : Nod.N) (p : Pl) (w : World) (hx : x.Wf) (h : NdAt w x p) : Calls Try.prog 14 #[ndv x p] w (Gives (RefR x p) w) := by
  have hkl := hx.kl
  have hvl := hx.vl
  refine enter (args := [_]) Try.func14 Try.ntmps14 rfl rfl ?_
  (repeat (first | refine WL.boxA (cs := (ndl x p).toArray) rfl rfl fun b1 => ?_ | refine WC.seq ?_ | refine WC.region ?_))
  refine WL.allocA Try.zeroValue32 rfl fun b2 => ?_
  (repeat (first | (refine WL.k_load ?_; first | refine WL.step (Yl.loadBlk (T := 4) Try.isAgg4 rfl (by repeat (first | exact .head _ | refine .tail _ ?_)) (by rfl)) rfl ?_ | refine WL.step (Yl.loadBlk (T := 24) Try.isAgg24 rfl (by repeat (first | exact .head _ | refine .tail _ ?_)) (by rfl)) rfl ?_) | refine WL.step (Yl.fld0 (t := 26) Try.underlying26 fl26 rfl rfl) rfl ?_ | refine WL.step (Yl.build (ps := [(0, .tmp 7), (3, .tmp 9)]) rfl (buildRLC _ _ _ _)) rfl ?_ | refine WC.seq ?_ | refine WC.region ?_ | refine WL.nil ?_ | refine WN.then_normal ?_))
  refine WL.allocA Try.zeroValue32 rfl fun b3 => ?_
  refine WL.storeWhole (T := 32) (k := 4) Try.sizeOf32 rfl rfl rfl (by repeat (first | exact Pick.here | apply Pick.there)) rfl rfl ?_
  (repeat (first | refine WL.step (Yl.assign rfl) rfl ?_ | refine WC.seq ?_ | refine WC.region ?_ | refine WL.nil ?_ | refine WN.then_normal ?_ | refine WC.block ?_))
  refine WC.joinB (α := Option Addr × Nat) (fun g => [(1, .pointer (some ⟨b1, 0, none⟩)), (2, .pointer (some ⟨b2, 0, none⟩)), (3, .pointer (some ⟨b3, 0, none⟩))])
    (fun g => [.row g.1 g.2 45 33 (kcells x.ks), .blk b3 (.cells #[.bool x.leaf, .slice g.1 x.ks.length g.2, .slice none 0 0, .slice p.ca x.cs.length p.cc] 32 (0, 0)), .blk b1 (.cells (ndl x p).toArray 26 (0, 0)), .blk b2 (.cells #[.bool false, .slice none 0 0, .slice none 0 0, .slice none 0 0] 32 (0, 0))]) (fun g => x.ks.length ≤ g.2) ?_ ?_
  · refine WC.loop (α := Nat × Option Addr × Nat) (fun g => [(1, .pointer (some ⟨b1, 0, none⟩)), (2, .pointer (some ⟨b2, 0, none⟩)), (3, .pointer (some ⟨b3, 0, none⟩)), (4, .int .i64 (g.1 : Int))])
      (fun g => [.row g.2.1 g.2.2 45 33 (kcells (x.ks.take g.1)), .blk b3 (.cells #[.bool x.leaf, .slice g.2.1 g.1 g.2.2, .slice none 0 0, .slice p.ca x.cs.length p.cc] 32 (0, 0)), .blk b1 (.cells (ndl x p).toArray 26 (0, 0)), .blk b2 (.cells #[.bool false, .slice none 0 0, .slice none 0 0, .slice none 0 0] 32 (0, 0))]) (fun g => g.1 ≤ x.ks.length ∧ g.1 ≤ g.2.2) (fun g => x.ks.length - g.1) (0, none, 0) (by repeat (first | exact Sub.nil | refine Sub.cons rfl rfl ?_)) (.free (by repeat (first | exact Part.nil | refine Part.cons (by repeat (first | exact Pick.here | apply Pick.there)) ?_ | refine Part.free ?_))) ⟨by simp, by simp⟩ ?_
    intro ⟨i, a, ac⟩ ⟨hi, ha⟩
    simp only at hi ha ⊢
    (repeat (first | refine WL.step (Yl.move rfl) rfl ?_ | (refine WL.k_load ?_; refine WL.step (Yl.loadBlk (T := 22) Try.isAgg22 rfl (by repeat (first | exact .head _ | refine .tail _ ?_)) (by rfl)) rfl ?_) | refine WL.step (Yl.fld0 (t := 26) Try.underlying26 fl26 rfl rfl) rfl ?_ | refine WL.step (Yl.len (t := 22) Try.underlying22 rfl) rfl ?_ | refine WL.step (Yl.lss rfl rfl) rfl ?_ | refine WC.seq ?_ | refine WC.region ?_ | refine WL.nil ?_ | refine WN.then_normal ?_))
    refine WC.ite rfl (fun h2 => ?_) (fun h2 => ?_)
    · have hil : i < x.ks.length := by omega
      have hkw := hx.ks _ (key_mem hil)
      have htl := kcells_len (l := x.ks.take i) (fun k hk => hx.ks k (List.mem_of_mem_take hk))
      (repeat (first | refine WC.seq ?_ | refine WN.then_normal ?_ | refine WC.block ?_ | refine WC.skip ?_))
      refine WC.regionE [.blk b3 (.cells #[.bool x.leaf, .slice a i ac, .slice none 0 0, .slice p.ca x.cs.length p.cc] 32 (0, 0)), .blk b1 (.cells (ndl x p).toArray 26 (0, 0))] 10 (by kernel_rfl) ?_
      (refine WE.order [0, 1, 2, 3, 4, 5, 6] (by repeat (first | exact Part.nil | refine Part.cons (by repeat (first | exact Pick.here | apply Pick.there)) ?_ | refine Part.free ?_)) (by kernel_rfl) ?_; (repeat (first | (refine WU.k_move rfl ?_; refine WU.take rfl rfl (fun _ _ _ h => h) (Yl.move rfl) rfl (by kernel_rfl) (by kernel_rfl) (by kernel_rfl) ?_) | (refine WU.k_load rfl ?_; first | refine WU.take rfl rfl (fun _ _ _ h => h) (Yl.loadBlk (T := 22) Try.isAgg22 rfl (by repeat (first | exact .head _ | refine .tail _ ?_)) (by rfl)) rfl (by kernel_rfl) (by kernel_rfl) (by kernel_rfl) ?_ | refine WU.take rfl rfl (fun _ _ _ h => h) (Yl.loadBlk (T := 29) Try.isAgg29 rfl (by repeat (first | exact .head _ | refine .tail _ ?_)) (by rfl)) rfl (by kernel_rfl) (by kernel_rfl) (by kernel_rfl) ?_ | refine WU.take rfl rfl (fun _ _ _ h => h) (Yl.loadEl (kv (Nod.key x.ks i)) Try.isAgg42 Try.sizeOf42 rfl (.old h.ks) (kv_len hkw) (kv_ne _) (kcells_at hx.ks hil)) rfl (by kernel_rfl) (by kernel_rfl) (by kernel_rfl) ?_) | (refine WU.k_fld rfl ?_; first | refine WU.take rfl rfl (fun _ _ _ h => h) (Yl.fld0 (t := 26) Try.underlying26 fl26 rfl rfl) rfl (by kernel_rfl) (by kernel_rfl) (by kernel_rfl) ?_ | refine WU.take rfl rfl (fun _ _ _ h => h) (Yl.fld0 (t := 32) Try.underlying32 fl32 rfl rfl) rfl (by kernel_rfl) (by kernel_rfl) (by kernel_rfl) ?_) | (refine WU.k_idxa rfl ?_; refine WU.take rfl rfl (fun _ _ _ h => h) (Yl.indexAddr (t := 22) Try.underlying22 Try.sizeOf42 rfl rfl (.old h.ks) (kcells_ne hil) (by omega)) rfl (by kernel_rfl) (by kernel_rfl) (by kernel_rfl) ?_))); refine WU.nil ?_)
      refine WE.only (i := 7) (by kernel_rfl) rfl fun sh => ?_
      refine WL.lit (t := 29) Try.underlying29 elemRKey rfl rfl rfl (by simp [Value.cells, kv_len hkw]) rfl fun b9 => ?_
      rw [flatK]
      refine WL.nil (WN.nextE sh (by repeat (first | exact Part.nil | refine Part.cons (by repeat (first | exact Pick.here | apply Pick.there)) ?_ | refine Part.free ?_)) ?_)
      refine WE.only (i := 8) (by kernel_rfl) rfl fun sh => ?_
      refine WL.appendRow (t := 29) (n := i) (m := 1) (olds := kcells (x.ks.take i)) Try.underlying29 elemRKey rfl rfl (by repeat (first | exact Pick.here | apply Pick.there)) (by rw [htl, List.length_take]; omega) ha (Rd.row (.head _)) (by rw [kv_len hkw]) (kv_one _) (by omega) (by simp only [maxLen]; omega) rfl fun q2 hq2 => ?_
      rw [← kcells_snoc, ← take_key hil]
      refine WL.nil (WN.nextE sh (by repeat (first | exact Part.nil | refine Part.cons (by repeat (first | exact Pick.here | apply Pick.there)) ?_ | refine Part.free ?_)) ?_)
      (refine WE.order [9] (by repeat (first | exact Part.nil | refine Part.cons (by repeat (first | exact Pick.here | apply Pick.there)) ?_ | refine Part.free ?_)) (by kernel_rfl) ?_; (repeat (first | (refine WU.k_fld rfl ?_; refine WU.take rfl rfl (fun _ _ _ h => h) (Yl.fld0 (t := 32) Try.underlying32 fl32 rfl rfl) rfl (by kernel_rfl) (by kernel_rfl) (by kernel_rfl) ?_))); refine WU.nil ?_)
      refine WE.only (i := 10) (by kernel_rfl) rfl fun sh => ?_
      refine WL.storeAt (T := 29) Try.sizeOf29 rfl rfl rfl (by repeat (first | exact Pick.here | apply Pick.there)) rfl ?_
      refine WL.nil (WN.lastE (by kernel_rfl) sh ?_)
      refine WE.done (by kernel_rfl) ?_
      (repeat (first | refine WL.step (Yl.move rfl) rfl ?_ | refine WL.step (Yl.assign rfl) rfl ?_ | (refine WL.k_bin .add ?_; refine WL.step (Yl.add64C rfl (by omega)) rfl ?_) | refine WC.region ?_ | refine WL.nil ?_ | refine WN.then_normal ?_ | refine WN.block_normal ?_))
      exact WN.next (i + 1, q2) ⟨by simp only; omega, hq2⟩ (by simp only; omega) (by repeat (first | exact Sub.nil | refine Sub.cons rfl rfl ?_)) (by repeat (first | exact Part.nil | refine Part.cons (by repeat (first | exact Pick.here | apply Pick.there)) ?_ | refine Part.free ?_))
    · obtain rfl : i = x.ks.length := by omega
      rw [List.take_length]
      (repeat (first | refine WC.exit ?_ | refine WN.then_exit ?_ | refine WN.block_here ?_))
      exact WN.join (a, ac) ha (by repeat (first | exact Sub.nil | refine Sub.cons rfl rfl ?_)) (by repeat (first | exact Part.nil | refine Part.cons (by repeat (first | exact Pick.here | apply Pick.there)) ?_ | refine Part.free ?_))
  · intro ⟨ka, kc⟩ hkc
    simp only at hkc ⊢
    (repeat (first | refine WL.step (Yl.assign rfl) rfl ?_ | refine WC.seq ?_ | refine WC.region ?_ | refine WL.nil ?_ | refine WN.then_normal ?_ | refine WC.block ?_))
    refine WC.joinB (α := Option Addr × Nat) (fun g => [(1, .pointer (some ⟨b1, 0, none⟩)), (2, .pointer (some ⟨b2, 0, none⟩)), (3, .pointer (some ⟨b3, 0, none⟩))])
      (fun g => [.row g.1 g.2 78 20 (vcells x.vs), .row ka kc 45 33 (kcells x.ks), .blk b3 (.cells #[.bool x.leaf, .slice ka x.ks.length kc, .slice g.1 x.vs.length g.2, .slice p.ca x.cs.length p.cc] 32 (0, 0)), .blk b2 (.cells #[.bool false, .slice none 0 0, .slice none 0 0, .slice none 0 0] 32 (0, 0))]) (fun g => x.vs.length ≤ g.2) ?_ ?_
    · refine WC.loop (α := Nat × Option Addr × Nat) (fun g => [(1, .pointer (some ⟨b1, 0, none⟩)), (2, .pointer (some ⟨b2, 0, none⟩)), (3, .pointer (some ⟨b3, 0, none⟩)), (5, .int .i64 (g.1 : Int))])
        (fun g => [.row g.2.1 g.2.2 78 20 (vcells (x.vs.take g.1)), .row ka kc 45 33 (kcells x.ks), .blk b3 (.cells #[.bool x.leaf, .slice ka x.ks.length kc, .slice g.2.1 g.1 g.2.2, .slice p.ca x.cs.length p.cc] 32 (0, 0)), .blk b1 (.cells (ndl x p).toArray 26 (0, 0)), .blk b2 (.cells #[.bool false, .slice none 0 0, .slice none 0 0, .slice none 0 0] 32 (0, 0))]) (fun g => g.1 ≤ x.vs.length ∧ g.1 ≤ g.2.2) (fun g => x.vs.length - g.1) (0, none, 0) (by repeat (first | exact Sub.nil | refine Sub.cons rfl rfl ?_)) (.free (by repeat (first | exact Part.nil | refine Part.cons (by repeat (first | exact Pick.here | apply Pick.there)) ?_ | refine Part.free ?_))) ⟨by simp, by simp⟩ ?_
      intro ⟨i, a, ac⟩ ⟨hi, ha⟩
      simp only at hi ha ⊢
      (repeat (first | refine WL.step (Yl.move rfl) rfl ?_ | (refine WL.k_load ?_; refine WL.step (Yl.loadBlk (T := 23) Try.isAgg23 rfl (by repeat (first | exact .head _ | refine .tail _ ?_)) (by rfl)) rfl ?_) | refine WL.step (Yl.fld0 (t := 26) Try.underlying26 fl26 rfl rfl) rfl ?_ | refine WL.step (Yl.len (t := 23) Try.underlying23 rfl) rfl ?_ | refine WL.step (Yl.lss rfl rfl) rfl ?_ | refine WC.seq ?_ | refine WC.region ?_ | refine WL.nil ?_ | refine WN.then_normal ?_))
      refine WC.ite rfl (fun h2 => ?_) (fun h2 => ?_)
      · have hil : i < x.vs.length := by omega
        have hvw := val_len hx.vs hil
        have hne : bs (x.vs.getD i []) ≠ [] := by intro e; have := bs_length (x.vs.getD i []); rw [e, hvw] at this; simp at this
        have htl := vcells_len (l := x.vs.take i) (fun k hk => hx.vs k (List.mem_of_mem_take hk))
        (repeat (first | refine WC.seq ?_ | refine WN.then_normal ?_ | refine WC.block ?_ | refine WC.skip ?_))
        refine WC.regionE [.blk b3 (.cells #[.bool x.leaf, .slice ka x.ks.length kc, .slice a i ac, .slice p.ca x.cs.length p.cc] 32 (0, 0)), .blk b1 (.cells (ndl x p).toArray 26 (0, 0))] 10 (by kernel_rfl) ?_
        (refine WE.order [0, 1, 2, 3, 4, 5, 6] (by repeat (first | exact Part.nil | refine Part.cons (by repeat (first | exact Pick.here | apply Pick.there)) ?_ | refine Part.free ?_)) (by kernel_rfl) ?_; (repeat (first | (refine WU.k_move rfl ?_; refine WU.take rfl rfl (fun _ _ _ h => h) (Yl.move rfl) rfl (by kernel_rfl) (by kernel_rfl) (by kernel_rfl) ?_) | (refine WU.k_load rfl ?_; first | refine WU.take rfl rfl (fun _ _ _ h => h) (Yl.loadBlk (T := 23) Try.isAgg23 rfl (by repeat (first | exact .head _ | refine .tail _ ?_)) (by rfl)) rfl (by kernel_rfl) (by kernel_rfl) (by kernel_rfl) ?_ | refine WU.take rfl rfl (fun _ _ _ h => h) (Yl.loadBlk (T := 30) Try.isAgg30 rfl (by repeat (first | exact .head _ | refine .tail _ ?_)) (by rfl)) rfl (by kernel_rfl) (by kernel_rfl) (by kernel_rfl) ?_ | refine WU.take rfl rfl (fun _ _ _ h => h) (Yl.loadEl (bs (x.vs.getD i [])) Try.isAgg73 Try.sizeOf73 rfl (.old h.vs) (by rw [bs_length, hvw]) hne (vcells_at hx.vs hil)) rfl (by kernel_rfl) (by kernel_rfl) (by kernel_rfl) ?_) | (refine WU.k_fld rfl ?_; first | refine WU.take rfl rfl (fun _ _ _ h => h) (Yl.fld0 (t := 26) Try.underlying26 fl26 rfl rfl) rfl (by kernel_rfl) (by kernel_rfl) (by kernel_rfl) ?_ | refine WU.take rfl rfl (fun _ _ _ h => h) (Yl.fld0 (t := 32) Try.underlying32 fl32 rfl rfl) rfl (by kernel_rfl) (by kernel_rfl) (by kernel_rfl) ?_) | (refine WU.k_idxa rfl ?_; refine WU.take rfl rfl (fun _ _ _ h => h) (Yl.indexAddr (t := 23) Try.underlying23 Try.sizeOf73 rfl rfl (.old h.vs) (vcells_ne hx.vs hil) (by omega)) rfl (by kernel_rfl) (by kernel_rfl) (by kernel_rfl) ?_))); refine WU.nil ?_)
        refine WE.only (i := 7) (by kernel_rfl) rfl fun sh => ?_
        refine WL.lit (t := 30) Try.underlying30 elemRVal rfl rfl rfl (by intro u hu; rw [List.mem_singleton.1 hu]; show (bs (x.vs.getD i [])).toArray.size = 20; rw [List.size_toArray, bs_length, hvw]) rfl fun b9 => ?_
        rw [flatV]
        refine WL.nil (WN.nextE sh (by repeat (first | exact Part.nil | refine Part.cons (by repeat (first | exact Pick.here | apply Pick.there)) ?_ | refine Part.free ?_)) ?_)
        refine WE.only (i := 8) (by kernel_rfl) rfl fun sh => ?_
        refine WL.appendRow (t := 30) (n := i) (m := 1) (olds := vcells (x.vs.take i)) Try.underlying30 elemRVal rfl rfl (by repeat (first | exact Pick.here | apply Pick.there)) (by rw [htl, List.length_take]; omega) ha (Rd.row (.head _)) (by rw [bs_length, hvw]) (bs_one _) (by omega) (by simp only [maxLen]; omega) rfl fun q2 hq2 => ?_
        rw [← vcells_snoc, ← take_snoc _ _ hil]
        refine WL.nil (WN.nextE sh (by repeat (first | exact Part.nil | refine Part.cons (by repeat (first | exact Pick.here | apply Pick.there)) ?_ | refine Part.free ?_)) ?_)
        (refine WE.order [9] (by repeat (first | exact Part.nil | refine Part.cons (by repeat (first | exact Pick.here | apply Pick.there)) ?_ | refine Part.free ?_)) (by kernel_rfl) ?_; (repeat (first | (refine WU.k_fld rfl ?_; refine WU.take rfl rfl (fun _ _ _ h => h) (Yl.fld0 (t := 32) Try.underlying32 fl32 rfl rfl) rfl (by kernel_rfl) (by kernel_rfl) (by kernel_rfl) ?_))); refine WU.nil ?_)
        refine WE.only (i := 10) (by kernel_rfl) rfl fun sh => ?_
        refine WL.storeAt (T := 30) Try.sizeOf30 rfl rfl rfl (by repeat (first | exact Pick.here | apply Pick.there)) rfl ?_
        refine WL.nil (WN.lastE (by kernel_rfl) sh ?_)
        refine WE.done (by kernel_rfl) ?_
        (repeat (first | refine WL.step (Yl.move rfl) rfl ?_ | refine WL.step (Yl.assign rfl) rfl ?_ | (refine WL.k_bin .add ?_; refine WL.step (Yl.add64C rfl (by omega)) rfl ?_) | refine WC.region ?_ | refine WL.nil ?_ | refine WN.then_normal ?_ | refine WN.block_normal ?_))
        exact WN.next (i + 1, q2) ⟨by simp only; omega, hq2⟩ (by simp only; omega) (by repeat (first | exact Sub.nil | refine Sub.cons rfl rfl ?_)) (by repeat (first | exact Part.nil | refine Part.cons (by repeat (first | exact Pick.here | apply Pick.there)) ?_ | refine Part.free ?_))
      · obtain rfl : i = x.vs.length := by omega
        rw [List.take_length]
        (repeat (first | refine WC.exit ?_ | refine WN.then_exit ?_ | refine WN.block_here ?_))
        exact WN.join (a, ac) ha (by repeat (first | exact Sub.nil | refine Sub.cons rfl rfl ?_)) (by repeat (first | exact Part.nil | refine Part.cons (by repeat (first | exact Pick.here | apply Pick.there)) ?_ | refine Part.free ?_))
    · intro ⟨va, vc⟩ hvc
      simp only at hvc ⊢
      (repeat (first | (refine WL.k_load ?_; refine WL.step (Yl.loadAll (T := 32) (T' := 32) Try.isAgg32 Try.sizeOf32 rfl (by repeat (first | exact .head _ | refine .tail _ ?_)) rfl) rfl ?_) | refine WC.seq ?_ | refine WC.region ?_))
      refine WL.storeWhole (T := 32) (k := 4) Try.sizeOf32 rfl rfl rfl (by repeat (first | exact Pick.here | apply Pick.there)) rfl rfl ?_
      (repeat (first | refine WL.nil ?_ | refine WN.then_normal ?_ | refine WC.ret ?_))
      exact WN.ret1C rfl Try.isAgg32 Try.sizeOf32 rfl (by repeat (first | exact .head _ | refine .tail _ ?_)) rfl ⟨(ka, kc), (va, vc), hkc, hvc, rfl, rfl⟩ (.cons (by repeat (first | exact Pick.here | apply Pick.there)) (.cons (by repeat (first | exact Pick.here | apply Pick.there)) .nil))
theorem rsame_c (x y : Nod.N) (p q : Pl) (w : World) (hx : x.Wf) (hy : y.Wf) (h : NdAt w x p) (g : NdAt w y q) : Calls Try.prog 22 #[ndv x p, ndv y q] w (Gives (Val (.bool (decide (x = y)))) w) := by
  have hkl := hx.kl
  have hvl := hx.vl
  have hcl := hx.cl
  refine enter (args := [_, _]) Try.func22 Try.ntmps22 rfl rfl ?_
  (repeat (first | refine WL.boxA (cs := (ndl x p).toArray) rfl rfl fun b1 => ?_ | refine WC.seq ?_ | refine WC.region ?_))
  refine WL.boxA (cs := (ndl y q).toArray) rfl rfl fun b2 => ?_
  by_cases e1 : x.leaf = y.leaf
  · by_cases e2 : x.ks.length = y.ks.length
    · by_cases e3 : x.vs.length = y.vs.length
      · by_cases e4 : x.cs.length = y.cs.length
        · (repeat (first | refine WL.want rfl rfl rfl ?_ | refine WL.step (Yl.move rfl) rfl ?_ | refine WL.step (Yl.assign rfl) rfl ?_ | (refine WL.k_load ?_; first | refine WL.step (Yl.loadBlk (T := 4) Try.isAgg4 rfl (by repeat (first | exact .head _ | refine .tail _ ?_)) (by rfl)) rfl ?_ | refine WL.step (Yl.loadBlk (T := 29) Try.isAgg29 rfl (by repeat (first | exact .head _ | refine .tail _ ?_)) (by rfl)) rfl ?_ | refine WL.step (Yl.loadBlk (T := 30) Try.isAgg30 rfl (by repeat (first | exact .head _ | refine .tail _ ?_)) (by rfl)) rfl ?_ | refine WL.step (Yl.loadBlk (T := 24) Try.isAgg24 rfl (by repeat (first | exact .head _ | refine .tail _ ?_)) (by rfl)) rfl ?_) | refine WL.step (Yl.fld0 (t := 32) Try.underlying32 fl32 rfl rfl) rfl ?_ | refine WL.step (Yl.pick_f rfl rfl rfl) rfl ?_ | (refine WL.k_bi .len ?_; first | refine WL.step (Yl.len (t := 29) Try.underlying29 rfl) rfl ?_ | refine WL.step (Yl.len (t := 30) Try.underlying30 rfl) rfl ?_ | refine WL.step (Yl.len (t := 24) Try.underlying24 rfl) rfl ?_) | (refine WL.k_bin .neq ?_; first | refine WL.step (Yl.neqBv (b := false) Try.underlying4 rfl rfl (by simpa using e1)) rfl ?_ | refine WL.step (Yl.neqF rfl rfl (by omega)) rfl ?_) | refine WC.seq ?_ | refine WC.region ?_ | refine WL.nil ?_ | refine WN.then_normal ?_))
          refine WC.cond_false rfl rfl ?_
          (repeat (first | refine WL.step (Yl.assign rfl) rfl ?_ | refine WC.seq ?_ | refine WC.region ?_ | refine WL.nil ?_ | refine WN.then_normal ?_ | refine WC.block ?_ | refine WC.skip ?_))
          refine WC.joinB (α := Unit) (fun _ => [(2, .pointer (some ⟨b1, 0, none⟩)), (3, .pointer (some ⟨b2, 0, none⟩))]) (fun _ => [.blk b2 (.cells (ndl y q).toArray 32 (0, 0)), .blk b1 (.cells (ndl x p).toArray 32 (0, 0))]) (fun _ => x.ks = y.ks) ?_ (fun _ e5 => ?_)
          · refine WC.loop (α := Nat) (fun i => [(2, .pointer (some ⟨b1, 0, none⟩)), (3, .pointer (some ⟨b2, 0, none⟩)), (5, .int .i64 (i : Int))]) (fun _ => [.blk b2 (.cells (ndl y q).toArray 32 (0, 0)), .blk b1 (.cells (ndl x p).toArray 32 (0, 0))])
              (fun i => i ≤ x.ks.length ∧ ∀ j, j < i → Nod.key x.ks j = Nod.key y.ks j) (fun i => x.ks.length - i) 0 (by repeat (first | exact Sub.nil | refine Sub.cons rfl rfl ?_)) (by repeat (first | exact Part.nil | refine Part.cons (by repeat (first | exact Pick.here | apply Pick.there)) ?_ | refine Part.free ?_)) ⟨by omega, by omega⟩ ?_
            intro i ⟨hi, hz⟩
            (repeat (first | refine WL.step (Yl.move rfl) rfl ?_ | (refine WL.k_load ?_; refine WL.step (Yl.loadBlk (T := 29) Try.isAgg29 rfl (by repeat (first | exact .head _ | refine .tail _ ?_)) (by rfl)) rfl ?_) | refine WL.step (Yl.fld0 (t := 32) Try.underlying32 fl32 rfl rfl) rfl ?_ | refine WL.step (Yl.len (t := 29) Try.underlying29 rfl) rfl ?_ | refine WL.step (Yl.lss rfl rfl) rfl ?_ | refine WC.seq ?_ | refine WC.region ?_ | refine WL.nil ?_ | refine WN.then_normal ?_))
            refine WC.ite rfl (fun h1 => ?_) (fun h1 => ?_)
            · have hil : i < x.ks.length := by omega
              have hiy : i < y.ks.length := by omega
              have hkw := hx.ks _ (key_mem hil)
              have hkv := hy.ks _ (key_mem hiy)
              (repeat (first | refine WC.seq ?_ | refine WN.then_normal ?_ | refine WC.block ?_ | refine WC.skip ?_))
              refine WC.regionQ (by kernel_rfl) (by kernel_rfl) ?_
              (repeat (first | refine WQ.step (Yl.fld0 (t := 32) Try.underlying32 fl32 rfl rfl) rfl ?_ | refine WQ.step (Yl.loadBlk (T := 29) Try.isAgg29 rfl (by repeat (first | exact .head _ | refine .tail _ ?_)) (by rfl)) rfl ?_ | refine WQ.step (Yl.indexAddr (t := 29) Try.underlying29 Try.sizeOf45 rfl rfl (.old h.ks) (kcells_ne hil) (by omega)) rfl ?_ | refine WQ.step (Yl.indexAddr (t := 29) Try.underlying29 Try.sizeOf45 rfl rfl (.old g.ks) (kcells_ne hiy) (by omega)) rfl ?_ | refine WQ.step (Yl.loadEl (kv (Nod.key x.ks i)) Try.isAgg45 Try.sizeOf45 rfl (.old h.ks) (kv_len hkw) (kv_ne _) (kcells_at hx.ks hil)) rfl ?_ | refine WQ.step (Yl.loadEl (kv (Nod.key y.ks i)) Try.isAgg45 Try.sizeOf45 rfl (.old g.ks) (kv_len hkv) (kv_ne _) (kcells_at hy.ks hiy)) rfl ?_ | refine WQ.step (Yl.neqK rkeyT rfl rfl hkw.2 hkv.2) rfl ?_ | refine WQ.step (Yl.move rfl) rfl ?_ | refine WQ.nil ?_))
              (repeat (first | refine WN.then_normal ?_))
              refine WC.cond rfl (fun h2 => ?_) (fun h2 => ?_)
              · have h3 : ¬ (((Nod.key x.ks i).n : Int) = ((Nod.key y.ks i).n : Int) ∧ (Nod.key x.ks i).d = (Nod.key y.ks i).d) := of_decide_eq_false (Bool.not_eq_true' _ ▸ h2)
                rw [decide_eq_false (p := x = y) fun e => h3 (by rw [e]; exact ⟨rfl, rfl⟩)]
                (repeat (first | refine WL.step (Yl.assign rfl) rfl ?_ | refine WC.seq ?_ | refine WC.region ?_ | refine WL.nil ?_ | refine WN.then_normal ?_ | refine WC.ret ?_ | refine WN.then_ret ?_ | refine WN.block_ret ?_))
                exact WN.ret1 rfl rfl ⟨rfl, rfl⟩ .nil
              · have h3 : ((Nod.key x.ks i).n : Int) = ((Nod.key y.ks i).n : Int) ∧ (Nod.key x.ks i).d = (Nod.key y.ks i).d := of_decide_eq_true (Bool.not_eq_false' _ ▸ h2)
                (repeat (first | refine WL.step (Yl.move rfl) rfl ?_ | refine WL.step (Yl.assign rfl) rfl ?_ | (refine WL.k_bin .add ?_; refine WL.step (Yl.add64C rfl (by omega)) rfl ?_) | refine WC.region ?_ | refine WL.nil ?_ | refine WN.then_normal ?_ | refine WC.skip ?_ | refine WN.block_normal ?_))
                exact WN.next (i + 1) ⟨by omega, fun j hj => by rcases Nat.lt_or_ge j i with h | h; exact hz j h; rw [show j = i by omega]; exact k_eq h3⟩ (by omega) (by repeat (first | exact Sub.nil | refine Sub.cons rfl rfl ?_)) (by repeat (first | exact Part.nil | refine Part.cons (by repeat (first | exact Pick.here | apply Pick.there)) ?_ | refine Part.free ?_))
            · (repeat (first | refine WC.exit ?_ | refine WN.then_exit ?_ | refine WN.block_here ?_))
              exact WN.join () (list_eq_of default e2 fun j hj => hz j (by omega)) (by repeat (first | exact Sub.nil | refine Sub.cons rfl rfl ?_)) (by repeat (first | exact Part.nil | refine Part.cons (by repeat (first | exact Pick.here | apply Pick.there)) ?_ | refine Part.free ?_))
          · (repeat (first | refine WL.step (Yl.assign rfl) rfl ?_ | refine WC.seq ?_ | refine WC.region ?_ | refine WL.nil ?_ | refine WN.then_normal ?_ | refine WC.block ?_))
            refine WC.joinB (α := Unit) (fun _ => [(2, .pointer (some ⟨b1, 0, none⟩)), (3, .pointer (some ⟨b2, 0, none⟩))]) (fun _ => [.blk b2 (.cells (ndl y q).toArray 32 (0, 0)), .blk b1 (.cells (ndl x p).toArray 32 (0, 0))]) (fun _ => x.vs = y.vs) ?_ (fun _ e6 => ?_)
            · refine WC.loop (α := Nat) (fun i => [(2, .pointer (some ⟨b1, 0, none⟩)), (3, .pointer (some ⟨b2, 0, none⟩)), (6, .int .i64 (i : Int))]) (fun _ => [.blk b2 (.cells (ndl y q).toArray 32 (0, 0)), .blk b1 (.cells (ndl x p).toArray 32 (0, 0))])
                (fun i => i ≤ x.vs.length ∧ ∀ j, j < i → x.vs.getD j [] = y.vs.getD j []) (fun i => x.vs.length - i) 0 (by repeat (first | exact Sub.nil | refine Sub.cons rfl rfl ?_)) (by repeat (first | exact Part.nil | refine Part.cons (by repeat (first | exact Pick.here | apply Pick.there)) ?_ | refine Part.free ?_)) ⟨by omega, by omega⟩ ?_
              intro i ⟨hi, hz⟩
              (repeat (first | refine WL.step (Yl.move rfl) rfl ?_ | (refine WL.k_load ?_; refine WL.step (Yl.loadBlk (T := 30) Try.isAgg30 rfl (by repeat (first | exact .head _ | refine .tail _ ?_)) (by rfl)) rfl ?_) | refine WL.step (Yl.fld0 (t := 32) Try.underlying32 fl32 rfl rfl) rfl ?_ | refine WL.step (Yl.len (t := 30) Try.underlying30 rfl) rfl ?_ | refine WL.step (Yl.lss rfl rfl) rfl ?_ | refine WC.seq ?_ | refine WC.region ?_ | refine WL.nil ?_ | refine WN.then_normal ?_))
              refine WC.ite rfl (fun h1 => ?_) (fun h1 => ?_)
              · have hil : i < x.vs.length := by omega
                have hiy : i < y.vs.length := by omega
                have hkw := val_len hx.vs hil
                have hkv := val_len hy.vs hiy
                have hne : bs (x.vs.getD i []) ≠ [] := by intro e; have := bs_length (x.vs.getD i []); rw [e, hkw] at this; simp at this
                have hne2 : bs (y.vs.getD i []) ≠ [] := by intro e; have := bs_length (y.vs.getD i []); rw [e, hkv] at this; simp at this
                (repeat (first | refine WC.seq ?_ | refine WN.then_normal ?_ | refine WC.block ?_ | refine WC.skip ?_))
                refine WC.regionQ (by kernel_rfl) (by kernel_rfl) ?_
                (repeat (first | refine WQ.step (Yl.fld0 (t := 32) Try.underlying32 fl32 rfl rfl) rfl ?_ | refine WQ.step (Yl.loadBlk (T := 30) Try.isAgg30 rfl (by repeat (first | exact .head _ | refine .tail _ ?_)) (by rfl)) rfl ?_ | refine WQ.step (Yl.indexAddr (t := 30) Try.underlying30 Try.sizeOf78 rfl rfl (.old h.vs) (vcells_ne hx.vs hil) (by omega)) rfl ?_ | refine WQ.step (Yl.indexAddr (t := 30) Try.underlying30 Try.sizeOf78 rfl rfl (.old g.vs) (vcells_ne hy.vs hiy) (by omega)) rfl ?_ | refine WQ.step (Yl.loadEl (bs (x.vs.getD i [])) Try.isAgg78 Try.sizeOf78 rfl (.old h.vs) (by rw [bs_length, hkw]) hne (vcells_at hx.vs hil)) rfl ?_ | refine WQ.step (Yl.loadEl (bs (y.vs.getD i [])) Try.isAgg78 Try.sizeOf78 rfl (.old g.vs) (by rw [bs_length, hkv]) hne2 (vcells_at hy.vs hiy)) rfl ?_ | refine WQ.step (Yl.neqA rvalT rfl rfl hkw hkv) rfl ?_ | refine WQ.step (Yl.move rfl) rfl ?_ | refine WQ.nil ?_))
                (repeat (first | refine WN.then_normal ?_))
                refine WC.cond rfl (fun h2 => ?_) (fun h2 => ?_)
                · have h3 : ¬ (x.vs.getD i [] = y.vs.getD i []) := of_decide_eq_false (Bool.not_eq_true' _ ▸ h2)
                  rw [decide_eq_false (p := x = y) fun e => h3 (by rw [e])]
                  (repeat (first | refine WL.step (Yl.assign rfl) rfl ?_ | refine WC.seq ?_ | refine WC.region ?_ | refine WL.nil ?_ | refine WN.then_normal ?_ | refine WC.ret ?_ | refine WN.then_ret ?_ | refine WN.block_ret ?_))
                  exact WN.ret1 rfl rfl ⟨rfl, rfl⟩ .nil
                · have h3 : x.vs.getD i [] = y.vs.getD i [] := of_decide_eq_true (Bool.not_eq_false' _ ▸ h2)
                  (repeat (first | refine WL.step (Yl.move rfl) rfl ?_ | refine WL.step (Yl.assign rfl) rfl ?_ | (refine WL.k_bin .add ?_; refine WL.step (Yl.add64C rfl (by omega)) rfl ?_) | refine WC.region ?_ | refine WL.nil ?_ | refine WN.then_normal ?_ | refine WC.skip ?_ | refine WN.block_normal ?_))
                  exact WN.next (i + 1) ⟨by omega, fun j hj => by rcases Nat.lt_or_ge j i with h | h; exact hz j h; rw [show j = i by omega]; exact h3⟩ (by omega) (by repeat (first | exact Sub.nil | refine Sub.cons rfl rfl ?_)) (by repeat (first | exact Part.nil | refine Part.cons (by repeat (first | exact Pick.here | apply Pick.there)) ?_ | refine Part.free ?_))
              · (repeat (first | refine WC.exit ?_ | refine WN.then_exit ?_ | refine WN.block_here ?_))
                exact WN.join () (list_eq_of [] e3 fun j hj => hz j (by omega)) (by repeat (first | exact Sub.nil | refine Sub.cons rfl rfl ?_)) (by repeat (first | exact Part.nil | refine Part.cons (by repeat (first | exact Pick.here | apply Pick.there)) ?_ | refine Part.free ?_))
            · (repeat (first | refine WL.step (Yl.assign rfl) rfl ?_ | refine WC.seq ?_ | refine WC.region ?_ | refine WL.nil ?_ | refine WN.then_normal ?_ | refine WC.block ?_))
              refine WC.loop (α := Nat) (fun i => [(2, .pointer (some ⟨b1, 0, none⟩)), (3, .pointer (some ⟨b2, 0, none⟩)), (7, .int .i64 (i : Int))]) (fun _ => [.blk b2 (.cells (ndl y q).toArray 32 (0, 0)), .blk b1 (.cells (ndl x p).toArray 32 (0, 0))])
                (fun i => i ≤ x.cs.length ∧ ∀ j, j < i → x.cs.getD j 0 = y.cs.getD j 0) (fun i => x.cs.length - i) 0 (by repeat (first | exact Sub.nil | refine Sub.cons rfl rfl ?_)) (by repeat (first | exact Part.nil | refine Part.cons (by repeat (first | exact Pick.here | apply Pick.there)) ?_ | refine Part.free ?_)) ⟨by omega, by omega⟩ ?_
              intro i ⟨hi, hz⟩
              (repeat (first | refine WL.step (Yl.move rfl) rfl ?_ | (refine WL.k_load ?_; refine WL.step (Yl.loadBlk (T := 24) Try.isAgg24 rfl (by repeat (first | exact .head _ | refine .tail _ ?_)) (by rfl)) rfl ?_) | refine WL.step (Yl.fld0 (t := 32) Try.underlying32 fl32 rfl rfl) rfl ?_ | refine WL.step (Yl.len (t := 24) Try.underlying24 rfl) rfl ?_ | refine WL.step (Yl.lss rfl rfl) rfl ?_ | refine WC.seq ?_ | refine WC.region ?_ | refine WL.nil ?_ | refine WN.then_normal ?_))
              refine WC.ite rfl (fun h1 => ?_) (fun h1 => ?_)
              · have hil : i < x.cs.length := by omega
                have hiy : i < y.cs.length := by omega
                (repeat (first | refine WC.seq ?_ | refine WN.then_normal ?_ | refine WC.block ?_ | refine WC.skip ?_))
                refine WC.regionQ (by kernel_rfl) (by kernel_rfl) ?_
                (repeat (first | refine WQ.step (Yl.fld0 (t := 32) Try.underlying32 fl32 rfl rfl) rfl ?_ | refine WQ.step (Yl.loadBlk (T := 24) Try.isAgg24 rfl (by repeat (first | exact .head _ | refine .tail _ ?_)) (by rfl)) rfl ?_ | refine WQ.step (Yl.indexAddr1 (t := 24) Try.underlying24 Try.sizeOf3 rfl rfl (.old h.cs) (icells_ne hil) (by omega)) rfl ?_ | refine WQ.step (Yl.indexAddr1 (t := 24) Try.underlying24 Try.sizeOf3 rfl rfl (.old g.cs) (icells_ne hiy) (by omega)) rfl ?_ | refine WQ.step (Yl.load (T := 3) Try.isAgg3 rfl (.old h.cs) (icells_at hil)) rfl ?_ | refine WQ.step (Yl.load (T := 3) Try.isAgg3 rfl (.old g.cs) (icells_at hiy)) rfl ?_ | refine WQ.step (Yl.move rfl) rfl ?_ | refine WQ.step (Yl.neq rfl rfl) rfl ?_ | refine WQ.nil ?_))
                (repeat (first | refine WN.then_normal ?_))
                refine WC.ite rfl (fun h3 => ?_) (fun h3 => ?_)
                · rw [decide_eq_false (p := x = y) fun e => h3 (by rw [e])]
                  (repeat (first | refine WL.step (Yl.assign rfl) rfl ?_ | refine WC.seq ?_ | refine WC.region ?_ | refine WL.nil ?_ | refine WN.then_normal ?_ | refine WC.ret ?_ | refine WN.then_ret ?_ | refine WN.block_ret ?_))
                  exact WN.ret1 rfl rfl ⟨rfl, rfl⟩ .nil
                · (repeat (first | refine WL.step (Yl.move rfl) rfl ?_ | refine WL.step (Yl.assign rfl) rfl ?_ | (refine WL.k_bin .add ?_; refine WL.step (Yl.add64C rfl (by omega)) rfl ?_) | refine WC.region ?_ | refine WL.nil ?_ | refine WN.then_normal ?_ | refine WC.skip ?_ | refine WN.block_normal ?_))
                  exact WN.next (i + 1) ⟨by omega, fun j hj => by rcases Nat.lt_or_ge j i with h | h; exact hz j h; rw [show j = i by omega]; exact Decidable.not_not.1 h3⟩ (by omega) (by repeat (first | exact Sub.nil | refine Sub.cons rfl rfl ?_)) (by repeat (first | exact Part.nil | refine Part.cons (by repeat (first | exact Pick.here | apply Pick.there)) ?_ | refine Part.free ?_))
              · have e7 : x.cs = y.cs := list_eq_of 0 e4 fun j hj => hz j (by omega)
                rw [decide_eq_true (p := x = y) (by cases x; cases y; simp only [Nod.N.mk.injEq] at *; exact ⟨e1, e5, e6, e7⟩)]
                (repeat (first | refine WL.step (Yl.assign rfl) rfl ?_ | refine WC.seq ?_ | refine WC.region ?_ | refine WL.nil ?_ | refine WN.then_normal ?_ | refine WC.exit ?_ | refine WC.ret ?_ | refine WN.then_exit ?_ | refine WN.block_here ?_))
                exact WN.ret1 rfl rfl ⟨rfl, rfl⟩ .nil
        · rw [decide_eq_false (p := x = y) fun e => e4 (by rw [e])]
          (repeat (first | refine WL.want rfl rfl rfl ?_ | refine WL.step (Yl.move rfl) rfl ?_ | refine WL.step (Yl.assign rfl) rfl ?_ | (refine WL.k_load ?_; first | refine WL.step (Yl.loadBlk (T := 4) Try.isAgg4 rfl (by repeat (first | exact .head _ | refine .tail _ ?_)) (by rfl)) rfl ?_ | refine WL.step (Yl.loadBlk (T := 29) Try.isAgg29 rfl (by repeat (first | exact .head _ | refine .tail _ ?_)) (by rfl)) rfl ?_ | refine WL.step (Yl.loadBlk (T := 30) Try.isAgg30 rfl (by repeat (first | exact .head _ | refine .tail _ ?_)) (by rfl)) rfl ?_ | refine WL.step (Yl.loadBlk (T := 24) Try.isAgg24 rfl (by repeat (first | exact .head _ | refine .tail _ ?_)) (by rfl)) rfl ?_) | refine WL.step (Yl.fld0 (t := 32) Try.underlying32 fl32 rfl rfl) rfl ?_ | refine WL.step (Yl.pick_f rfl rfl rfl) rfl ?_ | (refine WL.k_bi .len ?_; first | refine WL.step (Yl.len (t := 29) Try.underlying29 rfl) rfl ?_ | refine WL.step (Yl.len (t := 30) Try.underlying30 rfl) rfl ?_ | refine WL.step (Yl.len (t := 24) Try.underlying24 rfl) rfl ?_) | (refine WL.k_bin .neq ?_; first | refine WL.step (Yl.neqBv (b := false) Try.underlying4 rfl rfl (by simpa using e1)) rfl ?_ | refine WL.step (Yl.neqT rfl rfl (by omega)) rfl ?_ | refine WL.step (Yl.neqF rfl rfl (by omega)) rfl ?_) | refine WC.seq ?_ | refine WC.region ?_ | refine WL.nil ?_ | refine WN.then_normal ?_))
          refine WC.cond_true rfl rfl ?_
          (repeat (first | refine WL.step (Yl.assign rfl) rfl ?_ | refine WC.seq ?_ | refine WC.region ?_ | refine WL.nil ?_ | refine WN.then_normal ?_ | refine WC.ret ?_ | refine WN.then_ret ?_))
          exact WN.ret1 rfl rfl ⟨rfl, rfl⟩ .nil
      · rw [decide_eq_false (p := x = y) fun e => e3 (by rw [e])]
        (repeat (first | (refine WL.kG ?_; first | refine WL.want rfl rfl rfl ?_ | refine WL.pass rfl rfl rfl rfl ?_) | refine WL.step (Yl.move rfl) rfl ?_ | refine WL.step (Yl.assign rfl) rfl ?_ | (refine WL.k_load ?_; first | refine WL.step (Yl.loadBlk (T := 4) Try.isAgg4 rfl (by repeat (first | exact .head _ | refine .tail _ ?_)) (by rfl)) rfl ?_ | refine WL.step (Yl.loadBlk (T := 29) Try.isAgg29 rfl (by repeat (first | exact .head _ | refine .tail _ ?_)) (by rfl)) rfl ?_ | refine WL.step (Yl.loadBlk (T := 30) Try.isAgg30 rfl (by repeat (first | exact .head _ | refine .tail _ ?_)) (by rfl)) rfl ?_) | refine WL.step (Yl.fld0 (t := 32) Try.underlying32 fl32 rfl rfl) rfl ?_ | (refine WL.k_pick ?_; first | refine WL.step (Yl.pick_t rfl rfl rfl) rfl ?_ | refine WL.step (Yl.pick_f rfl rfl rfl) rfl ?_) | (refine WL.k_bi .len ?_; first | refine WL.step (Yl.len (t := 29) Try.underlying29 rfl) rfl ?_ | refine WL.step (Yl.len (t := 30) Try.underlying30 rfl) rfl ?_) | (refine WL.k_bin .neq ?_; first | refine WL.step (Yl.neqBv (b := false) Try.underlying4 rfl rfl (by simpa using e1)) rfl ?_ | refine WL.step (Yl.neqT rfl rfl (by omega)) rfl ?_ | refine WL.step (Yl.neqF rfl rfl (by omega)) rfl ?_) | refine WC.seq ?_ | refine WC.region ?_ | refine WL.nil ?_ | refine WN.then_normal ?_))
        refine WC.cond_true rfl rfl ?_
        (repeat (first | refine WL.step (Yl.assign rfl) rfl ?_ | refine WC.seq ?_ | refine WC.region ?_ | refine WL.nil ?_ | refine WN.then_normal ?_ | refine WC.ret ?_ | refine WN.then_ret ?_))
        exact WN.ret1 rfl rfl ⟨rfl, rfl⟩ .nil
    · rw [decide_eq_false (p := x = y) fun e => e2 (by rw [e])]
      (repeat (first | (refine WL.kG ?_; first | refine WL.want rfl rfl rfl ?_ | refine WL.pass rfl rfl rfl rfl ?_) | refine WL.step (Yl.move rfl) rfl ?_ | refine WL.step (Yl.assign rfl) rfl ?_ | (refine WL.k_load ?_; first | refine WL.step (Yl.loadBlk (T := 4) Try.isAgg4 rfl (by repeat (first | exact .head _ | refine .tail _ ?_)) (by rfl)) rfl ?_ | refine WL.step (Yl.loadBlk (T := 29) Try.isAgg29 rfl (by repeat (first | exact .head _ | refine .tail _ ?_)) (by rfl)) rfl ?_) | refine WL.step (Yl.fld0 (t := 32) Try.underlying32 fl32 rfl rfl) rfl ?_ | (refine WL.k_pick ?_; first | refine WL.step (Yl.pick_t rfl rfl rfl) rfl ?_ | refine WL.step (Yl.pick_f rfl rfl rfl) rfl ?_) | refine WL.step (Yl.len (t := 29) Try.underlying29 rfl) rfl ?_ | (refine WL.k_bin .neq ?_; first | refine WL.step (Yl.neqBv (b := false) Try.underlying4 rfl rfl (by simpa using e1)) rfl ?_ | refine WL.step (Yl.neqT rfl rfl (by omega)) rfl ?_) | refine WC.seq ?_ | refine WC.region ?_ | refine WL.nil ?_ | refine WN.then_normal ?_))
      refine WC.cond_true rfl rfl ?_
      (repeat (first | refine WL.step (Yl.assign rfl) rfl ?_ | refine WC.seq ?_ | refine WC.region ?_ | refine WL.nil ?_ | refine WN.then_normal ?_ | refine WC.ret ?_ | refine WN.then_ret ?_))
      exact WN.ret1 rfl rfl ⟨rfl, rfl⟩ .nil
  · rw [decide_eq_false (p := x = y) fun e => e1 (by rw [e])]
    (repeat (first | refine WL.pass rfl rfl rfl rfl ?_ | refine WL.step (Yl.move rfl) rfl ?_ | refine WL.step (Yl.assign rfl) rfl ?_ | (refine WL.k_load ?_; refine WL.step (Yl.loadBlk (T := 4) Try.isAgg4 rfl (by repeat (first | exact .head _ | refine .tail _ ?_)) (by rfl)) rfl ?_) | refine WL.step (Yl.fld0 (t := 32) Try.underlying32 fl32 rfl rfl) rfl ?_ | refine WL.step (Yl.pick_t rfl rfl rfl) rfl ?_ | (refine WL.k_bin .neq ?_; refine WL.step (Yl.neqBv (b := true) Try.underlying4 rfl rfl (by simpa using e1)) rfl ?_) | refine WC.seq ?_ | refine WC.region ?_ | refine WL.nil ?_ | refine WN.then_normal ?_))
    refine WC.cond_true rfl rfl ?_
    (repeat (first | refine WL.step (Yl.assign rfl) rfl ?_ | refine WC.seq ?_ | refine WC.region ?_ | refine WL.nil ?_ | refine WN.then_normal ?_ | refine WC.ret ?_ | refine WN.then_ret ?_))
    exact WN.ret1 rfl rfl ⟨rfl, rfl⟩ .nil
theorem lsame_c (x y : Nod.N) (p q : Pl) (w : World) (hx : x.Wf) (hy : y.Wf) (h : NdAt w x p) (g : NdAt w y q) : Calls Try.prog 30 #[ndv x p, ndv y q] w (Gives (Val (.bool (decide (x = y)))) w) := by
  refine enter (args := [_, _]) Try.func30 Try.ntmps30 rfl rfl ?_
  (repeat (first | refine WL.boxA (cs := (ndl x p).toArray) rfl rfl fun b1 => ?_ | refine WC.seq ?_ | refine WC.region ?_))
  refine WL.boxA (cs := (ndl y q).toArray) rfl rfl fun b2 => ?_
  (repeat (first | refine WL.step (Yl.assign rfl) rfl ?_ | refine WC.seq ?_ | refine WL.nil ?_ | refine WN.then_normal ?_))
  refine WC.regionH [.blk b2 (.cells (ndl y q).toArray 26 (0, 0)), .blk b1 (.cells (ndl x p).toArray 26 (0, 0))] (by kernel_rfl) ?_
  (refine WH.order [0, 2] (by repeat (first | exact Part.nil | refine Part.cons (by repeat (first | exact Pick.here | apply Pick.there)) ?_ | refine Part.free ?_)) (by kernel_rfl) ?_; (repeat (first | (refine WT.k_load rfl ?_; refine WT.take rfl rfl (fun _ _ _ h => h) (Yl.loadAll (T := 26) (T' := 26) Try.isAgg26 Try.sizeOf26 rfl (by repeat (first | exact .head _ | refine .tail _ ?_)) rfl) rfl (by kernel_rfl) (by kernel_rfl) ?_))); refine WT.nil ?_)
  refine WH.only (i := 1) (by kernel_rfl) rfl ?_
  refine WL.call (g := 14) Try.call14 rfl (fun w s => lref_c x p w hx ((NdAt.old h).at_ s)) rfl fun v1 B1 hv1 => ?_
  obtain ⟨k1, v1, hk1, hv1, rfl, rfl⟩ := hv1
  simp only [List.cons_append, List.nil_append]
  refine WL.nil (WN.nextH (by repeat (first | exact Part.nil | refine Part.cons (by repeat (first | exact Pick.here | apply Pick.there)) ?_ | refine Part.free ?_)) ?_)
  refine WH.only (i := 3) (by kernel_rfl) rfl ?_
  refine WL.call (g := 14) Try.call14 rfl (fun w s => lref_c y q w hy ((NdAt.old g).at_ s)) rfl fun v2 B2 hv2 => ?_
  obtain ⟨k2, v2, hk2, hv2, rfl, rfl⟩ := hv2
  simp only [List.cons_append, List.nil_append]
  refine WL.nil (WN.nextH (by repeat (first | exact Part.nil | refine Part.cons (by repeat (first | exact Pick.here | apply Pick.there)) ?_ | refine Part.free ?_)) ?_)
  refine WH.only (i := 4) (by kernel_rfl) rfl ?_
  refine WL.callV (g := 22) Try.call22 rfl (fun w s => rsame_c x y ⟨k1.1, k1.2, v1.1, v1.2, p.ca, p.cc⟩ ⟨k2.1, k2.2, v2.1, v2.2, q.ca, q.cc⟩ w hx hy (NdRd.at_ ⟨Rd.row (by repeat (first | exact .head _ | refine .tail _ ?_)), Rd.row (by repeat (first | exact .head _ | refine .tail _ ?_)), Rd.old h.cs, hk1, hv1, h.cc⟩ s) (NdRd.at_ ⟨Rd.row (by repeat (first | exact .head _ | refine .tail _ ?_)), Rd.row (by repeat (first | exact .head _ | refine .tail _ ?_)), Rd.old g.cs, hk2, hv2, g.cc⟩ s)) rfl ?_
  refine WL.nil (WN.nextH (by repeat (first | exact Part.nil | refine Part.cons (by repeat (first | exact Pick.here | apply Pick.there)) ?_ | refine Part.free ?_)) ?_)
  (refine WH.order [5] (by repeat (first | exact Part.nil | refine Part.cons (by repeat (first | exact Pick.here | apply Pick.there)) ?_ | refine Part.free ?_)) (by kernel_rfl) ?_; (repeat (first | (refine WT.k_assign rfl ?_; refine WT.take rfl rfl (fun _ _ _ h => h) (Yl.assign rfl) rfl (by kernel_rfl) (by kernel_rfl) ?_))); refine WT.nil ?_)
  refine WH.done (by kernel_rfl) ?_
  (repeat (first | refine WN.then_normal ?_ | refine WC.ret ?_))
  exact WN.ret1 rfl rfl ⟨rfl, rfl⟩ .nil
def Few (x : Nod.N) : Prop := x.ks.length ≤ 40 ∧ x.vs.length ≤ 40 ∧ x.cs.length ≤ 40
instance (x : Nod.N) : Decidable (Few x) := by unfold Few; infer_instance
theorem few_c (k v c : Nat) (lf : Bool) (ka va ca : Option Addr) (kc vc cc : Nat) (w : World) : Calls Try.prog 12 #[.agg #[.bool lf, .slice ka k kc, .slice va v vc, .slice ca c cc]] w (Gives (Val (.bool (decide (k ≤ 40 ∧ v ≤ 40 ∧ c ≤ 40)))) w) := by
  refine enter (args := [_]) Try.func12 Try.ntmps12 rfl rfl ?_
  (repeat (first | refine WL.step (Yl.assign rfl) rfl ?_ | refine WL.boxA rfl rfl fun b1 => ?_ | refine WC.seq ?_ | refine WC.region ?_ | refine WL.nil ?_ | refine WN.then_normal ?_))
  by_cases e1 : k ≤ 40
  · by_cases e2 : v ≤ 40
    · by_cases e3 : c ≤ 40
      · rw [decide_eq_true (p := k ≤ 40 ∧ v ≤ 40 ∧ c ≤ 40) ⟨e1, e2, e3⟩]
        (repeat (first | refine WL.want rfl rfl rfl ?_ | refine WL.step (Yl.move rfl) rfl ?_ | refine WL.step (Yl.assign rfl) rfl ?_ | (refine WL.k_load ?_; first | refine WL.step (Yl.loadBlk (T := 22) Try.isAgg22 rfl (by repeat (first | exact .head _ | refine .tail _ ?_)) (by rfl)) rfl ?_ | refine WL.step (Yl.loadBlk (T := 23) Try.isAgg23 rfl (by repeat (first | exact .head _ | refine .tail _ ?_)) (by rfl)) rfl ?_ | refine WL.step (Yl.loadBlk (T := 24) Try.isAgg24 rfl (by repeat (first | exact .head _ | refine .tail _ ?_)) (by rfl)) rfl ?_) | refine WL.step (Yl.fld0 (t := 26) Try.underlying26 fl26 rfl rfl) rfl ?_ | refine WL.step (Yl.pick_t rfl rfl rfl) rfl ?_ | (refine WL.k_bi .len ?_; first | refine WL.step (Yl.len (t := 22) Try.underlying22 rfl) rfl ?_ | refine WL.step (Yl.len (t := 23) Try.underlying23 rfl) rfl ?_ | refine WL.step (Yl.len (t := 24) Try.underlying24 rfl) rfl ?_) | (refine WL.k_bin .leq ?_; refine WL.step (Yl.leqT rfl rfl (by omega)) rfl ?_) | refine WL.nil ?_ | refine WN.then_normal ?_ | refine WC.ret ?_))
        exact WN.ret1 rfl rfl ⟨rfl, rfl⟩ .nil
      · rw [decide_eq_false (p := k ≤ 40 ∧ v ≤ 40 ∧ c ≤ 40) fun q => e3 q.2.2]
        (repeat (first | refine WL.want rfl rfl rfl ?_ | refine WL.step (Yl.move rfl) rfl ?_ | refine WL.step (Yl.assign rfl) rfl ?_ | (refine WL.k_load ?_; first | refine WL.step (Yl.loadBlk (T := 22) Try.isAgg22 rfl (by repeat (first | exact .head _ | refine .tail _ ?_)) (by rfl)) rfl ?_ | refine WL.step (Yl.loadBlk (T := 23) Try.isAgg23 rfl (by repeat (first | exact .head _ | refine .tail _ ?_)) (by rfl)) rfl ?_ | refine WL.step (Yl.loadBlk (T := 24) Try.isAgg24 rfl (by repeat (first | exact .head _ | refine .tail _ ?_)) (by rfl)) rfl ?_) | refine WL.step (Yl.fld0 (t := 26) Try.underlying26 fl26 rfl rfl) rfl ?_ | refine WL.step (Yl.pick_t rfl rfl rfl) rfl ?_ | (refine WL.k_bi .len ?_; first | refine WL.step (Yl.len (t := 22) Try.underlying22 rfl) rfl ?_ | refine WL.step (Yl.len (t := 23) Try.underlying23 rfl) rfl ?_ | refine WL.step (Yl.len (t := 24) Try.underlying24 rfl) rfl ?_) | (refine WL.k_bin .leq ?_; first | refine WL.step (Yl.leqT rfl rfl (by omega)) rfl ?_ | refine WL.step (Yl.leqF rfl rfl (by omega)) rfl ?_) | refine WL.nil ?_ | refine WN.then_normal ?_ | refine WC.ret ?_))
        exact WN.ret1 rfl rfl ⟨rfl, rfl⟩ .nil
    · rw [decide_eq_false (p := k ≤ 40 ∧ v ≤ 40 ∧ c ≤ 40) fun q => e2 q.2.1]
      (repeat (first | (refine WL.kG ?_; first | refine WL.want rfl rfl rfl ?_ | refine WL.pass rfl rfl rfl rfl ?_) | refine WL.step (Yl.move rfl) rfl ?_ | refine WL.step (Yl.assign rfl) rfl ?_ | (refine WL.k_load ?_; first | refine WL.step (Yl.loadBlk (T := 22) Try.isAgg22 rfl (by repeat (first | exact .head _ | refine .tail _ ?_)) (by rfl)) rfl ?_ | refine WL.step (Yl.loadBlk (T := 23) Try.isAgg23 rfl (by repeat (first | exact .head _ | refine .tail _ ?_)) (by rfl)) rfl ?_) | refine WL.step (Yl.fld0 (t := 26) Try.underlying26 fl26 rfl rfl) rfl ?_ | (refine WL.k_pick ?_; first | refine WL.step (Yl.pick_t rfl rfl rfl) rfl ?_ | refine WL.step (Yl.pick_f rfl rfl rfl) rfl ?_) | (refine WL.k_bi .len ?_; first | refine WL.step (Yl.len (t := 22) Try.underlying22 rfl) rfl ?_ | refine WL.step (Yl.len (t := 23) Try.underlying23 rfl) rfl ?_) | (refine WL.k_bin .leq ?_; first | refine WL.step (Yl.leqT rfl rfl (by omega)) rfl ?_ | refine WL.step (Yl.leqF rfl rfl (by omega)) rfl ?_) | refine WL.nil ?_ | refine WN.then_normal ?_ | refine WC.ret ?_))
      exact WN.ret1 rfl rfl ⟨rfl, rfl⟩ .nil
  · rw [decide_eq_false (p := k ≤ 40 ∧ v ≤ 40 ∧ c ≤ 40) fun q => e1 q.1]
    (repeat (first | refine WL.pass rfl rfl rfl rfl ?_ | refine WL.step (Yl.move rfl) rfl ?_ | refine WL.step (Yl.assign rfl) rfl ?_ | (refine WL.k_load ?_; refine WL.step (Yl.loadBlk (T := 22) Try.isAgg22 rfl (by repeat (first | exact .head _ | refine .tail _ ?_)) (by rfl)) rfl ?_) | refine WL.step (Yl.fld0 (t := 26) Try.underlying26 fl26 rfl rfl) rfl ?_ | refine WL.step (Yl.pick_f rfl rfl rfl) rfl ?_ | refine WL.step (Yl.len (t := 22) Try.underlying22 rfl) rfl ?_ | (refine WL.k_bin .leq ?_; refine WL.step (Yl.leqF rfl rfl (by omega)) rfl ?_) | refine WL.nil ?_ | refine WN.then_normal ?_ | refine WC.ret ?_))
    exact WN.ret1 rfl rfl ⟨rfl, rfl⟩ .nil
end Go.Proofs.Ytbfhdggfdhlkfaa
