/- Drives: rules for walks; append into what is there. -/
import Derived.Test.YtmmpngigaodcgaaDrv4
import Derived.Test.YtmmpngigaodcgaaRep
import Derived.Test.YtmmpngigaodcgaaBnk8
namespace Go.Proofs.Ytmmpngigaodcgaa
set_option linter.unusedVariables false
set_option linter.unusedSimpArgs false
open Go Go.RowKit
set_option maxRecDepth 100000
set_option maxHeartbeats 8000000
section
variable {X : Cx} {ops : Array Oper} {Q : Exit → Act → World → Prop} {ρ : Env} {A B : List HA} {rest : List Oper} {d : Tmp} {op : Op} {ty : TypeId} {ps : String} {af : Array Edge} {v : Value}
theorem WL.mid {x : HA} {D Z : List HA} (h : WL X ops Q rest ρ (D ++ x :: Z)) : WL X ops Q rest ρ (x :: (D ++ Z)) := WL.part (Part.perm List.perm_middle.symm) h
theorem WC.mid {c : Code} {x : HA} {D Z : List HA} (h : WC X c Q ρ (D ++ x :: Z)) : WC X c Q ρ (x :: (D ++ Z)) := fun a w f s => h a w f (s.part (Part.perm List.perm_middle.symm))
/-- 'append' where there is room for it; the slice may have less room than the row. -/
theorem WL.appendFit {x y : Operand} {t e : TypeId} {z : Value} {bytes : Nat} {a a2 : Option Addr} {n cap c0 m c : Nat} {vs news : List Value} (hu : X.P.underlying t = some (.slice e)) (he : ElemT X.P e z 1 bytes)
    (hx : ev ρ x = some (.slice a n c0)) (hy : ev ρ y = some (.slice a2 m c)) (hp : Pick (.row a cap e 1 vs) A B) (hc : c0 ≤ cap) (hnc : n + m ≤ c0) (hm0 : 0 < m) (hvn : n ≤ vs.length) (hn : Rd X A a2 news) (hnl : news.length = m) (h1 : ∀ u ∈ news, u.oneCell' = true)
    (hd : Nat.blt d X.n = true) (h : WL X ops Q rest ((d, .slice a (n + m) c0) :: ρ) (.row a cap e 1 (vs.take n ++ news) :: B)) :
    WL X ops Q (⟨some d, .call { callee := .builtin .append, args := #[x, y], argTypes := #[t, t] }, ty, ps, af, none⟩ :: rest) ρ A :=
  WL.step1 (fun o hop _ ac w f s => by
    have s1 := s.pick hp
    have fin : ∀ {v : Value} {w' : World}, (Builtin.append_ #[t, t] o.type #[.slice a n c0, .slice a2 m c]).run X.P w = .ok v w' → (execOp ac.eval o).run X.P w = .ok (.value v) w' := fun hr => by
      simp only [execOp, hop, resolve, invoke, builtin, Sem.run_bind, Sem.run_pure, Result.andThen_ok, List.map_toArray, List.map_cons, List.map_nil, f.ev hx, f.ev hy, hr]
    rcases s1.holds _ (.head _) with ⟨h0, _⟩ | ⟨b, cs, rfl, hbk, hsz, hcm, hvl, htk⟩
    · omega
    · have hc0 : cap ≠ 0 := by omega
      have hne : news ≠ [] := by
        intro e0; subst e0; simp at hnl; omega
      obtain ⟨ad, rfl⟩ := hn.some_ hne s
      obtain ⟨i, hi, _, hik, _⟩ := he.info
      have hcell : ∀ j u, news[j]? = some u → w.cell? (ad.add j) = some u := fun j u hu => by
        obtain ⟨ad', e1, e2⟩ := hn.at_ hu s
        simp only [el, Option.map_some, Option.some.injEq] at e1
        rw [e1]; exact e2
      have hfit : n * i.size + news.length ≤ cs.size := by rw [hik, hnl, hsz]; omega
      have hr := run_append_room (P := X.P) w t o.type e i hu hi b n c0 cs hbk ad m c news (by rw [hik, Nat.mul_one]; exact hnl) hcell h1 hnc hfit
      refine ⟨_, fin hr, s1.put (x := .row _ _ _ _ _) (y := .row (some ⟨b, 0, none⟩) cap e 1 (vs.take n ++ news)) (by simp [HA.foot, hc0]) (by simp [HA.foot, hc0]) (Kept.setRow w b _)
        (.inr ⟨b, _, rfl, setRow_heap w b cs _ e _ hbk, ?_, hcm, ?_, ?_⟩)⟩
      · simp only [List.size_toArray, List.length_append, List.length_take, List.length_drop, Array.length_toList]; omega
      · simp only [List.size_toArray, List.length_append, List.length_take, List.length_drop, Array.length_toList]; rw [hik] at *; omega
      · have h3 : cs.toList.take (n * i.size) = vs.take n := by
          rw [hik, Nat.mul_one, ← htk, List.take_take, Nat.min_eq_left hvn]
        rw [h3]
        exact List.take_left) hd h
end
theorem buildPl (n : Int) (a : Option Addr) (m c : Nat) (w : World) : (Instr.build 24 [(0, .int .i64 n), (1, .slice a m c)].toArray).run Try.prog w = .ok (.agg #[.int .i64 n, .slice a m c]) w := by
  simp [Instr.build, Try.zeroValue24, run_underlying Try.underlying24, Try.sizeOf3, Try.sizeOf22, Value.cells, Instr.fill]
theorem buildPl1 (a : Option Addr) (m c : Nat) (w : World) : (Instr.build 24 [(1, .slice a m c)].toArray).run Try.prog w = .ok (.agg #[.int .i64 0, .slice a m c]) w := by
  simp [Instr.build, Try.zeroValue24, run_underlying Try.underlying24, Try.sizeOf3, Try.sizeOf22, Value.cells, Instr.fill]
section
variable {p : DP} {S : List Nat} {v : DV} {s : DS}
theorem ops_lt (h : s.v = v) (hv : v.ops < 4611686018427387904) : s.ops < 4611686018427387904 := by subst h; exact hv
theorem rd_lt (h : s.v = v) (hv : v.rd < 4611686018427387904) : s.rd < 4611686018427387904 := by subst h; exact hv
theorem dwrite_v (sec : Int) (a : Option Addr) (n c2 : Nat) (x : List UInt8) (w : World) (ok : s.Ok p) (hv : s.v = v) (hops : v.ops < 4611686018427387904) (hl : x.length = n) (hr : CellsOut w S a (bs x)) (st : St w S (drI p s) w) :
    Calls Try.prog 16 #[bptr p.bd, .int .i64 sec, .slice a n c2] w (GivesS S (DrV p (v.write sec x).1 (v.write sec x).2) w) := by
  subst hv; exact dwrite_r sec a n c2 x s w ok hops hl hr st
theorem dsync_v (w : World) (ok : s.Ok p) (hv : s.v = v) (hops : v.ops < 4611686018427387904) (st : St w S (drI p s) w) :
    Calls Try.prog 23 #[bptr p.bd] w (GivesS S (DrV p v.sync.1 v.sync.2) w) := by
  subst hv; exact dsync_r s w ok hops st
theorem dread_v (sec : Int) (w : World) (ok : s.Ok p) (hv : s.v = v) (hrd : v.rd < 4611686018427387904) (st : St w S (drI p s) w) :
    Calls Try.prog 20 #[bptr p.bd, .int .i64 sec] w (GivesS S (DrdV p (v.read sec).1 (v.read sec).2) w) := by
  subst hv; exact dread_r sec s w ok hrd st
theorem drestart_v (w : World) (ok : s.Ok p) (hv : s.v = v) (st : St w S (drI p s) w) :
    Calls Try.prog 18 #[bptr p.bd] w (GivesS S (DrV p { v with down := false } 0) w) := by
  subst hv; exact drestart_r s w ok st
theorem darm_v (n : Int) (a : Option Addr) (m c2 : Nat) (K : List Int) (w : World) (ok : s.Ok p) (hv : s.v = v) (hl : K.length = m) (hm : m ≤ 9223372036854775807) (hr : CellsOut w S a (zcells K)) (st : St w S (drI p s) w) :
    Calls Try.prog 14 #[bptr p.bd, .agg #[.int .i64 n, .slice a m c2]] w (GivesS S (DrV p (v.arm n K).1 (v.arm n K).2) w) := by
  subst hv; exact darm_r n a m c2 K s w ok hl hm hr st
theorem ddown_v (w : World) (h : DrAt w p s) (hv : s.v = v) : Calls Try.prog 15 #[bptr p.bd] w (Gives (Val (.bool v.down)) w) := by
  subst hv; exact ddown_c w h
theorem dops_v (w : World) (h : DrAt w p s) (hv : s.v = v) : Calls Try.prog 21 #[bptr p.bd] w (Gives (Val (.int .i64 (v.ops : Int))) w) := by
  subst hv; exact dops_c w h
theorem dreads_v (w : World) (h : DrAt w p s) (hv : s.v = v) : Calls Try.prog 22 #[bptr p.bd] w (Gives (Val (.int .i64 (v.rd : Int))) w) := by
  subst hv; exact dreads_c w h
end
end Go.Proofs.Ytmmpngigaodcgaa
