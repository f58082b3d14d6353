/- Rows of steps: what lies in memory, and which rows are few. -/
import Derived.Test.YtjijjohhmokmmaaBnk8
namespace Go.Proofs.Ytjijjohhmokmmaa
set_option linter.unusedVariables false
set_option linter.unusedSimpArgs false
open Go Go.RowKit
set_option maxRecDepth 100000
set_option maxHeartbeats 8000000
section
variable {α β : Type} {f : α → List β} {k : Nat}
theorem chunk : ∀ {l : List α} {i : Nat} {x : α}, (∀ y ∈ l, (f y).length = k) → l[i]? = some x → ((l.flatMap f).drop (i * k)).take k = f x := by
  intro l
  induction l with
  | nil => intro i x _ h; simp at h
  | cons y l ih =>
    intro i x hk h
    have hy := hk y (by simp)
    rw [List.flatMap_cons]
    cases i with
    | zero =>
      simp only [List.getElem?_cons_zero, Option.some.injEq] at h
      subst h
      rw [Nat.zero_mul, List.drop_zero, List.take_append_of_le_length (by omega), List.take_of_length_le (by omega)]
    | succ i =>
      rw [List.getElem?_cons_succ] at h
      rw [show (i + 1) * k = (f y).length + i * k by rw [hy, Nat.succ_mul]; omega, List.drop_length_add_append]
      exact ih (fun z hz => hk z (by simp [hz])) h
theorem chunk_get {l : List α} {i j : Nat} {x : α} (hk : ∀ y ∈ l, (f y).length = k) (h : l[i]? = some x) (hj : j < k) : (l.flatMap f)[i * k + j]? = (f x)[j]? := by
  rw [← chunk hk h, List.getElem?_take, if_pos hj, List.getElem?_drop]
theorem flat_len : ∀ {l : List α}, (∀ x ∈ l, (f x).length = k) → (l.flatMap f).length = l.length * k := by
  intro l
  induction l with
  | nil => intro _; simp
  | cons y l ih => intro h; rw [List.flatMap_cons, List.length_append, ih (fun z hz => h z (by simp [hz])), h y (by simp), List.length_cons, Nat.succ_mul]; omega
end
structure Step where
  act : Int
  sec : Int
  a : Option Addr
  n : Nat
  c : Nat
  l : List UInt8
  a2 : Option Addr
  n2 : Nat
  c2 : Nat
  K : List Int
def Step.cs (s : Step) : List Value := [.int .i64 s.act, .int .i64 s.sec, .slice s.a s.n s.c, .slice s.a2 s.n2 s.c2]
structure Step.Ok (s : Step) (w : World) : Prop where
  hl : s.l.length = s.n
  hc : s.n ≤ s.c
  hm : s.c ≤ 9223372036854775807
  hr : CellsAt w s.a (bs s.l)
  hl2 : s.K.length = s.n2
  hc2 : s.n2 ≤ s.c2
  hm2 : s.c2 ≤ 9223372036854775807
  hr2 : CellsAt w s.a2 (zcells s.K)
theorem Step.Ok.keep {s : Step} {w w' : World} (h : s.Ok w) (k : Kept w [] w') : s.Ok w' := ⟨h.hl, h.hc, h.hm, h.hr.keep k, h.hl2, h.hc2, h.hm2, h.hr2.keep k⟩
theorem Step.len (s : Step) : s.cs.length = 4 := rfl
def fewOk (S : List Step) (m : Int) : Prop := (S.length : Int) ≤ m ∧ ∀ s ∈ S, s.n ≤ 200 ∧ s.n2 ≤ 20
instance (S : List Step) (m : Int) : Decidable (fewOk S m) := inferInstanceAs (Decidable (_ ∧ _))
attribute [local irreducible] WL WC WN Yl WH WQ WT WE WU WG
theorem lfew_c (a : Option Addr) (n cap : Nat) (S : List Step) (m : Int) (w : World) (hl : S.length = n) (hn : n ≤ 9223372036854775807) (hr : CellsAt w a (S.flatMap Step.cs)) (hok : ∀ s ∈ S, s.Ok w) :
    Calls Try.prog 29 #[.slice a n cap, .int .i64 m] w (Gives (Val (.bool (decide (fewOk S m)))) w) := by
  refine enter (args := [_, _]) Try.func29 Try.ntmps29 rfl rfl ?_
  by_cases h1 : m < (n : Int)
  · rw [decide_eq_false (fun h => by have := h.1; omega)]
    (repeat (first | (refine WL.kG ?_; first | refine WL.want rfl rfl rfl ?_ | refine WL.pass rfl rfl rfl rfl ?_) | (refine WL.k_move ?_; first | refine WL.step (Yl.move rfl) rfl ?_) | (refine WL.k_assign ?_; first | refine WL.step (Yl.assign rfl) rfl ?_) | (refine WL.k_pick ?_; first | refine WL.step (Yl.pick_t rfl rfl rfl) rfl ?_ | refine WL.step (Yl.pick_f rfl rfl rfl) rfl ?_) | (refine WL.k_bi .len ?_; first | refine WL.step (Yl.len (t := 57) Try.underlying57 rfl) rfl ?_ | refine WL.step (Yl.len (t := 22) Try.underlying22 rfl) rfl ?_) | (refine WL.k_bin .gtr ?_; first | refine WL.step (Yl.gtrT rfl rfl h1) rfl ?_ | refine WL.step (Yl.gtr rfl rfl) rfl ?_) | (refine WL.k_bin .lss ?_; first | refine WL.step (Yl.lss rfl rfl) rfl ?_) | (refine WL.k_bin .add ?_; first | refine WL.step (Yl.add64C rfl (by omega)) rfl ?_ | refine WL.step (Yl.addC64 rfl (by omega)) rfl ?_ | refine WL.step (Yl.add64N rfl rfl (by omega)) rfl ?_ | refine WL.step (Yl.add64 rfl rfl (by omega)) rfl ?_) | refine WC.seq ?_ | refine WC.region ?_ | refine WL.nil ?_ | refine WN.then_normal ?_ | refine WC.block ?_ | refine WC.skip ?_ | refine WC.exit ?_ | refine WC.ret ?_ | refine WN.then_exit ?_ | refine WN.then_ret ?_ | refine WN.block_normal ?_ | refine WN.block_ret ?_ | refine WN.block_here ?_ | refine WN.block_past (by decide) ?_))
    refine WC.cond_true rfl rfl ?_
    (repeat (first | (refine WL.kG ?_; first | refine WL.want rfl rfl rfl ?_ | refine WL.pass rfl rfl rfl rfl ?_) | (refine WL.k_move ?_; first | refine WL.step (Yl.move rfl) rfl ?_) | (refine WL.k_assign ?_; first | refine WL.step (Yl.assign rfl) rfl ?_) | (refine WL.k_pick ?_; first | refine WL.step (Yl.pick_t rfl rfl rfl) rfl ?_ | refine WL.step (Yl.pick_f rfl rfl rfl) rfl ?_) | (refine WL.k_bi .len ?_; first | refine WL.step (Yl.len (t := 22) Try.underlying22 rfl) rfl ?_) | (refine WL.k_bin .lss ?_; first | refine WL.step (Yl.lss rfl rfl) rfl ?_) | (refine WL.k_bin .gtr ?_; first | refine WL.step (Yl.gtr rfl rfl) rfl ?_) | (refine WL.k_bin .add ?_; first | refine WL.step (Yl.add64C rfl (by omega)) rfl ?_ | refine WL.step (Yl.addC64 rfl (by omega)) rfl ?_ | refine WL.step (Yl.add64N rfl rfl (by omega)) rfl ?_ | refine WL.step (Yl.add64 rfl rfl (by omega)) rfl ?_) | refine WC.seq ?_ | refine WC.region ?_ | refine WL.nil ?_ | refine WN.then_normal ?_ | refine WC.block ?_ | refine WC.skip ?_ | refine WC.exit ?_ | refine WC.ret ?_ | refine WN.then_exit ?_ | refine WN.then_ret ?_ | refine WN.block_normal ?_ | refine WN.block_ret ?_ | refine WN.block_here ?_ | refine WN.block_past (by decide) ?_))
    exact WN.ret1 rfl rfl ⟨rfl, rfl⟩ .nil
  (repeat (first | (refine WL.kG ?_; first | refine WL.want rfl rfl rfl ?_ | refine WL.pass rfl rfl rfl rfl ?_) | (refine WL.k_move ?_; first | refine WL.step (Yl.move rfl) rfl ?_) | (refine WL.k_assign ?_; first | refine WL.step (Yl.assign rfl) rfl ?_) | (refine WL.k_pick ?_; first | refine WL.step (Yl.pick_t rfl rfl rfl) rfl ?_ | refine WL.step (Yl.pick_f rfl rfl rfl) rfl ?_) | (refine WL.k_bi .len ?_; first | refine WL.step (Yl.len (t := 57) Try.underlying57 rfl) rfl ?_ | refine WL.step (Yl.len (t := 22) Try.underlying22 rfl) rfl ?_) | (refine WL.k_bin .gtr ?_; first | refine WL.step (Yl.gtrF rfl rfl h1) rfl ?_ | refine WL.step (Yl.gtr rfl rfl) rfl ?_) | (refine WL.k_bin .lss ?_; first | refine WL.step (Yl.lss rfl rfl) rfl ?_) | (refine WL.k_bin .add ?_; first | refine WL.step (Yl.add64C rfl (by omega)) rfl ?_ | refine WL.step (Yl.addC64 rfl (by omega)) rfl ?_ | refine WL.step (Yl.add64N rfl rfl (by omega)) rfl ?_ | refine WL.step (Yl.add64 rfl rfl (by omega)) rfl ?_) | refine WC.seq ?_ | refine WC.region ?_ | refine WL.nil ?_ | refine WN.then_normal ?_ | refine WC.block ?_ | refine WC.skip ?_ | refine WC.exit ?_ | refine WC.ret ?_ | refine WN.then_exit ?_ | refine WN.then_ret ?_ | refine WN.block_normal ?_ | refine WN.block_ret ?_ | refine WN.block_here ?_ | refine WN.block_past (by decide) ?_))
  refine WC.cond_false rfl rfl ?_
  (repeat (first | (refine WL.kG ?_; first | refine WL.want rfl rfl rfl ?_ | refine WL.pass rfl rfl rfl rfl ?_) | (refine WL.k_move ?_; first | refine WL.step (Yl.move rfl) rfl ?_) | (refine WL.k_assign ?_; first | refine WL.step (Yl.assign rfl) rfl ?_) | (refine WL.k_pick ?_; first | refine WL.step (Yl.pick_t rfl rfl rfl) rfl ?_ | refine WL.step (Yl.pick_f rfl rfl rfl) rfl ?_) | (refine WL.k_bi .len ?_; first | refine WL.step (Yl.len (t := 22) Try.underlying22 rfl) rfl ?_) | (refine WL.k_bin .lss ?_; first | refine WL.step (Yl.lss rfl rfl) rfl ?_) | (refine WL.k_bin .gtr ?_; first | refine WL.step (Yl.gtr rfl rfl) rfl ?_) | (refine WL.k_bin .add ?_; first | refine WL.step (Yl.add64C rfl (by omega)) rfl ?_ | refine WL.step (Yl.addC64 rfl (by omega)) rfl ?_ | refine WL.step (Yl.add64N rfl rfl (by omega)) rfl ?_ | refine WL.step (Yl.add64 rfl rfl (by omega)) rfl ?_) | refine WC.seq ?_ | refine WC.region ?_ | refine WL.nil ?_ | refine WN.then_normal ?_ | refine WC.block ?_ | refine WC.skip ?_ | refine WC.exit ?_ | refine WC.ret ?_ | refine WN.then_exit ?_ | refine WN.then_ret ?_ | refine WN.block_normal ?_ | refine WN.block_ret ?_ | refine WN.block_here ?_ | refine WN.block_past (by decide) ?_))
  refine WC.loop (α := Nat) (fun i => [(0, .slice a n cap), (5, .int .i64 (i : Int))]) (fun _ => []) (fun i => i ≤ n ∧ ∀ s ∈ S.take i, s.n ≤ 200 ∧ s.n2 ≤ 20) (fun i => n - i) 0 (by repeat (first | exact Sub.nil | refine Sub.cons rfl rfl ?_)) .nil ⟨Nat.zero_le _, fun s hs => by simp at hs⟩ ?_
  intro i ⟨hi, hp⟩
  (repeat (first | (refine WL.kG ?_; first | refine WL.want rfl rfl rfl ?_ | refine WL.pass rfl rfl rfl rfl ?_) | (refine WL.k_move ?_; first | refine WL.step (Yl.move rfl) rfl ?_) | (refine WL.k_assign ?_; first | refine WL.step (Yl.assign rfl) rfl ?_) | (refine WL.k_pick ?_; first | refine WL.step (Yl.pick_t rfl rfl rfl) rfl ?_ | refine WL.step (Yl.pick_f rfl rfl rfl) rfl ?_) | (refine WL.k_bi .len ?_; first | refine WL.step (Yl.len (t := 57) Try.underlying57 rfl) rfl ?_ | refine WL.step (Yl.len (t := 22) Try.underlying22 rfl) rfl ?_) | (refine WL.k_bin .lss ?_; first | refine WL.step (Yl.lss rfl rfl) rfl ?_) | (refine WL.k_bin .gtr ?_; first | refine WL.step (Yl.gtr rfl rfl) rfl ?_) | (refine WL.k_bin .add ?_; first | refine WL.step (Yl.add64C rfl (by omega)) rfl ?_ | refine WL.step (Yl.addC64 rfl (by omega)) rfl ?_ | refine WL.step (Yl.add64N rfl rfl (by omega)) rfl ?_ | refine WL.step (Yl.add64 rfl rfl (by omega)) rfl ?_) | refine WC.seq ?_ | refine WC.region ?_ | refine WL.nil ?_ | refine WN.then_normal ?_ | refine WC.block ?_ | refine WC.skip ?_ | refine WC.exit ?_ | refine WC.ret ?_ | refine WN.then_exit ?_ | refine WN.then_ret ?_ | refine WN.block_normal ?_ | refine WN.block_ret ?_ | refine WN.block_here ?_ | refine WN.block_past (by decide) ?_))
  refine WC.ite rfl (fun h2 => ?_) (fun h2 => ?_)
  · have hin : i < n := by omega
    obtain ⟨s, hs⟩ : ∃ s, S[i]? = some s := ⟨_, List.getElem?_eq_getElem (by omega)⟩
    have hk : ∀ y ∈ S, y.cs.length = 4 := fun y _ => rfl
    have g2 : (S.flatMap Step.cs)[i * 4 + 2]? = some (.slice s.a s.n s.c) := by rw [chunk_get hk hs (by decide)]; rfl
    have g3 : (S.flatMap Step.cs)[i * 4 + 3]? = some (.slice s.a2 s.n2 s.c2) := by rw [chunk_get hk hs (by decide)]; rfl
    have hne := ne_nil_of g2
    have hso := hok s (List.mem_of_getElem? hs)
    have hx1 := hso.hc
    have hx2 := hso.hm
    have hx3 := hso.hc2
    have hx4 := hso.hm2
    have hnot : (200 < s.n ∨ 20 < s.n2) → ¬ fewOk S m := fun h hf => by have := hf.2 s (List.mem_of_getElem? hs); omega
    have hmore : s.n ≤ 200 → s.n2 ≤ 20 → ∀ t ∈ S.take (i + 1), t.n ≤ 200 ∧ t.n2 ≤ 20 := fun e1 e2 t ht => by
      rw [List.take_add_one, hs] at ht
      rcases List.mem_append.1 ht with h | h
      · exact hp t h
      · simp at h; subst h; exact ⟨e1, e2⟩
    by_cases h3 : 200 < s.n
    · rw [decide_eq_false (hnot (.inl h3))]
      (repeat (first | (refine WL.kG ?_; first | refine WL.want rfl rfl rfl ?_ | refine WL.pass rfl rfl rfl rfl ?_) | (refine WL.k_move ?_; first | refine WL.step (Yl.move rfl) rfl ?_) | (refine WL.k_assign ?_; first | refine WL.step (Yl.assign rfl) rfl ?_) | (refine WL.k_load ?_; first | refine WL.step (Yl.load (T := 22) Try.isAgg22 rfl (Rd.old hr) g2) rfl ?_) | (refine WL.k_fld ?_; first | refine WL.step (Yl.fldEl (o := 2) (by kernel_rfl) (Rd.old hr) hne rfl) rfl ?_) | (refine WL.k_pick ?_; first | refine WL.step (Yl.pick_t rfl rfl rfl) rfl ?_ | refine WL.step (Yl.pick_f rfl rfl rfl) rfl ?_) | (refine WL.k_bi .len ?_; first | refine WL.step (Yl.len (t := 22) Try.underlying22 rfl) rfl ?_ | refine WL.step (Yl.len (t := 41) Try.underlying41 rfl) rfl ?_) | (refine WL.k_idxa ?_; first | refine WL.step (Yl.indexAddr (t := 57) (j := i) Try.underlying57 Try.sizeOf63 rfl rfl (Rd.old hr) hne hin) rfl ?_) | (refine WL.k_bin .gtr ?_; first | refine WL.step (Yl.gtrT rfl rfl (by omega)) rfl ?_ | refine WL.step (Yl.gtr rfl rfl) rfl ?_) | (refine WL.k_bin .lss ?_; first | refine WL.step (Yl.lss rfl rfl) rfl ?_) | (refine WL.k_bin .add ?_; first | refine WL.step (Yl.add64C rfl (by omega)) rfl ?_ | refine WL.step (Yl.addC64 rfl (by omega)) rfl ?_ | refine WL.step (Yl.add64N rfl rfl (by omega)) rfl ?_ | refine WL.step (Yl.add64 rfl rfl (by omega)) rfl ?_) | refine WC.seq ?_ | refine WC.region ?_ | refine WL.nil ?_ | refine WN.then_normal ?_ | refine WC.block ?_ | refine WC.skip ?_ | refine WC.exit ?_ | refine WC.ret ?_ | refine WN.then_exit ?_ | refine WN.then_ret ?_ | refine WN.block_normal ?_ | refine WN.block_ret ?_ | refine WN.block_here ?_ | refine WN.block_past (by decide) ?_))
      refine WC.cond_true rfl rfl ?_
      (repeat (first | (refine WL.kG ?_; first | refine WL.want rfl rfl rfl ?_ | refine WL.pass rfl rfl rfl rfl ?_) | (refine WL.k_move ?_; first | refine WL.step (Yl.move rfl) rfl ?_) | (refine WL.k_assign ?_; first | refine WL.step (Yl.assign rfl) rfl ?_) | (refine WL.k_pick ?_; first | refine WL.step (Yl.pick_t rfl rfl rfl) rfl ?_ | refine WL.step (Yl.pick_f rfl rfl rfl) rfl ?_) | (refine WL.k_bi .len ?_; first | refine WL.step (Yl.len (t := 22) Try.underlying22 rfl) rfl ?_) | (refine WL.k_bin .lss ?_; first | refine WL.step (Yl.lss rfl rfl) rfl ?_) | (refine WL.k_bin .gtr ?_; first | refine WL.step (Yl.gtr rfl rfl) rfl ?_) | (refine WL.k_bin .add ?_; first | refine WL.step (Yl.add64C rfl (by omega)) rfl ?_ | refine WL.step (Yl.addC64 rfl (by omega)) rfl ?_ | refine WL.step (Yl.add64N rfl rfl (by omega)) rfl ?_ | refine WL.step (Yl.add64 rfl rfl (by omega)) rfl ?_) | refine WC.seq ?_ | refine WC.region ?_ | refine WL.nil ?_ | refine WN.then_normal ?_ | refine WC.block ?_ | refine WC.skip ?_ | refine WC.exit ?_ | refine WC.ret ?_ | refine WN.then_exit ?_ | refine WN.then_ret ?_ | refine WN.block_normal ?_ | refine WN.block_ret ?_ | refine WN.block_here ?_ | refine WN.block_past (by decide) ?_))
      exact WN.ret1 rfl rfl ⟨rfl, rfl⟩ .nil
    · by_cases h4 : 20 < s.n2
      · rw [decide_eq_false (hnot (.inr h4))]
        (repeat (first | (refine WL.kG ?_; first | refine WL.want rfl rfl rfl ?_ | refine WL.pass rfl rfl rfl rfl ?_) | (refine WL.k_move ?_; first | refine WL.step (Yl.move rfl) rfl ?_) | (refine WL.k_assign ?_; first | refine WL.step (Yl.assign rfl) rfl ?_) | (refine WL.k_load ?_; first | refine WL.step (Yl.load (T := 22) Try.isAgg22 rfl (Rd.old hr) g2) rfl ?_ | refine WL.step (Yl.load (T := 41) Try.isAgg41 rfl (Rd.old hr) g3) rfl ?_) | (refine WL.k_fld ?_; first | refine WL.step (Yl.fldEl (o := 2) (i := 2) (by kernel_rfl) (Rd.old hr) hne rfl) rfl ?_ | refine WL.step (Yl.fldEl (o := 3) (i := 3) (by kernel_rfl) (Rd.old hr) hne rfl) rfl ?_) | (refine WL.k_pick ?_; first | refine WL.step (Yl.pick_t rfl rfl rfl) rfl ?_ | refine WL.step (Yl.pick_f rfl rfl rfl) rfl ?_) | (refine WL.k_bi .len ?_; first | refine WL.step (Yl.len (t := 22) Try.underlying22 rfl) rfl ?_ | refine WL.step (Yl.len (t := 41) Try.underlying41 rfl) rfl ?_) | (refine WL.k_idxa ?_; first | refine WL.step (Yl.indexAddr (t := 57) (j := i) Try.underlying57 Try.sizeOf63 rfl rfl (Rd.old hr) hne hin) rfl ?_) | (refine WL.k_bin .gtr ?_; first | refine WL.step (Yl.gtrF rfl rfl (by omega)) rfl ?_ | refine WL.step (Yl.gtrT rfl rfl (by omega)) rfl ?_ | refine WL.step (Yl.gtr rfl rfl) rfl ?_) | (refine WL.k_bin .lss ?_; first | refine WL.step (Yl.lss rfl rfl) rfl ?_) | (refine WL.k_bin .add ?_; first | refine WL.step (Yl.add64C rfl (by omega)) rfl ?_ | refine WL.step (Yl.addC64 rfl (by omega)) rfl ?_ | refine WL.step (Yl.add64N rfl rfl (by omega)) rfl ?_ | refine WL.step (Yl.add64 rfl rfl (by omega)) rfl ?_) | refine WC.seq ?_ | refine WC.region ?_ | refine WL.nil ?_ | refine WN.then_normal ?_ | refine WC.block ?_ | refine WC.skip ?_ | refine WC.exit ?_ | refine WC.ret ?_ | refine WN.then_exit ?_ | refine WN.then_ret ?_ | refine WN.block_normal ?_ | refine WN.block_ret ?_ | refine WN.block_here ?_ | refine WN.block_past (by decide) ?_))
        refine WC.cond_true rfl rfl ?_
        (repeat (first | (refine WL.kG ?_; first | refine WL.want rfl rfl rfl ?_ | refine WL.pass rfl rfl rfl rfl ?_) | (refine WL.k_move ?_; first | refine WL.step (Yl.move rfl) rfl ?_) | (refine WL.k_assign ?_; first | refine WL.step (Yl.assign rfl) rfl ?_) | (refine WL.k_pick ?_; first | refine WL.step (Yl.pick_t rfl rfl rfl) rfl ?_ | refine WL.step (Yl.pick_f rfl rfl rfl) rfl ?_) | (refine WL.k_bi .len ?_; first | refine WL.step (Yl.len (t := 22) Try.underlying22 rfl) rfl ?_) | (refine WL.k_bin .lss ?_; first | refine WL.step (Yl.lss rfl rfl) rfl ?_) | (refine WL.k_bin .gtr ?_; first | refine WL.step (Yl.gtr rfl rfl) rfl ?_) | (refine WL.k_bin .add ?_; first | refine WL.step (Yl.add64C rfl (by omega)) rfl ?_ | refine WL.step (Yl.addC64 rfl (by omega)) rfl ?_ | refine WL.step (Yl.add64N rfl rfl (by omega)) rfl ?_ | refine WL.step (Yl.add64 rfl rfl (by omega)) rfl ?_) | refine WC.seq ?_ | refine WC.region ?_ | refine WL.nil ?_ | refine WN.then_normal ?_ | refine WC.block ?_ | refine WC.skip ?_ | refine WC.exit ?_ | refine WC.ret ?_ | refine WN.then_exit ?_ | refine WN.then_ret ?_ | refine WN.block_normal ?_ | refine WN.block_ret ?_ | refine WN.block_here ?_ | refine WN.block_past (by decide) ?_))
        exact WN.ret1 rfl rfl ⟨rfl, rfl⟩ .nil
      · (repeat (first | (refine WL.kG ?_; first | refine WL.want rfl rfl rfl ?_ | refine WL.pass rfl rfl rfl rfl ?_) | (refine WL.k_move ?_; first | refine WL.step (Yl.move rfl) rfl ?_) | (refine WL.k_assign ?_; first | refine WL.step (Yl.assign rfl) rfl ?_) | (refine WL.k_load ?_; first | refine WL.step (Yl.load (T := 22) Try.isAgg22 rfl (Rd.old hr) g2) rfl ?_ | refine WL.step (Yl.load (T := 41) Try.isAgg41 rfl (Rd.old hr) g3) rfl ?_) | (refine WL.k_fld ?_; first | refine WL.step (Yl.fldEl (o := 2) (i := 2) (by kernel_rfl) (Rd.old hr) hne rfl) rfl ?_ | refine WL.step (Yl.fldEl (o := 3) (i := 3) (by kernel_rfl) (Rd.old hr) hne rfl) rfl ?_) | (refine WL.k_pick ?_; first | refine WL.step (Yl.pick_t rfl rfl rfl) rfl ?_ | refine WL.step (Yl.pick_f rfl rfl rfl) rfl ?_) | (refine WL.k_bi .len ?_; first | refine WL.step (Yl.len (t := 22) Try.underlying22 rfl) rfl ?_ | refine WL.step (Yl.len (t := 41) Try.underlying41 rfl) rfl ?_) | (refine WL.k_idxa ?_; first | refine WL.step (Yl.indexAddr (t := 57) (j := i) Try.underlying57 Try.sizeOf63 rfl rfl (Rd.old hr) hne hin) rfl ?_) | (refine WL.k_bin .gtr ?_; first | refine WL.step (Yl.gtrF rfl rfl (by omega)) rfl ?_ | refine WL.step (Yl.gtr rfl rfl) rfl ?_) | (refine WL.k_bin .lss ?_; first | refine WL.step (Yl.lss rfl rfl) rfl ?_) | (refine WL.k_bin .add ?_; first | refine WL.step (Yl.add64C rfl (by omega)) rfl ?_ | refine WL.step (Yl.addC64 rfl (by omega)) rfl ?_ | refine WL.step (Yl.add64N rfl rfl (by omega)) rfl ?_ | refine WL.step (Yl.add64 rfl rfl (by omega)) rfl ?_) | refine WC.seq ?_ | refine WC.region ?_ | refine WL.nil ?_ | refine WN.then_normal ?_ | refine WC.block ?_ | refine WC.skip ?_ | refine WC.exit ?_ | refine WC.ret ?_ | refine WN.then_exit ?_ | refine WN.then_ret ?_ | refine WN.block_normal ?_ | refine WN.block_ret ?_ | refine WN.block_here ?_ | refine WN.block_past (by decide) ?_))
        refine WC.cond_false rfl rfl ?_
        (repeat (first | (refine WL.kG ?_; first | refine WL.want rfl rfl rfl ?_ | refine WL.pass rfl rfl rfl rfl ?_) | (refine WL.k_move ?_; first | refine WL.step (Yl.move rfl) rfl ?_) | (refine WL.k_assign ?_; first | refine WL.step (Yl.assign rfl) rfl ?_) | (refine WL.k_pick ?_; first | refine WL.step (Yl.pick_t rfl rfl rfl) rfl ?_ | refine WL.step (Yl.pick_f rfl rfl rfl) rfl ?_) | (refine WL.k_bi .len ?_; first | refine WL.step (Yl.len (t := 22) Try.underlying22 rfl) rfl ?_) | (refine WL.k_bin .lss ?_; first | refine WL.step (Yl.lss rfl rfl) rfl ?_) | (refine WL.k_bin .gtr ?_; first | refine WL.step (Yl.gtr rfl rfl) rfl ?_) | (refine WL.k_bin .add ?_; first | refine WL.step (Yl.add64C rfl (by omega)) rfl ?_ | refine WL.step (Yl.addC64 rfl (by omega)) rfl ?_ | refine WL.step (Yl.add64N rfl rfl (by omega)) rfl ?_ | refine WL.step (Yl.add64 rfl rfl (by omega)) rfl ?_) | refine WC.seq ?_ | refine WC.region ?_ | refine WL.nil ?_ | refine WN.then_normal ?_ | refine WC.block ?_ | refine WC.skip ?_ | refine WC.exit ?_ | refine WC.ret ?_ | refine WN.then_exit ?_ | refine WN.then_ret ?_ | refine WN.block_normal ?_ | refine WN.block_ret ?_ | refine WN.block_here ?_ | refine WN.block_past (by decide) ?_))
        exact WN.next (i + 1) ⟨by omega, hmore (by omega) (by omega)⟩ (by omega) (by repeat (first | exact Sub.nil | refine Sub.cons rfl rfl ?_)) .nil
  · rw [decide_eq_true ⟨by omega, fun s hs => hp s (by rw [List.take_of_length_le (by omega)]; exact hs)⟩]
    (repeat (first | (refine WL.kG ?_; first | refine WL.want rfl rfl rfl ?_ | refine WL.pass rfl rfl rfl rfl ?_) | (refine WL.k_move ?_; first | refine WL.step (Yl.move rfl) rfl ?_) | (refine WL.k_assign ?_; first | refine WL.step (Yl.assign rfl) rfl ?_) | (refine WL.k_pick ?_; first | refine WL.step (Yl.pick_t rfl rfl rfl) rfl ?_ | refine WL.step (Yl.pick_f rfl rfl rfl) rfl ?_) | (refine WL.k_bi .len ?_; first | refine WL.step (Yl.len (t := 22) Try.underlying22 rfl) rfl ?_) | (refine WL.k_bin .lss ?_; first | refine WL.step (Yl.lss rfl rfl) rfl ?_) | (refine WL.k_bin .gtr ?_; first | refine WL.step (Yl.gtr rfl rfl) rfl ?_) | (refine WL.k_bin .add ?_; first | refine WL.step (Yl.add64C rfl (by omega)) rfl ?_ | refine WL.step (Yl.addC64 rfl (by omega)) rfl ?_ | refine WL.step (Yl.add64N rfl rfl (by omega)) rfl ?_ | refine WL.step (Yl.add64 rfl rfl (by omega)) rfl ?_) | refine WC.seq ?_ | refine WC.region ?_ | refine WL.nil ?_ | refine WN.then_normal ?_ | refine WC.block ?_ | refine WC.skip ?_ | refine WC.exit ?_ | refine WC.ret ?_ | refine WN.then_exit ?_ | refine WN.then_ret ?_ | refine WN.block_normal ?_ | refine WN.block_ret ?_ | refine WN.block_here ?_ | refine WN.block_past (by decide) ?_))
    exact WN.ret1 rfl rfl ⟨rfl, rfl⟩ .nil
end Go.Proofs.Ytjijjohhmokmmaa
