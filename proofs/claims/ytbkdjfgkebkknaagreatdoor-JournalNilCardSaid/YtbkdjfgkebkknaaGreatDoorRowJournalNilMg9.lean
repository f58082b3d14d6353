import Derived.Test.YtbkdjfgkebkknaaGreatDoorRowJournalNilMg8
import Derived.Test.YtbkdjfgkebkknaaGreatDoorRowJournalNilMg5
import Derived.Test.YtbkdjfgkebkknaaGreatDoorRowJournalNilMg4
import Derived.Maps.RangeRun
import Derived.ScopeJumps
/- Banks: all made durable; what cannot crash; sectors that are torn, by package sector and by the reference; sectors of one letter. -/
namespace Go.Proofs.YtbkdjfgkebkknaaGreatDoor
set_option linter.unusedVariables false
set_option linter.unusedSimpArgs false
open Go Go.RowKit
set_option maxRecDepth 100000
set_option maxHeartbeats 4000000
theorem elemZ : ElemT Tryz.prog 3 (.int .i64 0) 1 8 := ElemT.of (by kernel_rfl) rfl (by decide)
theorem cutOf32 {w : World} {a : Option Addr} {cap : Nat} {l : List UInt8} (lo m : Nat) (hr : CellsAt w a (bs l)) (hc : l.length ≤ cap) : CellsAt w (cutA a lo cap 1) (bs ((l.drop lo).take m)) := by
  have := Rd.cut (lo := lo) (cap := cap) (k := 1) (m := m) (Rd.old (P := Tryz.prog) (n := 0) (A := []) hr) (by rw [bs_length]; omega) w (St.start w)
  rwa [Nat.mul_one, ← bs_drop, ← bs_take] at this
theorem bs_put32 (l m : List UInt8) (k : Nat) : (bs l).take k ++ bs m ++ (bs l).drop (k + (bs m).length) = bs (l.take k ++ m ++ l.drop (k + m.length)) := by
  simp only [bs, List.map_append, List.map_take, List.map_drop, List.length_map]
attribute [local irreducible] WL WC WN Yl WH WQ WT WE WU WG
theorem bcrash_bad (v : Value) (a : Option Addr) (m c2 : Nat) (w : World) (h : BadAt w v) : Calls Tryz.prog 121 #[v, .slice a m c2] w (Gives (Val (.int .i64 1)) w) := by
  refine enter (args := [v, _]) Tryz.func121 Tryz.ntmps121 rfl rfl ?_
  obtain ⟨p, rfl⟩ : ∃ p, v = .pointer p := by cases h with
    | none => exact ⟨_, rfl⟩
    | zero bk _ => exact ⟨_, rfl⟩
  (repeat (first | refine WC.seq ?_ | refine WC.region ?_))
  refine WL.box rfl rfl fun b2 => ?_
  refine WL.box rfl rfl fun b3 => ?_
  (repeat (first | refine WL.step (Yl.assign rfl) rfl ?_ | (refine WL.k_load ?_; refine WL.step (Yl.loadBlk (T := 70) Tryz.isAgg70 rfl (by repeat (first | exact .head _ | refine .tail _ ?_)) (by rfl)) rfl ?_) | (refine WL.k_call 97 ?_; refine WL.callV (g := 97) (v := .bool false) Tryz.call97 rfl (fun w s => valid_bad w (h.keep s.kept)) rfl ?_) | refine WL.step (Yl.not rfl) rfl ?_ | refine WC.seq ?_ | refine WC.region ?_ | refine WL.nil ?_ | refine WN.then_normal ?_ | refine WC.block ?_))
  refine WC.cond_true rfl rfl ?_
  (repeat (first | refine WL.step (Yl.assign rfl) rfl ?_ | refine WC.seq ?_ | refine WC.region ?_ | refine WL.nil ?_ | refine WN.then_normal ?_ | refine WC.ret ?_ | refine WN.then_ret ?_ | refine WN.block_ret ?_))
  exact WN.ret1 rfl rfl ⟨rfl, rfl⟩ .nil
theorem bsync_bad (v : Value) (w : World) (h : BadAt w v) : Calls Tryz.prog 92 #[v] w (Gives (Val (.int .i64 1)) w) := by
  refine enter (args := [v]) Tryz.func92 Tryz.ntmps92 rfl rfl ?_
  (repeat (first | refine WL.step (Yl.move rfl) rfl ?_ | refine WL.step (Yl.assign rfl) rfl ?_ | refine WC.seq ?_ | refine WC.region ?_ | refine WL.nil ?_ | refine WN.then_normal ?_))
  refine WL.lit (t := 61) (vs := [.int .i64 128]) Tryz.underlying61 elemZ rfl rfl rfl (fun u hu => by rw [List.mem_singleton.1 hu]; rfl) rfl fun b9 => ?_
  (repeat (first | refine WL.step (Yl.assign rfl) rfl ?_ | (refine WL.k_call 121 ?_; refine WL.callV (g := 121) (v := .int .i64 1) Tryz.call121 rfl (fun w s => bcrash_bad v _ _ _ w (h.keep s.kept)) rfl ?_) | refine WL.nil ?_ | refine WN.then_normal ?_ | refine WC.ret ?_))
  exact WN.ret1 rfl rfl ⟨rfl, rfl⟩ .nil
section
variable {bk cap mb : Nat} {da : Option Addr} {d : List (List UInt8)} {F : Nat → Option (List UInt8)}
theorem bsync_r (M : List (Nat × List UInt8 × Nat)) (c : Nat) (w : World) (hwf : BkWf d F) (hcap : d.length ≤ cap) (hM : MapIs d.length F M c)
    (st : St w ((bankItems bk da cap mb d M c).filterMap HA.foot) (bankItems bk da cap mb d M c) w) :
    Calls Tryz.prog 92 #[bptr bk] w (GivesS ((bankItems bk da cap mb d M c).filterMap HA.foot) (BankV bk da cap mb (crashR [128] d F).1.1 (crashR [128] d F).1.2 (crashR [128] d F).2) w) := by
  refine enterS (args := [.pointer (some ⟨bk, 0, none⟩)]) Tryz.func92 Tryz.ntmps92 rfl rfl st ?_
  generalize hS : List.filterMap HA.foot (bankItems bk da cap mb d M c) = S at *
  rw [bankItems] at *
  (repeat (first | refine WL.step (Yl.move rfl) rfl ?_ | refine WL.step (Yl.assign rfl) rfl ?_ | refine WC.seq ?_ | refine WC.region ?_ | refine WL.nil ?_ | refine WN.then_normal ?_))
  refine WL.lit (t := 61) (vs := [.int .i64 128]) Tryz.underlying61 elemZ rfl rfl rfl (fun u hu => by rw [List.mem_singleton.1 hu]; rfl) rfl fun b9 => ?_
  rw [show flat [Value.int .i64 128] = zcells [128] from rfl]
  skip
  refine WL.callS3 Tryz.call121 rfl (.there .here) (.there .here) (.there .here) (fun w s hp s1 => bcrash_r _ 1 1 [128] M c w hwf hcap hM rfl (by decide) s1 (row_out s hp (.head _))) rfl fun v C hv => ?_
  obtain ⟨M', c', hM', rfl, rfl⟩ := hv
  rw [bankItems]
  simp only [List.cons_append, List.nil_append]
  (repeat (first | refine WL.step (Yl.assign rfl) rfl ?_ | refine WL.nil ?_ | refine WN.then_normal ?_ | refine WC.ret ?_))
  refine WN.ret1S rfl rfl ⟨M', c', hM', rfl, rfl⟩ ?_
  rw [bankItems]
  exact (by repeat (first | exact Part.nil | refine Part.cons (by repeat (first | exact Pick.here | apply Pick.there)) ?_ | refine Part.free ?_))
end
def tearR (l m : List UInt8) (k : Int) : List UInt8 × Nat := if l.length = 128 ∧ m.length = 128 ∧ 0 ≤ k ∧ k ≤ 128 then (m.take k.toNat ++ l.drop k.toNat, 0) else ([], 2)
theorem tearR_len (l m : List UInt8) (k : Int) : (tearR l m k).1.length ≤ 128 := by
  unfold tearR; split
  · simp only [List.length_append, List.length_take, List.length_drop]; omega
  · simp
end Go.Proofs.YtbkdjfgkebkknaaGreatDoor
/- Banks: plain facts; the examples of the chapter. -/
namespace Go.Proofs.YtbkdjfgkebkknaaGreatDoor
set_option linter.unusedVariables false
set_option linter.unusedSimpArgs false
open Go Go.RowKit
set_option maxRecDepth 100000
theorem write_wf {d : List (List UInt8)} {F : Nat → Option (List UInt8)} (h : BkWf d F) (s : Int) (x : List UInt8) : BkWf d (writeF d.length F s x) := by
  refine ⟨h.pos, h.le, h.len, fun k v hv => ?_⟩
  unfold writeF at hv
  split at hv
  · rename_i hc
    unfold setF at hv
    split at hv
    · cases hv; exact hc.2
    · exact h.val k v hv
  · exact h.val k v hv
theorem cfold_wf {K : List Int} (hk : keepOk K) : ∀ {pre : List Nat} {s : BSt}, BkWf s.1 s.2 → (∀ x ∈ pre, x < s.1.length) → BkWf (cfold K s pre).1 (cfold K s pre).2 ∧ (cfold K s pre).1.length = s.1.length := by
  intro pre
  obtain ⟨n, hn⟩ : ∃ n, pre.length = n := ⟨_, rfl⟩
  induction n generalizing pre with
  | zero => intro s h _; rw [List.eq_nil_of_length_eq_zero hn]; exact ⟨h, rfl⟩
  | succ n ih =>
    intro s h hx
    rcases List.eq_nil_or_concat pre with rfl | ⟨l, x, rfl⟩
    · simp at hn
    · rw [List.concat_eq_append] at *
      obtain ⟨h1, h2⟩ := ih (by simpa using hn) h (fun y hy => hx y (List.mem_append_left _ hy))
      rw [cfold_snoc]
      exact ⟨cstep_wf h1 (by rw [h2]; exact hx x (by simp)) (keepAt_le hk _).1, by rw [cstep_len, h2]⟩
theorem crash_wf {d : List (List UInt8)} {F : Nat → Option (List UInt8)} (K : List Int) (h : BkWf d F) : BkWf (crashR K d F).1.1 (crashR K d F).1.2 ∧ (crashR K d F).1.1.length = d.length := by
  unfold crashR
  split
  · rename_i hk
    exact cfold_wf (s := (d, F)) hk h (fun x hx => dirty_lt hx)
  · exact ⟨h, rfl⟩
theorem new_wf {n : Nat} (h1 : 1 ≤ n) (h2 : n ≤ 4096) : BkWf (List.replicate n zblk) (fun _ => none) :=
  ⟨by rw [List.length_replicate]; omega, by rw [List.length_replicate]; exact h2, fun x hx => by rw [List.eq_of_mem_replicate hx]; rfl, fun k v h => (by cases h)⟩
abbrev letter (c : UInt8) : List UInt8 := List.replicate 128 c
theorem works_plain : ∃ (d0 : List (List UInt8)) (F1 F2 : Nat → Option (List UInt8)) (d1 : List (List UInt8)) (F5 F6 : Nat → Option (List UInt8)) (d2 : List (List UInt8)) (F7 : Nat → Option (List UInt8)) (d3 : List (List UInt8)) (F8 : Nat → Option (List UInt8)),
    d0 = List.replicate 3 zblk ∧ BkWf d0 (fun _ => none) ∧ d0.length = 3 ∧
    writeF d0.length (fun _ => none) 0 (letter 97) = F1 ∧ writeE d0.length 0 (letter 97) = 0 ∧ BkWf d0 F1 ∧
    writeF d0.length F1 2 (letter 98) = F2 ∧ writeE d0.length 2 (letter 98) = 0 ∧ BkWf d0 F2 ∧
    writeF d0.length F2 3 (letter 97) = F2 ∧ writeE d0.length 3 (letter 97) = 3 ∧
    writeF d0.length F2 0 ((letter 97).drop 1) = F2 ∧ writeE d0.length 0 ((letter 97).drop 1) = 2 ∧
    dirtyOf d0.length F2 = [0, 2] ∧
    crashR [5, 128] d0 F2 = ((d1, F5), 0) ∧ BkWf d1 F5 ∧ d1.length = d0.length ∧
    readR d1 F5 0 = (List.replicate 5 97 ++ List.replicate (128 - 5) 0, 0) ∧ readR d1 F5 2 = (List.replicate 128 98 ++ List.replicate (128 - 128) 0, 0) ∧ dirtyOf d1.length F5 = [] ∧
    writeF d1.length F5 2 (letter 99) = F6 ∧ writeE d1.length 2 (letter 99) = 0 ∧ BkWf d1 F6 ∧
    crashR [128] d1 F6 = ((d2, F7), 0) ∧ BkWf d2 F7 ∧ d2.length = d1.length ∧
    crashR [0] d2 F7 = ((d3, F8), 0) ∧ BkWf d3 F8 ∧ d3.length = d2.length ∧
    readR d3 F8 2 = (List.replicate 128 99 ++ List.replicate (128 - 128) 0, 0) ∧
    crashR [] d3 F8 = ((d3, F8), 2) ∧ crashR [129] d3 F8 = ((d3, F8), 2) := by
  have w0 := new_wf (n := 3) (by decide) (by decide)
  have w1 := write_wf w0 0 (letter 97)
  have w2 := write_wf w1 2 (letter 98)
  have w5 := crash_wf [5, 128] w2
  have w6 := write_wf w5.1 2 (letter 99)
  have w7 := crash_wf [128] w6
  have w8 := crash_wf [0] w7.1
  have e5 : (crashR [5, 128] (List.replicate 3 zblk) (writeF (List.replicate 3 zblk).length (writeF (List.replicate 3 zblk).length (fun _ => none) 0 (letter 97)) 2 (letter 98))).2 = 0 := by decide +kernel
  refine ⟨_, _, _, _, _, _, _, _, _, _, rfl, w0, List.length_replicate, rfl, ?_, w1, rfl, ?_, w2, ?_, ?_, ?_, ?_, ?_, ?_, w5.1, w5.2, ?_, ?_, ?_, rfl, ?_, w6, ?_, w7.1, w7.2, ?_, w8.1, w8.2, ?_, ?_, ?_⟩
  · decide +kernel
  · decide +kernel
  · rw [writeF, if_neg (by decide +kernel)]
  · decide +kernel
  · rw [writeF, if_neg (by decide +kernel)]
  · decide +kernel
  · decide +kernel
  · exact Prod.ext (Prod.ext rfl rfl) e5
  · decide +kernel
  · decide +kernel
  · decide +kernel
  · decide +kernel
  · exact Prod.ext (Prod.ext rfl rfl) (by decide +kernel)
  · exact Prod.ext (Prod.ext rfl rfl) (by decide +kernel)
  · decide +kernel
  · rw [crashR, if_neg (by decide)]
  · rw [crashR, if_neg (by decide)]
end Go.Proofs.YtbkdjfgkebkknaaGreatDoor
/- What 'has' sees; the examples of the chapter. -/
namespace Go.Proofs.YtbkdjfgkebkknaaGreatDoor
set_option linter.unusedVariables false
set_option linter.unusedSimpArgs false
open Go Go.RowKit
set_option maxRecDepth 100000
set_option maxHeartbeats 8000000
theorem two_get {n k : Nat} {c r : UInt8} (hk : k < 128) (hn : n ≤ 128) : (List.replicate n c ++ List.replicate (128 - n) r).getD k 0 = if k < n then c else r := by
  rw [List.getD_eq_getElem?_getD]
  by_cases h : k < n
  · rw [if_pos h, List.getElem?_append_left (by rw [List.length_replicate]; exact h)]; simp [h]
  · rw [if_neg h, List.getElem?_append_right (by rw [List.length_replicate]; omega), List.length_replicate, List.getElem?_replicate, if_pos (by omega)]; rfl
theorem two_len {n : Nat} (c r : UInt8) (hn : n ≤ 128) : (List.replicate n c ++ List.replicate (128 - n) r).length = 128 := by simp; omega
theorem CellsOut.cut {w : World} {S : List Nat} {a : Option Addr} {l : List UInt8} {cap : Nat} (h : CellsOut w S a (bs l)) (lo m : Nat) (hl : l.length ≤ cap) : CellsOut w S (cutA a lo cap 1) (bs ((l.drop lo).take m)) := by
  rcases h with h | ⟨b, off, rfl, hb, hc⟩
  · refine .inl ?_
    have : l = [] := by simpa [bs] using h
    subst this; simp [bs]
  · by_cases he : cap = lo
    · refine .inl ?_
      rw [List.drop_eq_nil_of_le (by omega)]; simp [bs]
    · refine .inr ⟨b, off + lo, by simp only [cutA, if_neg he, Option.map_some, Addr.add, Nat.mul_one]; split <;> simp_all, hb, fun i v hv => ?_⟩
      have hv2 : (bs l)[lo + i]? = some v := by
        have e : bs ((l.drop lo).take m) = ((bs l).drop lo).take m := by simp [bs, List.map_take, List.map_drop]
        rw [e, List.getElem?_take] at hv
        split at hv
        · rwa [List.getElem?_drop] at hv
        · cases hv
      rw [Nat.add_assoc]
      exact hc _ v hv2
theorem CellsOut.cutd {w : World} {S : List Nat} {a : Option Addr} {l : List UInt8} {cap : Nat} (h : CellsOut w S a (bs l)) (lo : Nat) (hl : l.length ≤ cap) : CellsOut w S (cutA a lo cap 1) (bs (l.drop lo)) := by
  have := h.cut lo (l.drop lo).length hl
  rwa [List.take_of_length_le (Nat.le_refl _)] at this
attribute [local irreducible] WL WC WN Yl WH WQ WT WE WU WG
end Go.Proofs.YtbkdjfgkebkknaaGreatDoor
/- Rows of steps: what lies in memory, and which rows are few. -/
namespace Go.Proofs.YtbkdjfgkebkknaaGreatDoor
set_option linter.unusedVariables false
set_option linter.unusedSimpArgs false
open Go Go.RowKit
set_option maxRecDepth 100000
set_option maxHeartbeats 8000000
section
variable {α β : Type} {f : α → List β} {k : Nat}
theorem chunk : ∀ {l : List α} {i : Nat} {x : α}, (∀ y ∈ l, (f y).length = k) → l[i]? = some x → ((l.flatMap f).drop (i * k)).take k = f x := by
  intro l
  induction l with
  | nil => intro i x _ h; simp at h
  | cons y l ih =>
    intro i x hk h
    have hy := hk y (by simp)
    rw [List.flatMap_cons]
    cases i with
    | zero =>
      simp only [List.getElem?_cons_zero, Option.some.injEq] at h
      subst h
      rw [Nat.zero_mul, List.drop_zero, List.take_append_of_le_length (by omega), List.take_of_length_le (by omega)]
    | succ i =>
      rw [List.getElem?_cons_succ] at h
      rw [show (i + 1) * k = (f y).length + i * k by rw [hy, Nat.succ_mul]; omega, List.drop_length_add_append]
      exact ih (fun z hz => hk z (by simp [hz])) h
theorem chunk_get {l : List α} {i j : Nat} {x : α} (hk : ∀ y ∈ l, (f y).length = k) (h : l[i]? = some x) (hj : j < k) : (l.flatMap f)[i * k + j]? = (f x)[j]? := by
  rw [← chunk hk h, List.getElem?_take, if_pos hj, List.getElem?_drop]
theorem flat_len : ∀ {l : List α}, (∀ x ∈ l, (f x).length = k) → (l.flatMap f).length = l.length * k := by
  intro l
  induction l with
  | nil => intro _; simp
  | cons y l ih => intro h; rw [List.flatMap_cons, List.length_append, ih (fun z hz => h z (by simp [hz])), h y (by simp), List.length_cons, Nat.succ_mul]; omega
end
structure Step where
  act : Int
  sec : Int
  a : Option Addr
  n : Nat
  c : Nat
  l : List UInt8
  a2 : Option Addr
  n2 : Nat
  c2 : Nat
  K : List Int
def Step.cs (s : Step) : List Value := [.int .i64 s.act, .int .i64 s.sec, .slice s.a s.n s.c, .slice s.a2 s.n2 s.c2]
structure Step.Ok (s : Step) (w : World) : Prop where
  hl : s.l.length = s.n
  hc : s.n ≤ s.c
  hm : s.c ≤ 9223372036854775807
  hr : CellsAt w s.a (bs s.l)
  hl2 : s.K.length = s.n2
  hc2 : s.n2 ≤ s.c2
  hm2 : s.c2 ≤ 9223372036854775807
  hr2 : CellsAt w s.a2 (zcells s.K)
theorem Step.Ok.keep {s : Step} {w w' : World} (h : s.Ok w) (k : Kept w [] w') : s.Ok w' := ⟨h.hl, h.hc, h.hm, h.hr.keep k, h.hl2, h.hc2, h.hm2, h.hr2.keep k⟩
theorem Step.len (s : Step) : s.cs.length = 4 := rfl
def fewOk (S : List Step) (m : Int) : Prop := (S.length : Int) ≤ m ∧ ∀ s ∈ S, s.n ≤ 200 ∧ s.n2 ≤ 20
instance (S : List Step) (m : Int) : Decidable (fewOk S m) := inferInstanceAs (Decidable (_ ∧ _))
attribute [local irreducible] WL WC WN Yl WH WQ WT WE WU WG
end Go.Proofs.YtbkdjfgkebkknaaGreatDoor
/- Rows of byte strings that are never written again. -/
namespace Go.Proofs.YtbkdjfgkebkknaaGreatDoor
set_option linter.unusedVariables false
set_option linter.unusedSimpArgs false
open Go Go.RowKit
set_option maxRecDepth 100000
structure Sl where
  a : Option Addr
  c : Nat
  l : List UInt8
def Sl.v (s : Sl) : Value := .slice s.a s.l.length s.c
def Sl.nil : Sl := ⟨none, 0, []⟩
instance : Inhabited Sl := ⟨Sl.nil⟩
def svs (L : List Sl) : List Value := L.map Sl.v
theorem svs_len (L : List Sl) : (svs L).length = L.length := List.length_map _
theorem svs_at {L : List Sl} {i : Nat} (h : i < L.length) : (svs L)[i]? = some (L.getD i Sl.nil).v := by simp [svs, List.getD, h]
theorem svs_ne {L : List Sl} {i : Nat} (h : i < L.length) : svs L ≠ [] := ne_nil_of (svs_at h)
theorem svs_set (L : List Sl) (i : Nat) (s : Sl) : (svs L).set i s.v = svs (L.set i s) := by simp [svs, List.map_set]
theorem svs_one (L : List Sl) : ∀ u ∈ svs L, u.oneCell' = true := fun u h => by
  obtain ⟨s, _, rfl⟩ := List.mem_map.1 h; rfl
theorem sl_mem {L : List Sl} {i : Nat} (h : i < L.length) : L.getD i Sl.nil ∈ L := by
  have : L[i]? = some (L.getD i Sl.nil) := by simp [List.getD, h]
  exact List.mem_of_getElem? this
theorem sl_set_same {L : List Sl} {i : Nat} (h : i < L.length) (s : Sl) : (L.set i s).getD i Sl.nil = s := by simp [List.getD, h]
theorem sl_set_ne {L : List Sl} {i j : Nat} (h : i ≠ j) (s : Sl) : (L.set i s).getD j Sl.nil = L.getD j Sl.nil := by simp [List.getD, List.getElem?_set_ne h]
/-- The bytes lie in a row of the caller's that is listed. -/
def InF (Z : List HA) (s : Sl) : Prop := s.l = [] ∨ (s.l.length ≤ s.c ∧ ∃ T, HA.row s.a s.c T 1 (bs s.l) ∈ Z)
def OutF (w : World) (S : List Nat) (s : Sl) : Prop := s.l.length ≤ s.c ∧ CellsOut w S s.a (bs s.l)
theorem InF.mono {Z Z' : List HA} {s : Sl} (h : InF Z s) (hz : ∀ x ∈ Z, x ∈ Z') : InF Z' s := h.imp id fun ⟨h1, T, h2⟩ => ⟨h1, T, hz _ h2⟩
theorem InF.nil (Z : List HA) : InF Z Sl.nil := .inl rfl
theorem InF.rd {X : Cx} {A Z : List HA} {s : Sl} (h : InF Z s) (hz : ∀ x ∈ Z, x ∈ A) : Rd X A s.a (bs s.l) := by
  rcases h with h | ⟨_, T, h⟩
  · rw [h]; exact .nil
  · exact .row (hz _ h)
theorem InF.out {w0 w : World} {S : List Nat} {A A0 B : List HA} {s : Sl} (h : InF B s) (st : St w0 S A w) (hp : A.Perm (A0 ++ B)) : CellsOut w (A0.filterMap HA.foot) s.a (bs s.l) := by
  rcases h with h | ⟨_, T, h⟩
  · rw [h]; exact .inl rfl
  · exact row_out st hp h
theorem WL.know {X : Cx} {ops : Array Oper} {Q : Exit → Act → World → Prop} {ρ : Env} {A : List HA} {rest : List Oper} {p : Prop} (h : ∀ w, St X.w0 X.S A w → p) (k : p → WL X ops Q rest ρ A) : WL X ops Q rest ρ A := fun a w f s => k (h w s) a w f s
theorem Rd.is_some {X : Cx} {A : List HA} {a : Option Addr} {vs : List Value} (h : Rd X A a vs) (hv : vs ≠ []) : ∀ w, St X.w0 X.S A w → a.isSome = true := fun w s => by
  obtain ⟨ad, rfl⟩ := h.some_ hv s; rfl
theorem Yl.indexAddrS {X : Cx} {A : List HA} {ρ : Env} {ty : TypeId} {x y : Operand} {t e : TypeId} {ad : Addr} {n cap j : Nat} {ik : IntKind} (hu : X.P.underlying t = some (.slice e)) (hs : ∀ w, (sizeOf e).run X.P w = .ok 1 w)
    (hx : ev ρ x = some (.slice (some ad) n cap)) (hy : ev ρ y = some (.int ik (j : Int))) (hj : j < n) : Yl X (.indexAddr t x y) ty ρ A (.pointer (el (some ad) j)) := fun o ho _ ac w f s => by
  simp [execOp, ho, f.ev hx, f.ev hy, Instr.indexAt, asIntOf, run_underlying hu, hj, hs, el]
theorem Yl.neqNil {X : Cx} {A : List HA} {ρ : Env} {ty : TypeId} {x : Operand} {t u e : TypeId} {a : Option Addr} {n cap : Nat} (hu : X.P.underlying t = some (.slice e)) (hx : ev ρ x = some (.slice a n cap)) :
    Yl X (.binOp .neq t x (.const (.slice none 0 0)) u) ty ρ A (.bool a.isSome) := fun o ho _ ac w f _ => by
  have hb : (binOp .neq t (.slice a n cap) (.slice none 0 0)).run X.P w = .ok (.bool a.isSome) w := by
    simp only [binOp]
    simp [Op.equal, Op.maxDepth, run_equalIn_nil hu 9999]
  have hg : ∀ x y, (eqGuard .neq t x y (.slice a n cap) (.slice none 0 0)).run X.P w = .ok () w := fun _ _ => rfl
  have hc : ac.eval (.const (.slice none 0 0)) = .slice none 0 0 := rfl
  simp only [execOp, ho, f.ev hx, hc, Sem.run_bind, hg, Result.andThen_ok, hb, Sem.run_pure]
theorem Part.more {A : List HA} {x : HA} {B : List HA} (h : Part A B) : Part (x :: A) B := by
  induction h with
  | nil => exact .nil
  | cons p _ ih =>
    refine .cons (.there p) ih
  | free _ ih => exact .free ih
theorem Part.refl : ∀ (A : List HA), Part A A
  | [] => .nil
  | _ :: A => .cons .here (Part.refl A)
theorem Part.suffix : ∀ (Y : List HA) {A : List HA}, Part (Y ++ A) A
  | [], A => Part.refl A
  | y :: Y, A => (Part.suffix Y).more
theorem Pick.app {x : HA} : ∀ (Z : List HA) {A B : List HA}, Pick x A B → Pick x (Z ++ A) (Z ++ B)
  | [], _, _, p => p
  | _ :: Z, _, _, p => .there (Pick.app Z p)
theorem Part.pre : ∀ (Z : List HA) {A : List HA}, Part (Z ++ A) Z
  | [], _ => .nil
  | _ :: Z, _ => .cons .here (Part.pre Z)
theorem Part.swap (Z : List HA) {B C : List HA} (h : Part B C) : Part (Z ++ B) (C ++ Z) := by
  induction h with
  | nil => exact Part.pre Z
  | cons p _ ih => exact .cons (Pick.app Z p) ih
  | free _ ih => exact .free ih
theorem Part.app (Z : List HA) {B C : List HA} (h : Part B C) : Part (Z ++ B) (Z ++ C) := by
  induction Z with
  | nil => exact h
  | cons z Z ih => exact .cons .here ih
/-- What is known of a bank: the durable bytes of each sector, and the fresh ones. -/
structure KnOk (os fs : List Sl) (d : List (List UInt8)) (F : Nat → Option (List UInt8)) : Prop where
  ol : os.length = d.length
  fl : fs.length = d.length
  od : ∀ i, i < d.length → (os.getD i Sl.nil).l = d.getD i []
  fd : ∀ i, i < d.length → F i = none ∧ fs.getD i Sl.nil = Sl.nil ∨ F i = some (fs.getD i Sl.nil).l
section
variable {os fs : List Sl} {d : List (List UInt8)} {F : Nat → Option (List UInt8)}
theorem KnOk.write (h : KnOk os fs d F) {i : Nat} (t : Sl) : KnOk os (fs.set i t) d (setF F i (some t.l)) := by
  refine ⟨h.ol, by rw [List.length_set, h.fl], h.od, fun j hj => ?_⟩
  by_cases e : i = j
  · subst e
    rw [sl_set_same (by rw [h.fl]; exact hj)]
    exact .inr (by simp [setF])
  · rw [sl_set_ne e]
    have := h.fd j hj
    rw [show setF F i (some t.l) j = F j by simp [setF, Ne.symm e]]
    exact this
theorem KnOk.crash {K : List Int} {s : BSt} (h : KnOk os fs s.1 s.2) {i j : Nat} (t : Sl) (ht : t.l = ((s.2 i).getD zblk).take (keepAt K j) ++ (s.1.getD i []).drop (keepAt K j)) : KnOk (os.set i t) (fs.set i Sl.nil) (cstep K s j i).1 (cstep K s j i).2 := by
  have hl : (cstep K s j i).1.length = s.1.length := cstep_len K s j i
  refine ⟨by rw [List.length_set, hl, h.ol], by rw [List.length_set, hl, h.fl], fun k hk => ?_, fun k hk => ?_⟩
  · rw [hl] at hk
    by_cases e : i = k
    · subst e
      rw [sl_set_same (by rw [h.ol]; exact hk), ht]
      simp [cstep, List.getD, hk]
    · rw [sl_set_ne e, h.od k hk]
      simp [cstep, List.getD, List.getElem?_set_ne e]
  · rw [hl] at hk
    by_cases e : i = k
    · subst e
      rw [sl_set_same (by rw [h.fl]; exact hk)]
      exact .inl ⟨by simp [cstep, setF], rfl⟩
    · rw [sl_set_ne e, show (cstep K s j i).2 k = s.2 k by simp [cstep, setF, Ne.symm e]]
      exact h.fd k hk
end
def dpre (F : Nat → Option (List UInt8)) (i : Nat) : List Nat := (List.range i).filter fun k => (F k).isSome
theorem dpre_none {F : Nat → Option (List UInt8)} {i : Nat} (h : F i = none) : dpre F (i + 1) = dpre F i := by simp [dpre, List.range_succ, List.filter_append, h]
theorem dpre_some {F : Nat → Option (List UInt8)} {i : Nat} {u : List UInt8} (h : F i = some u) : dpre F (i + 1) = dpre F i ++ [i] := by simp [dpre, List.range_succ, List.filter_append, h]
theorem dpre_le (F : Nat → Option (List UInt8)) (i : Nat) : (dpre F i).length ≤ i := by
  have := List.length_filter_le (fun k => (F k).isSome) (List.range i)
  rwa [List.length_range] at this
theorem dpre_all (F : Nat → Option (List UInt8)) (n : Nat) : dpre F n = dirtyOf n F := rfl
end Go.Proofs.YtbkdjfgkebkknaaGreatDoor
/- Memory in another order. -/
namespace Go.Proofs.YtbkdjfgkebkknaaGreatDoor
set_option linter.unusedVariables false
set_option linter.unusedSimpArgs false
open Go Go.RowKit
theorem Pick.of_mem {x : HA} : ∀ {A : List HA}, x ∈ A → ∃ B, Pick x A B
  | y :: A, h => by
    rcases List.mem_cons.1 h with rfl | h
    · exact ⟨A, .here⟩
    · obtain ⟨B, p⟩ := Pick.of_mem h
      exact ⟨y :: B, .there p⟩
theorem Part.perm : ∀ {B A : List HA}, A.Perm B → Part A B
  | [], _, _ => .nil
  | x :: B, A, h => by
    obtain ⟨A', p⟩ := Pick.of_mem (h.mem_iff.2 (.head _))
    exact .cons p (Part.perm ((List.perm_cons x).1 (p.perm.symm.trans h)))
theorem perm3 (a b r : List HA) : (a ++ (b ++ r)).Perm (b ++ (a ++ r)) := by
  classical
  rw [List.perm_iff_count]; intro x; simp only [List.count_append]; omega
theorem WL.part {X : Cx} {ops : Array Oper} {Q : Exit → Act → World → Prop} {l : List Oper} {ρ : Env} {A B : List HA} (hp : Part A B) (h : WL X ops Q l ρ B) : WL X ops Q l ρ A := fun a w f s => h a w f (s.part hp)
theorem WC.part {X : Cx} {c : Code} {Q : Exit → Act → World → Prop} {ρ : Env} {A B : List HA} (hp : Part A B) (h : WC X c Q ρ B) : WC X c Q ρ A := fun a w f s => h a w f (s.part hp)
/-- The rows behind are given a name. -/
theorem WL.hide {X : Cx} {ops : Array Oper} {Q : Exit → Act → World → Prop} {l : List Oper} {ρ : Env} {D Z : List HA} (h : ∀ Z2, Z2 = Z → WL X ops Q l ρ (D ++ Z2)) : WL X ops Q l ρ (D ++ Z) := h Z rfl
end Go.Proofs.YtbkdjfgkebkknaaGreatDoor
/- Operations that the journal needs: jumps to labels within a scope; maps that are walked through, and entries of maps; a full slice expression. -/
namespace Go.Proofs.YtbkdjfgkebkknaaGreatDoor
set_option linter.unusedVariables false
set_option linter.unusedSimpArgs false
open Go Go.RowKit
open Go.ChangeMaps (setBlock)
set_option maxRecDepth 100000
/-! ### Jumps -/
def Jmp (J : Nat → Act → World → Prop) (Q : Exit → Act → World → Prop) : Exit → Act → World → Prop
  | .goto l, a, w => J l a w
  | e, a, w => Q e a w
theorem wp_scope_ghost {γ : Type} {P : Program} {a : Act} {w : World} {Q : Exit → Act → World → Prop} {c : Code} (lab : γ → Nat) (R : γ → Code) (J : γ → Act → World → Prop) (μ : γ → Nat) (hf : ∀ g, findLabel c (lab g) = some (R g))
    (first : c.wp P (Jmp (fun l a w => ∃ g, lab g = l ∧ J g a w) Q) a w)
    (pass : ∀ g a w, J g a w → (R g).wp P (Jmp (fun l a' w' => ∃ g', lab g' = l ∧ J g' a' w' ∧ μ g' < μ g) Q) a w) : (Code.scope c).wp P Q a w := by
  intro b k cs
  have hg : ∀ g, gotoIn (lab g) (.inScope c :: k) = some (.code (R g) :: .inScope c :: k) := fun g => by simp [gotoIn, hf g]
  have key : ∀ n g a w, μ g = n → J g a w → ∃ e a' w', Q e a' w' ∧ Arrives P (lone (b.at a (.code (R g) :: .inScope c :: k)) cs w) b k cs e a' w' := by
    intro n
    induction n using Nat.strongRecOn with
    | _ n ih =>
      intro g a w hn hJ
      obtain ⟨e, a₁, w₁, hq, harr⟩ := pass g a w hJ b (.inScope c :: k) cs
      cases e with
      | normal => exact ⟨.normal, a₁, w₁, hq, Steps.trans harr (.one step_inScope)⟩
      | exit id => exact ⟨.exit id, a₁, w₁, hq, fun k' hk => harr k' (by simp [exitTo, hk])⟩
      | goto l' =>
        obtain ⟨g', rfl, hJ', hlt⟩ := hq
        obtain ⟨e₂, a₂, w₂, hq₂, harr₂⟩ := ih _ (by omega) g' a₁ w₁ rfl hJ'
        exact ⟨e₂, a₂, w₂, hq₂, .of_steps (harr _ (hg g')) harr₂⟩
      | ret => exact ⟨_, a₁, w₁, hq, harr⟩
      | panic ch => exact ⟨_, a₁, w₁, hq, harr⟩
      | outgrown => exact ⟨_, a₁, w₁, hq, harr⟩
  obtain ⟨e, a₁, w₁, hq, harr⟩ := first b (.inScope c :: k) cs
  cases e with
  | normal => exact ⟨.normal, a₁, w₁, hq, .head step_scope (Steps.trans harr (.one step_inScope))⟩
  | exit id => exact ⟨.exit id, a₁, w₁, hq, fun k' hk => .head step_scope (harr k' (by simp [exitTo, hk]))⟩
  | goto l' =>
    obtain ⟨g', rfl, hJ'⟩ := hq
    obtain ⟨e₂, a₂, w₂, hq₂, harr₂⟩ := key _ g' a₁ w₁ rfl hJ'
    exact ⟨e₂, a₂, w₂, hq₂, .of_steps (.head step_scope (harr _ (hg g'))) harr₂⟩
  | ret => exact ⟨_, a₁, w₁, hq, .of_steps (.one step_scope) harr⟩
  | panic ch => exact ⟨_, a₁, w₁, hq, .of_steps (.one step_scope) harr⟩
  | outgrown => exact ⟨_, a₁, w₁, hq, .of_steps (.one step_scope) harr⟩
def GJ {γ : Type} (X : Cx) (E : γ → Env) (B : γ → List HA) (H : γ → Prop) (lab : γ → Nat) (p : γ → Prop) (l : Nat) (a : Act) (w : World) : Prop := ∃ g, lab g = l ∧ p g ∧ H g ∧ Fr X.n (E g) a ∧ St X.w0 X.S (B g) w
section
variable {γ : Type} {X : Cx} {Q : Exit → Act → World → Prop} {ρ : Env} {A : List HA} {E : γ → Env} {B : γ → List HA} {H : γ → Prop} {lab : γ → Nat} {p : γ → Prop} {J : Nat → Act → World → Prop} {K : Act → World → Prop}
theorem WC.scopeG (E : γ → Env) (B : γ → List HA) (H : γ → Prop) (lab : γ → Nat) (R : γ → Code) (μ : γ → Nat) {c : Code} (hf : ∀ g, findLabel c (lab g) = some (R g)) (first : WC X c (Jmp (GJ X E B H lab fun _ => True) Q) ρ A)
    (pass : ∀ g, H g → WC X (R g) (Jmp (GJ X E B H lab fun g' => μ g' < μ g) Q) (E g) (B g)) : WC X (.scope c) Q ρ A := fun a w f s =>
  wp_scope_ghost lab R (fun g a w => H g ∧ Fr X.n (E g) a ∧ St X.w0 X.S (B g) w) μ hf
    (wp_mono (first a w f s) fun e a' w' hq => by
      cases e with
      | goto l => obtain ⟨g, hl, _, hg, f', s'⟩ := hq; exact ⟨g, hl, hg, f', s'⟩
      | _ => exact hq)
    (fun g a w ⟨hg, f', s'⟩ => wp_mono (pass g hg a w f' s') fun e a' w' hq => by
      cases e with
      | goto l => obtain ⟨g', hl, hp, hg', f2, s2⟩ := hq; exact ⟨g', hl, ⟨hg', f2, s2⟩, hp⟩
      | _ => exact hq)
theorem WN.jump {l : Nat} (g : γ) (hl : lab g = l) (hp : p g) (hg : H g) (hs : Sub ρ (E g)) (hm : Part A (B g)) : WN X (Jmp (GJ X E B H lab p) Q) (.goto l) ρ A := fun _ _ f s => ⟨g, hl, hp, hg, f.of_sub hs, s.part hm⟩
theorem WC.goto {l : Nat} (h : WN X Q (.goto l) ρ A) : WC X (.goto l) Q ρ A := fun a w f s => wp_goto (h a w f s)
theorem WN.then_goto {l : Nat} (h : WN X Q (.goto l) ρ A) : WN X (Exit.then K Q) (.goto l) ρ A := h
theorem WN.block_goto {l id : Nat} (h : WN X Q (.goto l) ρ A) : WN X (Exit.inBlock id Q) (.goto l) ρ A := h
theorem WN.jmp_normal (h : WN X Q .normal ρ A) : WN X (Jmp J Q) .normal ρ A := h
theorem WN.jmp_ret (h : WN X Q .ret ρ A) : WN X (Jmp J Q) .ret ρ A := h
theorem WN.jmp_exit {id : Nat} (h : WN X Q (.exit id) ρ A) : WN X (Jmp J Q) (.exit id) ρ A := h
end
/-! ### Maps -/
section
variable {β : Type} {X : Cx} {ops : Array Oper} {Q : Exit → Act → World → Prop} {ρ : Env} {A B : List HA} {rest : List Oper} {d : Tmp} {ty : TypeId} {ps : String} {af : Array Edge} {v : Value}
variable {n c b k r : Nat} {F : Nat → Option β} {M : List (Nat × β × Nat)} {enc : β → Value} {t K E : TypeId} {x y : Operand} {seen : Array Nat}
theorem MapIs.len (h : MapIs n F M c) : M.length = (dirtyOf n F).length := by
  have hp := h.sorted (ss := M.map fun x => (x.1 : Int)) (List.Perm.refl _)
  have := congrArg List.length hp
  rwa [List.length_mergeSort, List.length_map, List.length_map] at this
theorem Yl.lenMap (hu : X.P.underlying t = some (.map K E)) (hx : ev ρ x = some (.map (some b))) (hM : MapIs n F M c) (hm : Has X A b (mobj enc M c)) :
    Yl X (.call { callee := .builtin .len, args := #[x], argTypes := #[t] }) ty ρ A (.int .i64 ((dirtyOf n F).length : Int)) := Yl.intro fun o ho _ a w f s => by
  have hb : w.heap[b]? = some (.map (M.map (ment enc)).toArray c) := hm w s
  simp [execOp, ho, resolve, invoke, builtin, f.ev hx, Builtin.len_, run_underlying hu, goInt, run_getObj_map hb, ← hM.len]
def iter (b c : Nat) (seen : Array Nat) : Obj := .mapIter (some b) c seen c
theorem WL.rangeMap (hu : X.P.underlying t = some (.map K E)) (hx : ev ρ x = some (.map (some b))) (hm : Has X A b (mobj enc M c)) (hd : Nat.blt d X.n = true)
    (h : ∀ r, WL X ops Q rest ((d, .pointer (some ⟨r, 0, none⟩)) :: ρ) (.blk r (iter b c #[]) :: A)) : WL X ops Q (⟨some d, .range t x, ty, ps, af, none⟩ :: rest) ρ A :=
  WL.stepE (fun r : Nat => .pointer (some ⟨r, 0, none⟩)) (fun r => .blk r (iter b c #[]) :: A) (fun o ho _ a w f s => by
    have hb : w.heap[b]? = some (.map (M.map (ment enc)).toArray c) := hm w s
    refine ⟨w.heap.size, w.alloc (iter b c #[]), ?_, s.alloc _⟩
    simp only [execOp, ho, f.ev hx, Instr.range, Sem.run_bind, run_underlying hu, Result.andThen_ok, run_getObj_map hb, Sem.run_pure]
    rfl) hd h
theorem left_mem {es : Array MapEntry} {e : MapEntry} (h : e ∈ (leftOf es seen).toList) : e ∈ es.toList ∧ seen.contains e.born = false := by
  simpa [leftOf] using h
/-- 'next': nothing is left, or an entry that has not come. -/
theorem WL.nextMap (hx : ev ρ x = some (.pointer (some ⟨r, 0, none⟩))) (hM : MapIs n F M c) (hp : Pick (.blk r (iter b c seen)) A B) (hm : HA.blk b (mobj enc M c) ∈ B) (hd : Nat.blt d X.n = true)
    (h0 : (∀ e ∈ M, seen.contains e.2.2 = true) → WL X ops Q rest ((d, .tuple #[.bool false]) :: ρ) (.blk r (iter b c seen) :: B))
    (h1 : ∀ e ∈ M, seen.contains e.2.2 = false → WL X ops Q rest ((d, .tuple #[.bool true, .int .i64 (e.1 : Int), enc e.2.1]) :: ρ) (.blk r (iter b c (seen.push e.2.2)) :: B)) :
    WL X ops Q (⟨some d, .next x false, ty, ps, af, none⟩ :: rest) ρ A :=
  fun a w f s => wpList_plain rfl fun K hK => by
    have s1 := s.pick hp
    have hr : w.heap[r]? = some (iter b c seen) := s1.holds _ (.head _)
    have hb : w.heap[b]? = some (.map (M.map (ment enc)).toArray c) := s1.holds _ (.tail _ hm)
    have hold : ∀ e ∈ (M.map (ment enc)).toArray.toList, e.born < c := fun e he => by
      simp only [List.mem_map] at he
      obtain ⟨y, hy, rfl⟩ := he
      exact hM.born y hy
    unfold Oper.wp
    simp only [execOp, f.ev hx]
    rcases run_next_at (P := X.P) w ty r b c c seen (M.map (ment enc)).toArray c hr hb hold (Nat.le_refl _) with ⟨hz, hrun⟩ | ⟨e, he, w1, hw1, hrun⟩
    · simp only [Sem.run_bind, hrun, Result.andThen_ok, Sem.run_pure]
      refine hK _ _ (h0 (fun y hy => ?_) _ _ (f.put (blt_lt hd) _) s1)
      cases hc : seen.contains y.2.2 with
      | true => rfl
      | false =>
        have : ment enc y ∈ (leftOf (M.map (ment enc)).toArray seen).toList := by
          simp only [leftOf, Array.mem_toList_iff, Array.mem_filter]
          exact ⟨by simpa using ⟨y.1, y.2.1, y.2.2, hy, rfl⟩, by simpa [ment] using hc⟩
        rw [Array.eq_empty_of_size_eq_zero hz] at this
        simp at this
    · obtain ⟨hmem, hns⟩ := left_mem he
      simp only [List.mem_map] at hmem
      obtain ⟨y, hy, rfl⟩ := hmem
      simp only [Sem.run_bind, hrun, Result.andThen_ok, Sem.run_pure]
      refine hK _ _ (h1 y hy hns _ _ (f.put (blt_lt hd) _) ?_)
      have hw : w1.heap = w.heap := by rcases hw1 with rfl | rfl <;> rfl
      have hlt := lt_of_heap hr
      refine s1.put (x := .blk r _) (y := .blk r (iter b c (seen.push y.2.2))) rfl rfl ⟨?_, ?_, ?_, ?_, fun k _ hk => ?_⟩ ?_
      · rcases hw1 with rfl | rfl <;> rfl
      · rcases hw1 with rfl | rfl <;> rfl
      · rcases hw1 with rfl | rfl <;> rfl
      · simp [setBlock, hw]
      · simp at hk
        simp [setBlock, hw, Array.getElem?_setIfInBounds_ne (Ne.symm hk)]
      · show (setBlock w1 r _).heap[r]? = _
        simp [setBlock, hw, hlt, iter, ment]
theorem Yl.entryMap {e : Nat × β × Nat} (hx : ev ρ x = some (.pointer (some ⟨r, 0, none⟩))) (hM : MapIs n F M c) (he : e ∈ M) (hr : Has X A r (iter b c (seen.push e.2.2))) (hm : Has X A b (mobj enc M c)) :
    Yl X (.entry x) ty ρ A (.tuple #[.int .i64 (e.1 : Int), enc e.2.1]) := Yl.intro fun o ho _ a w f s => by
  have hb : w.heap[b]? = some (.map (M.map (ment enc)).toArray c) := hm w s
  have := run_entry_at (P := X.P) w r b c seen (M.map (ment enc)).toArray c (ment enc e) (hr w s) hb (by simpa using ⟨e.1, e.2.1, e.2.2, he, rfl⟩) (by
    rw [List.toList_toArray, List.map_map]; exact hM.borns)
  simp only [execOp, ho, f.ev hx, Sem.run_bind, this, Result.andThen_ok, Sem.run_pure]
  rfl
/-- 'm[k]' about to be stored, where there is no such key yet. -/
theorem WL.mapEntry {z0 : β} (hu : X.P.underlying t = some (.map K E)) (hK : X.P.underlying K = some (.int .i64)) (hz : ∀ w, (zeroValue E).run X.P w = .ok (enc z0) w)
    (hx : ev ρ x = some (.map (some b))) (hy : ev ρ y = some (.int .i64 (k : Int))) (hM : MapIs n F M c) (hF : F k = none) (hp : Pick (.blk b (mobj enc M c)) A B) (hd : Nat.blt d X.n = true)
    (h : WL X ops Q rest ((d, .tuple #[enc z0, .int .i64 (c : Int)]) :: ρ) (.blk b (mobj enc (M ++ [(k, z0, c)]) (c + 1)) :: B)) :
    WL X ops Q (⟨some d, .mapEntry t x y, ty, ps, af, none⟩ :: rest) ρ A :=
  WL.step1 (fun o ho _ a w f s => by
    have s1 := s.pick hp
    have hb0 : w.heap[b]? = some (mobj enc M c) := s1.holds _ (.head _)
    have hf : fnd M k 0 = none := by
      have e := hM.fnd_eq k
      rw [hF] at e
      cases h : fnd M k 0 with
      | none => rfl
      | some p => rw [h] at e; cases e
    refine ⟨mset w b (mobj enc (M ++ [(k, z0, c)]) (c + 1)), ?_, s1.put (x := .blk b _) (y := .blk b (mobj enc (M ++ [(k, z0, c)]) (c + 1))) rfl rfl (Kept.mset w b _) ?_⟩
    · simp only [execOp, ho, f.ev hx, f.ev hy, Instr.mapEntry, Sem.run_bind, run_underlying hu, Result.andThen_ok, run_getObj_map hb0, checkKey_int hK, findKey_int hK, hf, Option.map_none, hz, run_setObj_map _ hb0, Sem.run_pure]
      simp [mobj, ment, goInt]
    · show (mset w b _).heap[b]? = _
      have := (Array.getElem?_eq_some_iff.1 hb0).1
      simp [mset, this]) hd h
theorem modify_last {α : Type} (f : α → α) (x : α) : ∀ L : List α, (L ++ [x]).modify L.length f = L ++ [f x]
  | [] => rfl
  | y :: L => by simp [modify_last f x L]
theorem idx_last {L : List MapEntry} {e : MapEntry} (h : ∀ y ∈ L, y.born < e.born) : (L ++ [e]).toArray.findIdx? (fun y => (y.born : Int) == (e.born : Int)) = some L.length := by
  rw [List.findIdx?_toArray, List.findIdx?_append]
  have h0 : L.findIdx? (fun y => (y.born : Int) == (e.born : Int)) = none := by
    rw [List.findIdx?_eq_none_iff]
    intro y hy
    have := h y hy
    simp only [beq_eq_false_iff_ne, ne_eq]
    omega
  rw [h0]
  simp
theorem WL.entryStore {z0 u : β} {y2 : Operand} (hx : ev ρ x = some (.map (some b))) (hy : ev ρ y = some (.int .i64 (c : Int))) (hv : ev ρ y2 = some (enc u)) (hM : MapIs n F M c) (hp : Pick (.blk b (mobj enc (M ++ [(k, z0, c)]) (c + 1))) A B)
    (h : WL X ops Q rest ρ (.blk b (mobj enc (M ++ [(k, u, c)]) (c + 1)) :: B)) :
    WL X ops Q (⟨none, .entryStore t x y y2, ty, ps, af, none⟩ :: rest) ρ A :=
  WL.step0 (fun o ho _ a w f s => by
    have s1 := s.pick hp
    have hb0 : w.heap[b]? = some (mobj enc (M ++ [(k, z0, c)]) (c + 1)) := s1.holds _ (.head _)
    have hi := idx_last (L := M.map (ment enc)) (e := ment enc (k, z0, c)) (fun y hy => by
      simp only [List.mem_map] at hy
      obtain ⟨q, hq, rfl⟩ := hy
      exact hM.born q hq)
    refine ⟨.skip, mset w b (mobj enc (M ++ [(k, u, c)]) (c + 1)), ?_, .inl rfl, s1.put (x := .blk b _) (y := .blk b (mobj enc (M ++ [(k, u, c)]) (c + 1))) rfl rfl (Kept.mset w b _) ?_⟩
    · have hm : ((M.map (ment enc)) ++ [ment enc (k, z0, c)]).modify M.length (fun e => { e with val := enc u }) = (M.map (ment enc)) ++ [ment enc (k, u, c)] := by
        rw [show M.length = (M.map (ment enc)).length by simp]
        exact modify_last _ _ _
      have hi2 : ((M ++ [(k, z0, c)]).map (ment enc)).toArray.findIdx? (fun y => (y.born : Int) == (c : Int)) = some M.length := by
        have h9 := hi
        rw [List.length_map] at h9
        rw [List.map_append]
        exact h9
      have hai : (asInt (.int .i64 (c : Int))).run X.P w = .ok (c : Int) w := by simp [asInt, asIntOf]
      simp only [execOp, ho, f.ev hx, f.ev hy, f.ev hv, Instr.entryStore, Sem.run_bind, run_getObj_map hb0, Result.andThen_ok, hai, Sem.run_pure, hi2, List.modify_toArray, run_setObj_map _ hb0]
      simp only [mobj, List.map_append, List.map_cons, List.map_nil, hm]
    · show (mset w b _).heap[b]? = _
      have := (Array.getElem?_eq_some_iff.1 hb0).1
      simp [mset, this]) h
/-! 's[lo:hi:max]' -/
theorem Yl.cutAll {x l h m : Operand} {t e : TypeId} {a : Option Addr} {n cap k lo hi mx : Nat} {k1 k2 k3 : IntKind} (hu : X.P.underlying t = some (.slice e)) (hs : ∀ w, (sizeOf e).run X.P w = .ok k w)
    (hx : ev ρ x = some (.slice a n cap)) (hl : ev ρ l = some (.int k1 (lo : Int))) (hh : ev ρ h = some (.int k2 (hi : Int))) (hm : ev ρ m = some (.int k3 (mx : Int))) (h0 : lo ≤ hi) (h1 : hi ≤ mx) (h2 : mx ≤ cap) :
    Yl X (.slice t x (some l) (some h) (some m)) ty ρ A (.slice (cutA a lo mx k) (hi - lo) (mx - lo)) := Yl.intro fun o ho _ a w f _ => by
  simp [execOp, ho, f.ev hx, f.ev hl, f.ev hh, f.ev hm, Instr.sliceAt, Instr.slice, run_underlying hu, Instr.sliceBounds, Instr.sliceBound, asIntOf, h0, h1, h2, hs, cutA]
end
end Go.Proofs.YtbkdjfgkebkknaaGreatDoor
/- Drives: what they are in memory; what is only read. -/
namespace Go.Proofs.YtbkdjfgkebkknaaGreatDoor
set_option linter.unusedVariables false
set_option linter.unusedSimpArgs false
open Go Go.RowKit
set_option maxRecDepth 100000
set_option maxHeartbeats 8000000
structure DP where
  bd : Nat
  bk : Nat
  da : Option Addr
  cap : Nat
  mb : Nat
/-- A plan in memory: how many operations are left, and the numbers. -/
structure Pl where
  b : Nat
  a : Option Addr
  c : Nat
  n : Nat
  K : List Int
structure DV where
  d : List (List UInt8)
  F : Nat → Option (List UInt8)
  down : Bool
  pl : Option (Nat × List Int)
  ops : Nat
  rd : Nat
structure DS where
  d : List (List UInt8)
  F : Nat → Option (List UInt8)
  M : List (Nat × List UInt8 × Nat)
  c : Nat
  down : Bool
  pl : Option Pl
  ops : Nat
  rd : Nat
def DS.v (s : DS) : DV := ⟨s.d, s.F, s.down, s.pl.map fun q => (q.n, q.K), s.ops, s.rd⟩
def plv : Option Pl → Value
  | none => .pointer none
  | some q => .pointer (some ⟨q.b, 0, none⟩)
def Pl.obj (q : Pl) : Obj := .cells #[.int .i64 (q.n : Int), .slice q.a q.K.length q.c] 63 (0, 0)
def plI : Option Pl → List HA
  | none => []
  | some q => [.blk q.b q.obj, .row q.a q.c 3 1 (zcells q.K)]
def drO (p : DP) (s : DS) : Obj := .cells #[bptr p.bk, .bool s.down, plv s.pl, .int .i64 (s.ops : Int), .int .i64 (s.rd : Int)] 75 (0, 0)
def drI (p : DP) (s : DS) : List HA := .blk p.bd (drO p s) :: (bankItems p.bk p.da p.cap p.mb s.d s.M s.c ++ plI s.pl)
def planOk (n : Int) (K : List Int) : Prop := 0 ≤ n ∧ n ≤ 1000000 ∧ 1 ≤ K.length ∧ K.length ≤ 64 ∧ ∀ k ∈ K, 0 ≤ k ∧ k ≤ 128
instance (n : Int) (K : List Int) : Decidable (planOk n K) := inferInstanceAs (Decidable (_ ∧ _))
structure Pl.Ok (q : Pl) : Prop where
  n1 : 1 ≤ q.n
  ok : planOk q.n q.K
  c : q.K.length ≤ q.c
structure DS.Ok (s : DS) (p : DP) : Prop where
  wf : BkWf s.d s.F
  cap : s.d.length ≤ p.cap
  m : MapIs s.d.length s.F s.M s.c
  pl : ∀ q, s.pl = some q → q.Ok
theorem planOk.keep {n : Int} {K : List Int} (h : planOk n K) : keepOk K := ⟨fun e => by have := h.2.2.1; rw [e] at this; simp at this, h.2.2.2.2⟩
structure DrAt (w : World) (p : DP) (s : DS) : Prop where
  blk : w.heap[p.bd]? = some (drO p s)
  bank : BankAt w p.bk p.da p.cap p.mb s.d s.F
  pl : ∀ q, s.pl = some q → w.heap[q.b]? = some q.obj ∧ CellsAt w q.a (zcells q.K) ∧ q.Ok
theorem DrAt.keep {w w' : World} {p : DP} {s : DS} (h : DrAt w p s) (k : Kept w [] w') : DrAt w' p s :=
  ⟨(k.block p.bd (lt_of_heap h.blk) (by simp)).trans h.blk, h.bank.keep k, fun q hq => ⟨(k.block q.b (lt_of_heap (h.pl q hq).1) (by simp)).trans (h.pl q hq).1, (h.pl q hq).2.1.keep k, (h.pl q hq).2.2⟩⟩
theorem drI_bank {p : DP} {s : DS} {x : HA} (h : x ∈ bankItems p.bk p.da p.cap p.mb s.d s.M s.c) : x ∈ drI p s := .tail _ (List.mem_append_left _ h)
theorem DS.Ok.at_ {s : DS} {p : DP} (h : s.Ok p) {w0 w : World} {S : List Nat} {A : List HA} (st : St w0 S A w) (hi : ∀ x ∈ drI p s, x ∈ A) : DrAt w p s := by
  refine ⟨st.holds _ (hi _ (.head _)), BankAt.of h.wf h.cap h.m (hi _ (drI_bank (by simp [bankItems]))) (hi _ (drI_bank (by simp [bankItems]))) (hi _ (drI_bank (by simp [bankItems]))) st, fun q hq => ?_⟩
  have m1 : HA.blk q.b q.obj ∈ A := hi _ (.tail _ (List.mem_append_right _ (by rw [hq]; exact .head _)))
  have m2 : HA.row q.a q.c 3 1 (zcells q.K) ∈ A := hi _ (.tail _ (List.mem_append_right _ (by rw [hq]; exact .tail _ (.head _))))
  exact ⟨st.holds _ m1, Rd.row (X := ⟨Tryz.prog, 0, w0, S⟩) m2 w st, h.pl q hq⟩
/-- No drive, or one that was not made by New. -/
inductive DBad (w : World) : Value → Prop
  | none : DBad w (.pointer none)
  | zero (bd : Nat) : w.heap[bd]? = some (.cells #[.pointer none, .bool false, .pointer none, .int .i64 0, .int .i64 0] 75 (0, 0)) → DBad w (bptr bd)
theorem DBad.keep {w w' : World} {v : Value} (h : DBad w v) (k : Kept w [] w') : DBad w' v := by
  cases h with
  | none => exact .none
  | zero bd hb => exact .zero bd ((k.block bd (lt_of_heap hb) (by simp)).trans hb)
attribute [local irreducible] WL WC WN Yl WH WQ WT WE WU WG WV
section
variable {p : DP} {s : DS}
theorem dmade_c (w : World) (h : DrAt w p s) : Calls Tryz.prog 67 #[bptr p.bd] w (Gives (Val (.bool true)) w) := by
  refine enter (args := [.pointer (some ⟨p.bd, 0, none⟩)]) Tryz.func67 Tryz.ntmps67 rfl rfl ?_
  (repeat (first | refine WL.want rfl rfl rfl ?_ | refine WL.step (Yl.move rfl) rfl ?_ | refine WL.step (Yl.assign rfl) rfl ?_ | refine WL.step (Yl.loadH Tryz.isAgg70 rfl (Has.old h.blk) rfl) rfl ?_ | (refine WL.k_fld ?_; refine WL.step (Yl.fldN0 (i := 0) (o := 0) (by kernel_rfl) rfl) rfl ?_) | refine WL.step (Yl.pick_t rfl rfl rfl) rfl ?_ | (refine WL.k_bin .neq ?_; refine WL.step (Yl.neqPN (by kernel_rfl) rfl) rfl ?_) | refine WL.step (Yl.nilCheck rfl) rfl ?_ | refine WC.seq ?_ | refine WC.region ?_ | refine WL.nil ?_ | refine WN.then_normal ?_ | refine WC.ret ?_))
  exact WN.ret1 rfl rfl ⟨rfl, rfl⟩ .nil
theorem dmade_bad (v : Value) (w : World) (h : DBad w v) : Calls Tryz.prog 67 #[v] w (Gives (Val (.bool false)) w) := by
  cases h with
  | none =>
    refine enter (args := [.pointer none]) Tryz.func67 Tryz.ntmps67 rfl rfl ?_
    (repeat (first | refine WL.pass rfl rfl rfl rfl ?_ | refine WL.step (Yl.move rfl) rfl ?_ | refine WL.step (Yl.assign rfl) rfl ?_ | refine WL.step (Yl.pick_f rfl rfl rfl) rfl ?_ | (refine WL.k_bin .neq ?_; refine WL.step (Yl.neqPN (by kernel_rfl) rfl) rfl ?_) | refine WC.seq ?_ | refine WC.region ?_ | refine WL.nil ?_ | refine WN.then_normal ?_ | refine WC.ret ?_))
    exact WN.ret1 rfl rfl ⟨rfl, rfl⟩ .nil
  | zero bd hb =>
    refine enter (args := [.pointer (some ⟨bd, 0, none⟩)]) Tryz.func67 Tryz.ntmps67 rfl rfl ?_
    (repeat (first | refine WL.want rfl rfl rfl ?_ | refine WL.step (Yl.move rfl) rfl ?_ | refine WL.step (Yl.assign rfl) rfl ?_ | refine WL.step (Yl.loadH Tryz.isAgg70 rfl (Has.old hb) rfl) rfl ?_ | (refine WL.k_fld ?_; refine WL.step (Yl.fldN0 (i := 0) (o := 0) (by kernel_rfl) rfl) rfl ?_) | refine WL.step (Yl.pick_t rfl rfl rfl) rfl ?_ | (refine WL.k_bin .neq ?_; refine WL.step (Yl.neqPN (by kernel_rfl) rfl) rfl ?_) | refine WL.step (Yl.nilCheck rfl) rfl ?_ | refine WC.seq ?_ | refine WC.region ?_ | refine WL.nil ?_ | refine WN.then_normal ?_ | refine WC.ret ?_))
    exact WN.ret1 rfl rfl ⟨rfl, rfl⟩ .nil
theorem dcheck_c (w : World) (h : DrAt w p s) : Calls Tryz.prog 87 #[bptr p.bd] w (Gives (Val (.int .i64 (if s.down then 11 else 0))) w) := by
  refine enter (args := [.pointer (some ⟨p.bd, 0, none⟩)]) Tryz.func87 Tryz.ntmps87 rfl rfl ?_
  (repeat (first | refine WL.step (Yl.move rfl) rfl ?_ | refine WL.step (Yl.assign rfl) rfl ?_ | refine WL.callV (g := 67) (v := .bool true) Tryz.call67 rfl (fun w0 st => dmade_c w0 (h.keep st.kept)) rfl ?_ | refine WL.step (Yl.not rfl) rfl ?_ | refine WC.seq ?_ | refine WC.region ?_ | refine WL.nil ?_ | refine WN.then_normal ?_ | refine WC.block ?_))
  refine WC.cond_false rfl rfl ?_
  (repeat (first | refine WL.step (Yl.move rfl) rfl ?_ | refine WL.step (Yl.assign rfl) rfl ?_ | refine WL.step (Yl.loadH Tryz.isAgg70 rfl (Has.old h.blk) rfl) rfl ?_ | (refine WL.k_fld ?_; refine WL.step (Yl.fldN0 (i := 1) (o := 1) (by kernel_rfl) rfl) rfl ?_) | refine WL.step (Yl.nilCheck rfl) rfl ?_ | refine WC.seq ?_ | refine WC.region ?_ | refine WL.nil ?_ | refine WN.then_normal ?_))
  cases e : s.down
  · refine WC.cond_false rfl rfl ?_
    (repeat (first | refine WL.step (Yl.assign rfl) rfl ?_ | refine WC.seq ?_ | refine WC.region ?_ | refine WL.nil ?_ | refine WN.then_normal ?_ | refine WC.skip ?_ | refine WC.ret ?_ | refine WN.block_normal ?_))
    exact WN.ret1 rfl rfl ⟨rfl, rfl⟩ .nil
  · refine WC.cond_true rfl rfl ?_
    (repeat (first | refine WL.step (Yl.assign rfl) rfl ?_ | refine WC.seq ?_ | refine WC.region ?_ | refine WL.nil ?_ | refine WN.then_normal ?_ | refine WC.ret ?_ | refine WN.then_ret ?_ | refine WN.block_ret ?_))
    exact WN.ret1 rfl rfl ⟨rfl, rfl⟩ .nil
theorem dcheck_bad (v : Value) (w : World) (h : DBad w v) : Calls Tryz.prog 87 #[v] w (Gives (Val (.int .i64 1)) w) := by
  refine enter (args := [v]) Tryz.func87 Tryz.ntmps87 rfl rfl ?_
  (repeat (first | refine WL.step (Yl.move rfl) rfl ?_ | refine WL.step (Yl.assign rfl) rfl ?_ | refine WL.callV (g := 67) (v := .bool false) Tryz.call67 rfl (fun w0 st => dmade_bad v w0 (h.keep st.kept)) rfl ?_ | refine WL.step (Yl.not rfl) rfl ?_ | refine WC.seq ?_ | refine WC.region ?_ | refine WL.nil ?_ | refine WN.then_normal ?_ | refine WC.block ?_))
  refine WC.cond_true rfl rfl ?_
  (repeat (first | refine WL.step (Yl.assign rfl) rfl ?_ | refine WC.seq ?_ | refine WC.region ?_ | refine WL.nil ?_ | refine WN.then_normal ?_ | refine WC.ret ?_ | refine WN.then_ret ?_ | refine WN.block_ret ?_))
  exact WN.ret1 rfl rfl ⟨rfl, rfl⟩ .nil
theorem ddown_c (w : World) (h : DrAt w p s) : Calls Tryz.prog 27 #[bptr p.bd] w (Gives (Val (.bool s.down)) w) := by
  refine enter (args := [.pointer (some ⟨p.bd, 0, none⟩)]) Tryz.func27 Tryz.ntmps27 rfl rfl ?_
  (repeat (first | refine WL.want rfl rfl rfl ?_ | refine WL.step (Yl.move rfl) rfl ?_ | refine WL.step (Yl.assign rfl) rfl ?_ | refine WL.step (Yl.loadH Tryz.isAgg70 rfl (Has.old h.blk) rfl) rfl ?_ | (refine WL.k_fld ?_; refine WL.step (Yl.fldN0 (i := 1) (o := 1) (by kernel_rfl) rfl) rfl ?_) | refine WL.step (Yl.pick_t rfl rfl rfl) rfl ?_ | refine WL.callV (g := 67) (v := .bool true) Tryz.call67 rfl (fun w0 st => dmade_c w0 (h.keep st.kept)) rfl ?_ | refine WL.step (Yl.nilCheck rfl) rfl ?_ | refine WC.seq ?_ | refine WC.region ?_ | refine WL.nil ?_ | refine WN.then_normal ?_ | refine WC.ret ?_))
  exact WN.ret1 rfl rfl ⟨rfl, rfl⟩ .nil
theorem ddown_bad (v : Value) (w : World) (h : DBad w v) : Calls Tryz.prog 27 #[v] w (Gives (Val (.bool false)) w) := by
  refine enter (args := [v]) Tryz.func27 Tryz.ntmps27 rfl rfl ?_
  (repeat (first | refine WL.pass rfl rfl rfl rfl ?_ | refine WL.step (Yl.move rfl) rfl ?_ | refine WL.step (Yl.assign rfl) rfl ?_ | refine WL.step (Yl.pick_f rfl rfl rfl) rfl ?_ | refine WL.callV (g := 67) (v := .bool false) Tryz.call67 rfl (fun w0 st => dmade_bad v w0 (h.keep st.kept)) rfl ?_ | refine WC.seq ?_ | refine WC.region ?_ | refine WL.nil ?_ | refine WN.then_normal ?_ | refine WC.ret ?_))
  exact WN.ret1 rfl rfl ⟨rfl, rfl⟩ .nil
theorem dops_c (w : World) (h : DrAt w p s) : Calls Tryz.prog 44 #[bptr p.bd] w (Gives (Val (.int .i64 (s.ops : Int))) w) := by
  refine enter (args := [.pointer (some ⟨p.bd, 0, none⟩)]) Tryz.func44 Tryz.ntmps44 rfl rfl ?_
  (repeat (first | refine WL.step (Yl.move rfl) rfl ?_ | refine WL.step (Yl.assign rfl) rfl ?_ | refine WL.callV (g := 67) (v := .bool true) Tryz.call67 rfl (fun w0 st => dmade_c w0 (h.keep st.kept)) rfl ?_ | refine WL.step (Yl.not rfl) rfl ?_ | refine WC.seq ?_ | refine WC.region ?_ | refine WL.nil ?_ | refine WN.then_normal ?_))
  refine WC.cond_false rfl rfl ?_
  (repeat (first | refine WL.step (Yl.move rfl) rfl ?_ | refine WL.step (Yl.assign rfl) rfl ?_ | refine WL.step (Yl.loadH Tryz.isAgg70 rfl (Has.old h.blk) rfl) rfl ?_ | (refine WL.k_fld ?_; refine WL.step (Yl.fldN0 (i := 3) (o := 3) (by kernel_rfl) rfl) rfl ?_) | refine WL.step (Yl.nilCheck rfl) rfl ?_ | refine WC.seq ?_ | refine WC.region ?_ | refine WL.nil ?_ | refine WN.then_normal ?_ | refine WC.skip ?_ | refine WC.ret ?_))
  exact WN.ret1 rfl rfl ⟨rfl, rfl⟩ .nil
theorem dops_bad (v : Value) (w : World) (h : DBad w v) : Calls Tryz.prog 44 #[v] w (Gives (Val (.int .i64 0)) w) := by
  refine enter (args := [v]) Tryz.func44 Tryz.ntmps44 rfl rfl ?_
  (repeat (first | refine WL.step (Yl.move rfl) rfl ?_ | refine WL.step (Yl.assign rfl) rfl ?_ | refine WL.callV (g := 67) (v := .bool false) Tryz.call67 rfl (fun w0 st => dmade_bad v w0 (h.keep st.kept)) rfl ?_ | refine WL.step (Yl.not rfl) rfl ?_ | refine WC.seq ?_ | refine WC.region ?_ | refine WL.nil ?_ | refine WN.then_normal ?_))
  refine WC.cond_true rfl rfl ?_
  (repeat (first | refine WL.step (Yl.assign rfl) rfl ?_ | refine WC.seq ?_ | refine WC.region ?_ | refine WL.nil ?_ | refine WN.then_normal ?_ | refine WC.ret ?_ | refine WN.then_ret ?_))
  exact WN.ret1 rfl rfl ⟨rfl, rfl⟩ .nil
theorem dlen_c (w : World) (h : DrAt w p s) : Calls Tryz.prog 56 #[bptr p.bd] w (Gives (Val (.int .i64 (s.d.length : Int))) w) := by
  refine enter (args := [.pointer (some ⟨p.bd, 0, none⟩)]) Tryz.func56 Tryz.ntmps56 rfl rfl ?_
  (repeat (first | refine WL.step (Yl.move rfl) rfl ?_ | refine WL.step (Yl.assign rfl) rfl ?_ | refine WL.callV (g := 67) (v := .bool true) Tryz.call67 rfl (fun w0 st => dmade_c w0 (h.keep st.kept)) rfl ?_ | refine WL.step (Yl.not rfl) rfl ?_ | refine WC.seq ?_ | refine WC.region ?_ | refine WL.nil ?_ | refine WN.then_normal ?_))
  refine WC.cond_false rfl rfl ?_
  (repeat (first | refine WL.step (Yl.move rfl) rfl ?_ | refine WL.step (Yl.assign rfl) rfl ?_ | refine WL.step (Yl.loadH Tryz.isAgg70 rfl (Has.old h.blk) rfl) rfl ?_ | (refine WL.k_fld ?_; refine WL.step (Yl.fldN0 (i := 0) (o := 0) (by kernel_rfl) rfl) rfl ?_) | refine WL.step (Yl.nilCheck rfl) rfl ?_ | refine WL.callV (g := 107) Tryz.call107 rfl (fun w0 st => len_c w0 ((h.keep st.kept).bank)) rfl ?_ | refine WC.seq ?_ | refine WC.region ?_ | refine WL.nil ?_ | refine WN.then_normal ?_ | refine WC.skip ?_ | refine WC.ret ?_))
  exact WN.ret1 rfl rfl ⟨rfl, rfl⟩ .nil
theorem dlen_bad (v : Value) (w : World) (h : DBad w v) : Calls Tryz.prog 56 #[v] w (Gives (Val (.int .i64 0)) w) := by
  refine enter (args := [v]) Tryz.func56 Tryz.ntmps56 rfl rfl ?_
  (repeat (first | refine WL.step (Yl.move rfl) rfl ?_ | refine WL.step (Yl.assign rfl) rfl ?_ | refine WL.callV (g := 67) (v := .bool false) Tryz.call67 rfl (fun w0 st => dmade_bad v w0 (h.keep st.kept)) rfl ?_ | refine WL.step (Yl.not rfl) rfl ?_ | refine WC.seq ?_ | refine WC.region ?_ | refine WL.nil ?_ | refine WN.then_normal ?_))
  refine WC.cond_true rfl rfl ?_
  (repeat (first | refine WL.step (Yl.assign rfl) rfl ?_ | refine WC.seq ?_ | refine WC.region ?_ | refine WL.nil ?_ | refine WN.then_normal ?_ | refine WC.ret ?_ | refine WN.then_ret ?_))
  exact WN.ret1 rfl rfl ⟨rfl, rfl⟩ .nil
theorem dbank_c (w : World) (h : DrAt w p s) : Calls Tryz.prog 43 #[bptr p.bd] w (Gives (CopyV s.d s.F) w) := by
  refine enter (args := [.pointer (some ⟨p.bd, 0, none⟩)]) Tryz.func43 Tryz.ntmps43 rfl rfl ?_
  (repeat (first | refine WL.step (Yl.move rfl) rfl ?_ | refine WL.step (Yl.assign rfl) rfl ?_ | refine WL.callV (g := 67) (v := .bool true) Tryz.call67 rfl (fun w0 st => dmade_c w0 (h.keep st.kept)) rfl ?_ | refine WL.step (Yl.not rfl) rfl ?_ | refine WC.seq ?_ | refine WC.region ?_ | refine WL.nil ?_ | refine WN.then_normal ?_))
  refine WC.cond_false rfl rfl ?_
  (repeat (first | refine WL.step (Yl.move rfl) rfl ?_ | refine WL.step (Yl.loadH Tryz.isAgg70 rfl (Has.old h.blk) rfl) rfl ?_ | (refine WL.k_fld ?_; refine WL.step (Yl.fldN0 (i := 0) (o := 0) (by kernel_rfl) rfl) rfl ?_) | refine WL.step (Yl.nilCheck rfl) rfl ?_ | refine WC.seq ?_ | refine WC.region ?_ | refine WN.then_normal ?_ | refine WC.skip ?_))
  refine WL.call (g := 95) Tryz.call95 rfl (fun w0 st => bcopy_c w0 ((h.keep st.kept).bank)) rfl fun v B hv => ?_
  (repeat (first | refine WL.step (Yl.assign rfl) rfl ?_ | refine WL.nil ?_ | refine WN.then_normal ?_ | refine WC.ret ?_))
  refine WN.ret1 rfl rfl hv ?_
  rw [List.append_nil]
  exact Part.refl _
theorem dbank_bad (v : Value) (w : World) (h : DBad w v) : Calls Tryz.prog 43 #[v] w (Gives (Val (.pointer none)) w) := by
  refine enter (args := [v]) Tryz.func43 Tryz.ntmps43 rfl rfl ?_
  (repeat (first | refine WL.step (Yl.move rfl) rfl ?_ | refine WL.step (Yl.assign rfl) rfl ?_ | refine WL.callV (g := 67) (v := .bool false) Tryz.call67 rfl (fun w0 st => dmade_bad v w0 (h.keep st.kept)) rfl ?_ | refine WL.step (Yl.not rfl) rfl ?_ | refine WC.seq ?_ | refine WC.region ?_ | refine WL.nil ?_ | refine WN.then_normal ?_))
  refine WC.cond_true rfl rfl ?_
  (repeat (first | refine WL.step (Yl.assign rfl) rfl ?_ | refine WC.seq ?_ | refine WC.region ?_ | refine WL.nil ?_ | refine WN.then_normal ?_ | refine WC.ret ?_ | refine WN.then_ret ?_))
  exact WN.ret1 rfl rfl ⟨rfl, rfl⟩ .nil
end
end Go.Proofs.YtbkdjfgkebkknaaGreatDoor
