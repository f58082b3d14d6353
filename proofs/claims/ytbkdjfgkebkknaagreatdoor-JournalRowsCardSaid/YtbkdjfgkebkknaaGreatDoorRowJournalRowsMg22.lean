import Derived.Test.YtbkdjfgkebkknaaGreatDoorRowJournalRowsMg21
import Derived.Test.YtbkdjfgkebkknaaGreatDoorRowJournalRowsMg14
namespace Go.Proofs.YtbkdjfgkebkknaaGreatDoor
set_option linter.unusedVariables false
set_option linter.unusedSimpArgs false
open Go Go.RowKit
set_option maxRecDepth 100000
structure KS where
  os : List Sl
  fs : List Sl
  d : List (List UInt8)
  F : Nat → Option (List UInt8)
  M : List (Nat × List UInt8 × Nat)
  c : Nat
  Z : List HA
structure KS.Ok (s : KS) (p : KP) : Prop where
  k : KnOk s.os s.fs s.d s.F
  wf : BkWf s.d s.F
  cap : s.d.length ≤ p.cap
  m : MapIs s.d.length s.F s.M s.c
  z : ∀ x ∈ s.os ++ s.fs, InF s.Z x
theorem InF.le {Z : List HA} {s : Sl} (h : InF Z s) : s.l.length ≤ s.c := by
  rcases h with h | h
  · rw [h]; exact Nat.zero_le _
  · exact h.1
theorem KS.Ok.next {s : KS} {p : KP} (h : s.Ok p) {t : Turn} {os' fs' : List Sl} {M' : List (Nat × List UInt8 × Nat)} {c' : Nat} {Z' : List HA}
    (hk : KnOk os' fs' (doT t (s.d, s.F)).1 (doT t (s.d, s.F)).2) (hw : BkWf (doT t (s.d, s.F)).1 (doT t (s.d, s.F)).2) (hl : (doT t (s.d, s.F)).1.length = s.d.length) (hM : MapIs s.d.length (doT t (s.d, s.F)).2 M' c') (hin : ∀ x ∈ os' ++ fs', x ∈ s.os ++ s.fs ∨ InF Z' x) :
    (⟨os', fs', (doT t (s.d, s.F)).1, (doT t (s.d, s.F)).2, M', c', Z' ++ s.Z⟩ : KS).Ok p :=
  ⟨hk, hw, by simp only [hl]; exact h.cap, by simp only [hl]; exact hM, fun x hx => by
    rcases hin x hx with h1 | h1
    · exact (h.z x h1).mono fun y hy => List.mem_append_right _ hy
    · exact h1.mono fun y hy => List.mem_append_left _ hy⟩
end Go.Proofs.YtbkdjfgkebkknaaGreatDoor
namespace Go.Proofs.YtbkdjfgkebkknaaGreatDoor
set_option linter.unusedVariables false
set_option linter.unusedSimpArgs false
open Go Go.RowKit
set_option maxRecDepth 100000
set_option maxHeartbeats 8000000
theorem cfold_free {K : List Int} {x : Nat} : ∀ (m : Nat) {pre : List Nat} {s : BSt}, pre.length = m → x ∉ pre → (cfold K s pre).2 x = s.2 x := by
  intro m
  induction m with
  | zero => intro pre s h _; rw [List.eq_nil_of_length_eq_zero h]; rfl
  | succ m ih =>
    intro pre s h hx
    rcases List.eq_nil_or_concat pre with rfl | ⟨l, y, rfl⟩
    · rfl
    · rw [List.concat_eq_append] at *
      rw [cfold_snoc]
      have h1 : x ≠ y := fun e => hx (by simp [e])
      rw [show (cstep K (cfold K s l) l.length y).2 x = (cfold K s l).2 x by simp [cstep, setF, h1]]
      exact ih (by simpa using h) (fun hm => hx (List.mem_append_left _ hm))
theorem dirty_new (n : Nat) (F : Nat → Option (List UInt8)) {i k : Nat} (h : (dirtyOf n F)[i]? = some k) : k ∉ (dirtyOf n F).take i := by
  have hnd : (dirtyOf n F).Nodup := List.Nodup.sublist List.filter_sublist List.nodup_range
  rw [← List.take_append_drop i (dirtyOf n F)] at hnd
  intro hm
  refine (List.nodup_append.1 hnd).2.2 k hm k ?_ rfl
  have : ((dirtyOf n F).drop i)[0]? = some k := by rw [List.getElem?_drop, Nat.add_zero]; exact h
  exact List.mem_of_getElem? this
theorem RbOk.crash {os fs : List Sl} {Is : List Bool} {K : List Int} {s : BSt} (h : RbOk os fs Is s.1 s.2) {i j : Nat} (t : Sl) (ht : t.l = ((s.2 i).getD zblk).take (keepAt K j) ++ (s.1.getD i []).drop (keepAt K j)) : RbOk (os.set i t) (fs.set i Sl.nil) (Is.set i false) (cstep K s j i).1 (cstep K s j i).2 := by
  have hl : (cstep K s j i).1.length = s.1.length := cstep_len K s j i
  refine ⟨h.k.crash t ht, by rw [List.length_set, hl, h.il], fun k hk => ?_⟩
  rw [hl] at hk
  by_cases e : i = k
  · subst e
    rw [bl_set_same (by rw [h.il]; exact hk)]; simp [cstep, setF]
  · rw [bl_set_ne e, h.id k hk, show (cstep K s j i).2 k = s.2 k by simp [cstep, setF, Ne.symm e]]
structure RC where
  os : List Sl
  fs : List Sl
  Is : List Bool
  Z : List HA
  i : Nat
attribute [local irreducible] WL WC WN Yl WH WQ WT WE WU WG WV
section
variable {p : RP} {os fs : List Sl} {Is : List Bool} {d : List (List UInt8)} {F : Nat → Option (List UInt8)} {S : List Nat}
theorem rcrash_r (a : Option Addr) (m c2 : Nat) (K : List Int) (w : World) (wf : BkWf d F) (ok : RbOk os fs Is d F) (hO : ∀ y ∈ os ++ fs, OutF w S y) (hl : K.length = m) (hm : m ≤ 9223372036854775807) (hr : CellsOut w S a (zcells K)) (st : St w S (rbI p os fs Is) w) :
    Calls Tryz.prog 128 #[bptr p.br, .slice a m c2] w (GivesS S (RbV p os fs (crashR K d F).1.1 (crashR K d F).1.2 (crashR K d F).2) w) := by
  have hle := wf.le
  have hat : ∀ {w' : World}, St w S (rbI p os fs Is) w' → RbAt w' p os fs Is d F := fun st => RbAt.out ok wf (fun x hx => hx) hO st
  refine enterS (args := [.pointer (some ⟨p.br, 0, none⟩), _]) Tryz.func128 Tryz.ntmps128 rfl rfl st ?_
  (repeat (first | refine WL.step (Yl.move rfl) rfl ?_ | refine WL.step (Yl.assign rfl) rfl ?_ | refine WL.callV (g := 155) (v := .bool true) Tryz.call155 rfl (fun w0 st => rvalid_c w0 (hat st)) rfl ?_ | refine WL.step (Yl.not rfl) rfl ?_ | refine WC.seq ?_ | refine WC.region ?_ | refine WL.nil ?_ | refine WN.then_normal ?_))
  refine WC.cond_false rfl rfl ?_
  (repeat (first | refine WL.step (Yl.assign rfl) rfl ?_ | refine WC.seq ?_ | refine WC.region ?_ | refine WL.nil ?_ | refine WN.then_normal ?_ | refine WC.block ?_ | refine WC.skip ?_))
  refine WC.loop (α := Nat) (fun i => [(0, .pointer (some ⟨p.br, 0, none⟩)), (1, .slice a m c2), (5, .int .i64 (i : Int))]) (fun _ => rbI p os fs Is) (fun i => i ≤ m ∧ ∀ k ∈ K.take i, 0 ≤ k ∧ k ≤ 128) (fun i => m - i) 0 zS (Part.refl _) ⟨Nat.zero_le _, fun k hk => by simp at hk⟩ ?_
  intro i ⟨hi, hp⟩
  (repeat (first | refine WL.step (Yl.move rfl) rfl ?_ | refine WL.step (Yl.len (t := 61) Tryz.underlying61 rfl) rfl ?_ | refine WL.step (Yl.lss rfl rfl) rfl ?_ | refine WC.seq ?_ | refine WC.region ?_ | refine WL.nil ?_ | refine WN.then_normal ?_))
  refine WC.ite rfl (fun h1 => ?_) (fun h1 => ?_)
  · have him : i < K.length := by omega
    have hz := zcells_at him
    have hmem : K.getD i 0 ∈ K := by
      have h9 : K[i]? = some (K.getD i 0) := by simp [List.getD, him]
      exact List.mem_of_getElem? h9
    by_cases h2 : K.getD i 0 < 0
    · rw [crashR, if_neg (fun h => by have := h.2 _ hmem; omega)]
      (repeat (first | refine WL.pass rfl rfl rfl rfl ?_ | refine WL.step (Yl.move rfl) rfl ?_ | refine WL.step (Yl.load (T := 3) (a := a) (i := i) Tryz.isAgg3 rfl (Rd.out hr) hz) rfl ?_ | refine WL.step (Yl.pick_t rfl rfl rfl) rfl ?_ | (refine WL.k_idxa ?_; refine WL.step (Yl.indexAddr1 (t := 61) (a := a) (j := i) Tryz.underlying61 Tryz.sizeOf3 rfl rfl (Rd.out hr) (zcells_ne him) (by omega)) rfl ?_) | refine WL.step (Yl.lssT rfl rfl h2) rfl ?_ | refine WC.seq ?_ | refine WC.region ?_ | refine WL.nil ?_ | refine WN.then_normal ?_ | refine WC.block ?_ | refine WC.skip ?_))
      refine WC.cond_true rfl rfl ?_
      (repeat (first | refine WL.step (Yl.assign rfl) rfl ?_ | refine WC.seq ?_ | refine WC.region ?_ | refine WL.nil ?_ | refine WN.then_normal ?_ | refine WC.ret ?_ | refine WN.then_ret ?_ | refine WN.block_ret ?_))
      exact WN.ret1S rfl rfl ⟨rfl, os, fs, Is, [], (List.append_nil _).symm, ok, fun y hy => .inl hy⟩ (Part.refl _)
    · by_cases h3 : 128 < K.getD i 0
      · rw [crashR, if_neg (fun h => by have := h.2 _ hmem; omega)]
        (repeat (first | refine WL.want rfl rfl rfl ?_ | refine WL.step (Yl.move rfl) rfl ?_ | refine WL.step (Yl.load (T := 3) (a := a) (i := i) Tryz.isAgg3 rfl (Rd.out hr) hz) rfl ?_ | refine WL.step (Yl.pick_f rfl rfl rfl) rfl ?_ | (refine WL.k_idxa ?_; refine WL.step (Yl.indexAddr1 (t := 61) (a := a) (j := i) Tryz.underlying61 Tryz.sizeOf3 rfl rfl (Rd.out hr) (zcells_ne him) (by omega)) rfl ?_) | refine WL.step (Yl.lssF rfl rfl h2) rfl ?_ | refine WL.step (Yl.gtrT rfl rfl h3) rfl ?_ | refine WC.seq ?_ | refine WC.region ?_ | refine WL.nil ?_ | refine WN.then_normal ?_ | refine WC.block ?_ | refine WC.skip ?_))
        refine WC.cond_true rfl rfl ?_
        (repeat (first | refine WL.step (Yl.assign rfl) rfl ?_ | refine WC.seq ?_ | refine WC.region ?_ | refine WL.nil ?_ | refine WN.then_normal ?_ | refine WC.ret ?_ | refine WN.then_ret ?_ | refine WN.block_ret ?_))
        exact WN.ret1S rfl rfl ⟨rfl, os, fs, Is, [], (List.append_nil _).symm, ok, fun y hy => .inl hy⟩ (Part.refl _)
      · (repeat (first | refine WL.want rfl rfl rfl ?_ | refine WL.step (Yl.move rfl) rfl ?_ | refine WL.step (Yl.load (T := 3) (a := a) (i := i) Tryz.isAgg3 rfl (Rd.out hr) hz) rfl ?_ | refine WL.step (Yl.pick_f rfl rfl rfl) rfl ?_ | (refine WL.k_idxa ?_; refine WL.step (Yl.indexAddr1 (t := 61) (a := a) (j := i) Tryz.underlying61 Tryz.sizeOf3 rfl rfl (Rd.out hr) (zcells_ne him) (by omega)) rfl ?_) | refine WL.step (Yl.lssF rfl rfl h2) rfl ?_ | refine WL.step (Yl.gtrF rfl rfl h3) rfl ?_ | refine WC.seq ?_ | refine WC.region ?_ | refine WL.nil ?_ | refine WN.then_normal ?_ | refine WC.block ?_ | refine WC.skip ?_))
        refine WC.cond_false rfl rfl ?_
        (repeat (first | refine WL.step (Yl.move rfl) rfl ?_ | refine WL.step (Yl.assign rfl) rfl ?_ | (refine WL.k_bin .add ?_; refine WL.step (Yl.add64C rfl (by omega)) rfl ?_) | refine WC.region ?_ | refine WL.nil ?_ | refine WN.then_normal ?_ | refine WC.skip ?_ | refine WN.block_normal ?_))
        refine WN.next (i + 1) ⟨by omega, fun k hk => ?_⟩ (by omega) zS (Part.refl _)
        rw [List.take_add_one, show K[i]? = some (K.getD i 0) by simp [List.getD, him]] at hk
        rcases List.mem_append.1 hk with h | h
        · exact hp k h
        · simp at h; subst h; simp only [List.getD_eq_getElem?_getD] at h2 h3; omega
  have hKm : K.take i = K := List.take_of_length_le (by omega)
  rw [hKm] at hp
  by_cases h0 : m = 0
  · rw [crashR, if_neg (fun h => h.1 (List.eq_nil_of_length_eq_zero (by omega)))]
    (repeat (first | refine WL.step (Yl.move rfl) rfl ?_ | refine WL.step (Yl.len (t := 61) Tryz.underlying61 rfl) rfl ?_ | (refine WL.k_bin .eql ?_; refine WL.step (Yl.eqlT rfl rfl (by omega)) rfl ?_) | refine WC.seq ?_ | refine WC.region ?_ | refine WL.nil ?_ | refine WN.then_normal ?_ | refine WC.exit ?_ | refine WN.then_exit ?_ | refine WN.block_here ?_))
    refine WC.cond_true rfl rfl ?_
    (repeat (first | refine WL.step (Yl.assign rfl) rfl ?_ | refine WC.seq ?_ | refine WC.region ?_ | refine WL.nil ?_ | refine WN.then_normal ?_ | refine WC.ret ?_ | refine WN.then_ret ?_))
    exact WN.ret1S rfl rfl ⟨rfl, os, fs, Is, [], (List.append_nil _).symm, ok, fun y hy => .inl hy⟩ (Part.refl _)
  have hK : keepOk K := ⟨fun e => h0 (by rw [← hl, e]; rfl), hp⟩
  rw [crashR, if_pos hK]
  (repeat (first | refine WL.step (Yl.move rfl) rfl ?_ | refine WL.step (Yl.len (t := 61) Tryz.underlying61 rfl) rfl ?_ | (refine WL.k_bin .eql ?_; refine WL.step (Yl.eqlF rfl rfl (by omega)) rfl ?_) | refine WC.seq ?_ | refine WC.region ?_ | refine WL.nil ?_ | refine WN.then_normal ?_ | refine WC.exit ?_ | refine WN.then_exit ?_ | refine WN.block_here ?_))
  refine WC.cond_false rfl rfl ?_
  (repeat (first | refine WL.step (Yl.move rfl) rfl ?_ | refine WC.seq ?_ | refine WC.region ?_ | refine WN.then_normal ?_ | refine WC.skip ?_))
  refine WL.callR (g := 163) Tryz.call163 rfl (fun w0 st => rdirty_c w0 (hat st)) rfl fun q hq => ?_
  simp only [id]
  have hnew := fun (i k : Nat) (h : (dirtyOf d.length F)[i]? = some k) => dirty_new d.length F h
  have hlt : ∀ k ∈ dirtyOf d.length F, k < d.length := fun k hk => dirty_lt hk
  have hdn := dirty_len d.length F
  have hsome : ∀ k ∈ dirtyOf d.length F, ∃ u, F k = some u := fun k hk => by
    have := (List.mem_filter.1 hk).2
    cases e : F k with
    | none => rw [e] at this; cases this
    | some u => exact ⟨u, rfl⟩
  generalize hDD : dirtyOf d.length F = D at *
  (repeat (first | refine WL.step (Yl.assign rfl) rfl ?_ | refine WC.seq ?_ | refine WC.region ?_ | refine WL.nil ?_ | refine WN.then_normal ?_ | refine WC.block ?_))
  refine WC.loop (α := RC) (fun s => [(0, .pointer (some ⟨p.br, 0, none⟩)), (1, .slice a m c2), (6, .slice q.1 D.length q.2), (7, .int .i64 (s.i : Int))]) (fun s => .row q.1 q.2 3 1 (zcells (zs D)) :: (rbI p s.os s.fs s.Is ++ s.Z))
    (fun s => s.i ≤ D.length ∧ RbOk s.os s.fs s.Is (cfold K (d, F) (D.take s.i)).1 (cfold K (d, F) (D.take s.i)).2 ∧ BkWf (cfold K (d, F) (D.take s.i)).1 (cfold K (d, F) (D.take s.i)).2 ∧ (cfold K (d, F) (D.take s.i)).1.length = d.length ∧ ∀ x ∈ s.os ++ s.fs, x ∈ os ++ fs ∨ InF s.Z x)
    (fun s => D.length - s.i) ⟨os, fs, Is, [], 0⟩ zS (by simp only [List.append_nil]; exact Part.refl _) ⟨Nat.zero_le _, ok, wf, rfl, fun x hx => .inl hx⟩ ?_
  clear hi h1 hp hKm i
  rintro ⟨os', fs', Is', Z, i⟩ ⟨hi, g1, g2, g3, g5⟩
  simp only at hi g1 g2 g3 g5 ⊢
  rw [rbI]
  simp only [List.cons_append, List.nil_append]
  have hol := g1.k.ol
  have hfl := g1.k.fl
  have hil := g1.il
  (repeat (first | refine WL.step (Yl.move rfl) rfl ?_ | refine WL.step (Yl.len (t := 61) Tryz.underlying61 rfl) rfl ?_ | refine WL.step (Yl.lss rfl rfl) rfl ?_ | refine WC.seq ?_ | refine WC.region ?_ | refine WL.nil ?_ | refine WN.then_normal ?_))
  refine WC.ite rfl (fun h1 => ?_) (fun h1 => ?_)
  · have hiD : i < D.length := by omega
    obtain ⟨k, hk⟩ : ∃ k, D[i]? = some k := ⟨_, List.getElem?_eq_getElem hiD⟩
    have hkm := List.mem_of_getElem? hk
    have hkd := hlt k hkm
    obtain ⟨u, hu⟩ := hsome k hkm
    have hFk : (cfold K (d, F) (D.take i)).2 k = some u := by rw [cfold_free _ rfl (hnew i k hk)]; exact hu
    have hli : (zcells (zs D))[i]? = some (.int .i64 (k : Int)) := by simp [zcells, zs, hk]
    have hfi := svs_at (L := fs') (i := k) (by omega)
    have hoi := svs_at (L := os') (i := k) (by omega)
    have hii := bls_at (l := Is') (i := k) (by omega)
    have hmf : fs'.getD k Sl.nil ∈ os' ++ fs' := List.mem_append_right _ (sl_mem (by omega))
    have hmo : os'.getD k Sl.nil ∈ os' ++ fs' := List.mem_append_left _ (sl_mem (by omega))
    have hod := g1.k.od k (by omega)
    have hfd := g1.k.fd k (by omega)
    have hul : u.length = 128 := g2.val k u hFk
    have hdl : ((cfold K (d, F) (D.take i)).1.getD k []).length = 128 := by
      have h9 : (cfold K (d, F) (D.take i)).1[k]? = some ((cfold K (d, F) (D.take i)).1.getD k []) := by simp [List.getD, show k < (cfold K (d, F) (D.take i)).1.length by omega]
      exact g2.len _ (List.mem_of_getElem? h9)
    have hka := keepAt_le hK i
    have hmod : i % m < K.length := by rw [hl]; exact Nat.mod_lt _ (by omega)
    have hz : (zcells K)[i % m]? = some (.int .i64 ((keepAt K i : Nat) : Int)) := by
      rw [hka.2, hl]; exact zcells_at hmod
    have hti : (D.take i).length = i := by rw [List.length_take]; omega
    have htk : D.take (i + 1) = D.take i ++ [k] := by rw [List.take_add_one, hk]; rfl
    have hcs := cfold_snoc K (d, F) (D.take i) k
    rw [hti, ← htk] at hcs
    have hg1 := fun (t : Sl) ht => g1.crash (K := K) (i := k) (j := i) t ht
    have hg2 := cstep_wf (K := K) (i := i) g2 (show k < _ by omega) hka.1
    have hg3 := cstep_len K (cfold K (d, F) (D.take i)) i k
    rw [← hcs] at hg1 hg2 hg3
    rcases hfd with ⟨e1, _⟩ | e1
    · rw [hFk] at e1; cases e1
    rw [hFk] at e1
    simp only [hFk, Option.getD_some] at hg1
    rw [← hod] at hg1 hdl
    generalize hxf : fs'.getD k Sl.nil = xf at *
    generalize hxo : os'.getD k Sl.nil = xo at *
    generalize hkk : keepAt K i = kk at *
    obtain ⟨fa, fc, fl⟩ := xf
    obtain ⟨oa, oc, ol⟩ := xo
    simp only at e1 hg1 hdl
    obtain rfl : u = fl := by injection e1
    simp only [Sl.v] at hfi hoi
    rw [hul] at hfi
    rw [hdl] at hoi
    have hrdf : ∀ {A : List HA}, (∀ x ∈ Z, x ∈ A) → Rd ⟨Tryz.prog, 101, w, S⟩ A fa (bs u) := fun hz => by
      rcases g5 _ hmf with h | h
      · exact Rd.out (hO _ h).2
      · exact h.rd hz
    have hrdo : ∀ {A : List HA}, (∀ x ∈ Z, x ∈ A) → Rd ⟨Tryz.prog, 101, w, S⟩ A oa (bs ol) := fun hz => by
      rcases g5 _ hmo with h | h
      · exact Rd.out (hO _ h).2
      · exact h.rd hz
    have hfc : 128 ≤ fc := by
      rcases g5 _ hmf with h | h
      · have := (hO _ h).1; simp only at this; omega
      · have := h.le; simp only at this; omega
    have hoc : 128 ≤ oc := by
      rcases g5 _ hmo with h | h
      · have := (hO _ h).1; simp only at this; omega
      · have := h.le; simp only at this; omega
    have htear : tearR ol u (kk : Int) = (u.take kk ++ ol.drop kk, 0) := by rw [tearR, if_pos ⟨hdl, hul, by omega, by omega⟩, Int.toNat_natCast]
    have htl : (u.take kk ++ ol.drop kk).length = 128 := by rw [List.length_append, List.length_take, List.length_drop]; omega
    (repeat (first | refine WC.seq ?_ | refine WN.then_normal ?_ | refine WC.block ?_ | refine WC.skip ?_))
    refine WC.regionH [.row q.1 q.2 3 1 (zcells (zs D)), .blk p.br (.cells #[.slice p.ao os'.length p.co, .slice p.ai Is'.length p.ci, .slice p.af fs'.length p.cf] 178 (0, 0)), .row p.ao p.co 23 1 (svs os'), .row p.af p.cf 23 1 (svs fs')] (by kernel_rfl) ?_
    (refine WH.order [0, 1, 2, 3, 4, 5, 6, 7, 8, 9, 10, 11, 12, 13, 14, 15, 16, 17, 18, 19, 20, 21, 22, 23, 24, 25, 26] (by repeat (first | exact Part.nil | refine Part.cons zK ?_ | refine Part.free ?_)) (by kernel_rfl) ?_; (repeat (first | (refine WT.k_move rfl ?_; (refine WT.kn rfl ?_; refine WT.take rfl rfl (fun _ _ _ h => h) (Yl.move rfl) rfl (by kernel_rfl) (by kernel_rfl) ?_)) | (refine WT.k_load rfl ?_; (refine WT.kn rfl ?_; first | refine WT.take rfl rfl (fun _ _ _ h => h) (Yl.loadBlk (T := 175) Tryz.isAgg175 rfl zH (by rfl)) rfl (by kernel_rfl) (by kernel_rfl) ?_ | refine WT.take rfl rfl (fun _ _ _ h => h) (Yl.load (T := 3) (a := q.1) (i := i) Tryz.isAgg3 rfl (Rd.row (vs := zcells (zs D)) (T := 3) (k := 1) (cap := q.2) zH) hli) rfl (by kernel_rfl) (by kernel_rfl) ?_ | refine WT.take rfl rfl (fun _ _ _ h => h) (Yl.load (T := 23) (a := p.ao) (i := k) Tryz.isAgg23 rfl (Rd.row (vs := svs os') (T := 23) (k := 1) (cap := p.co) zH) hoi) rfl (by kernel_rfl) (by kernel_rfl) ?_ | refine WT.take rfl rfl (fun _ _ _ h => h) (Yl.load (T := 23) (a := p.af) (i := k) Tryz.isAgg23 rfl (Rd.row (vs := svs fs') (T := 23) (k := 1) (cap := p.cf) zH) hfi) rfl (by kernel_rfl) (by kernel_rfl) ?_ | refine WT.take rfl rfl (fun _ _ _ h => h) (Yl.load (T := 3) (a := a) (i := i % m) Tryz.isAgg3 rfl (Rd.out hr) hz) rfl (by kernel_rfl) (by kernel_rfl) ?_)) | (refine WT.k_fld rfl ?_; (refine WT.kn rfl ?_; refine WT.take rfl rfl (fun _ _ _ h => h) (Yl.fld0 (t := 178) Tryz.underlying178 fl178 rfl rfl) rfl (by kernel_rfl) (by kernel_rfl) ?_)) | (refine WT.k_nilc rfl ?_; (refine WT.kn rfl ?_; refine WT.take rfl rfl (fun _ _ _ h => h) (Yl.nilCheck rfl) rfl (by kernel_rfl) (by kernel_rfl) ?_)) | (refine WT.k_bi .len rfl ?_; (refine WT.kn rfl ?_; refine WT.take rfl rfl (fun _ _ _ h => h) (Yl.len (t := 61) Tryz.underlying61 rfl) rfl (by kernel_rfl) (by kernel_rfl) ?_)) | (refine WT.k_idxa rfl ?_; (refine WT.kn rfl ?_; first | refine WT.take rfl rfl (fun _ _ _ h => h) (Yl.indexAddr1 (t := 61) (a := q.1) (j := i) (n := D.length) Tryz.underlying61 Tryz.sizeOf3 rfl rfl (Rd.row (vs := zcells (zs D)) (T := 3) (k := 1) (cap := q.2) zH) (ne_nil_of hli) (by omega)) rfl (by kernel_rfl) (by kernel_rfl) ?_ | refine WT.take rfl rfl (fun _ _ _ h => h) (Yl.indexAddr1 (t := 175) (a := p.ao) (j := k) (n := os'.length) Tryz.underlying175 Tryz.sizeOf23 rfl rfl (Rd.row (vs := svs os') (T := 23) (k := 1) (cap := p.co) zH) (ne_nil_of hoi) (by omega)) rfl (by kernel_rfl) (by kernel_rfl) ?_ | refine WT.take rfl rfl (fun _ _ _ h => h) (Yl.indexAddr1 (t := 175) (a := p.af) (j := k) (n := fs'.length) Tryz.underlying175 Tryz.sizeOf23 rfl rfl (Rd.row (vs := svs fs') (T := 23) (k := 1) (cap := p.cf) zH) (ne_nil_of hfi) (by omega)) rfl (by kernel_rfl) (by kernel_rfl) ?_ | refine WT.take rfl rfl (fun _ _ _ h => h) (Yl.indexAddr1 (t := 61) (a := a) (j := i % m) Tryz.underlying61 Tryz.sizeOf3 rfl rfl (Rd.out hr) (zcells_ne hmod) (by omega)) rfl (by kernel_rfl) (by kernel_rfl) ?_)) | (refine WT.k_bin .rem rfl ?_; (refine WT.kn rfl ?_; refine WT.take rfl rfl (fun _ _ _ h => h) (Yl.remN rfl rfl (by omega)) rfl (by kernel_rfl) (by kernel_rfl) ?_)))); refine WT.nil ?_)
    refine WH.only (i := 27) (by kernel_rfl) rfl ?_
    refine WL.callR (g := 164) Tryz.call164 rfl (fun w0 st => by have := rtear_c oa fa 128 128 oc fc ol u (kk : Int) w0 hdl hul (by decide) (by decide) hoc hfc (hrdo (fun x hx => .tail _ (.tail _ (.tail _ (.tail _ (.tail _ hx))))) w0 st) (hrdf (fun x hx => .tail _ (.tail _ (.tail _ (.tail _ (.tail _ hx))))) w0 st); rw [htear] at this; exact this) rfl fun q3 hq3 => ?_
    simp only [htl] at hq3 ⊢
    generalize hT : u.take kk ++ ol.drop kk = tx at *
    refine WL.nil (WN.nextH (by repeat (first | exact Part.nil | refine Part.cons zK ?_ | refine Part.free ?_)) ?_)
    (refine WH.order [28, 29, 30, 31, 32] (by repeat (first | exact Part.nil | refine Part.cons zK ?_ | refine Part.free ?_)) (by kernel_rfl) ?_; (repeat (first | (refine WT.k_move rfl ?_; (refine WT.kn rfl ?_; refine WT.take rfl rfl (fun _ _ _ h => h) (Yl.move rfl) rfl (by kernel_rfl) (by kernel_rfl) ?_)) | (refine WT.k_assign rfl ?_; (refine WT.kn rfl ?_; refine WT.take rfl rfl (fun _ _ _ h => h) (Yl.assign rfl) rfl (by kernel_rfl) (by kernel_rfl) ?_)) | (refine WT.k_extract rfl ?_; (refine WT.kn rfl ?_; refine WT.take rfl rfl (fun _ _ _ h => h) (Yl.extract rfl rfl) rfl (by kernel_rfl) (by kernel_rfl) ?_)))); refine WT.nil ?_)
    refine WH.done (by kernel_rfl) ?_
    (repeat (first | refine WC.seq ?_ | refine WN.then_normal ?_))
    refine WC.regionE [.row q.1 q.2 3 1 (zcells (zs D)), .blk p.br (.cells #[.slice p.ao os'.length p.co, .slice p.ai Is'.length p.ci, .slice p.af fs'.length p.cf] 178 (0, 0)), .row p.ao p.co 23 1 (svs os')] 10 (by kernel_rfl) ?_
    (refine WE.order [0, 1, 2, 3, 4, 5, 6, 7, 8, 9] (by repeat (first | exact Part.nil | refine Part.cons zK ?_ | refine Part.free ?_)) (by kernel_rfl) ?_; (repeat (first | (refine WU.k_move rfl ?_; (refine WU.kn rfl ?_; refine WU.take rfl rfl (fun _ _ _ h => h) (Yl.move rfl) rfl (by kernel_rfl) (by kernel_rfl) (by kernel_rfl) ?_)) | (refine WU.k_load rfl ?_; (refine WU.kn rfl ?_; first | refine WU.take rfl rfl (fun _ _ _ h => h) (Yl.loadBlk (T := 175) Tryz.isAgg175 rfl zH (by rfl)) rfl (by kernel_rfl) (by kernel_rfl) (by kernel_rfl) ?_ | refine WU.take rfl rfl (fun _ _ _ h => h) (Yl.load (T := 3) (a := q.1) (i := i) Tryz.isAgg3 rfl (Rd.row (vs := zcells (zs D)) (T := 3) (k := 1) (cap := q.2) zH) hli) rfl (by kernel_rfl) (by kernel_rfl) (by kernel_rfl) ?_)) | (refine WU.k_fld rfl ?_; (refine WU.kn rfl ?_; refine WU.take rfl rfl (fun _ _ _ h => h) (Yl.fld0 (t := 178) Tryz.underlying178 fl178 rfl rfl) rfl (by kernel_rfl) (by kernel_rfl) (by kernel_rfl) ?_)) | (refine WU.k_nilc rfl ?_; (refine WU.kn rfl ?_; refine WU.take rfl rfl (fun _ _ _ h => h) (Yl.nilCheck rfl) rfl (by kernel_rfl) (by kernel_rfl) (by kernel_rfl) ?_)) | (refine WU.k_idxa rfl ?_; (refine WU.kn rfl ?_; first | refine WU.take rfl rfl (fun _ _ _ h => h) (Yl.indexAddr1 (t := 61) (a := q.1) (j := i) (n := D.length) Tryz.underlying61 Tryz.sizeOf3 rfl rfl (Rd.row (vs := zcells (zs D)) (T := 3) (k := 1) (cap := q.2) zH) (ne_nil_of hli) (by omega)) rfl (by kernel_rfl) (by kernel_rfl) (by kernel_rfl) ?_ | refine WU.take rfl rfl (fun _ _ _ h => h) (Yl.indexAddr1 (t := 175) (a := p.ao) (j := k) (n := os'.length) Tryz.underlying175 Tryz.sizeOf23 rfl rfl (Rd.row (vs := svs os') (T := 23) (k := 1) (cap := p.co) zH) (ne_nil_of hoi) (by omega)) rfl (by kernel_rfl) (by kernel_rfl) (by kernel_rfl) ?_)))); refine WU.nil ?_)
    refine WE.only (i := 10) (by kernel_rfl) rfl fun sh => ?_
    refine WL.storeRow (T := 23) (v := .slice q3.1 128 q3.2) (i := k) (vs := svs os') Tryz.sizeOf23 rfl rfl rfl zK (by rw [svs_len]; omega) ?_
    rw [show (svs os').set k (.slice q3.1 128 q3.2) = svs (os'.set k ⟨q3.1, q3.2, tx⟩) by rw [← svs_set, Sl.v, htl]]
    refine WL.nil (WN.lastE (by kernel_rfl) sh (WE.done (by kernel_rfl) ?_))
    (repeat (first | refine WC.seq ?_ | refine WN.then_normal ?_))
    refine WC.regionE [.row q.1 q.2 3 1 (zcells (zs D)), .blk p.br (.cells #[.slice p.ao os'.length p.co, .slice p.ai Is'.length p.ci, .slice p.af fs'.length p.cf] 178 (0, 0)), .row p.ai p.ci 4 1 (bls Is')] 9 (by kernel_rfl) ?_
    (refine WE.order [0, 1, 2, 3, 4, 5, 6, 7, 8] (by repeat (first | exact Part.nil | refine Part.cons zK ?_ | refine Part.free ?_)) (by kernel_rfl) ?_; (repeat (first | (refine WU.k_move rfl ?_; (refine WU.kn rfl ?_; refine WU.take rfl rfl (fun _ _ _ h => h) (Yl.move rfl) rfl (by kernel_rfl) (by kernel_rfl) (by kernel_rfl) ?_)) | (refine WU.k_load rfl ?_; (refine WU.kn rfl ?_; first | refine WU.take rfl rfl (fun _ _ _ h => h) (Yl.loadBlk (T := 176) Tryz.isAgg176 rfl zH (by rfl)) rfl (by kernel_rfl) (by kernel_rfl) (by kernel_rfl) ?_ | refine WU.take rfl rfl (fun _ _ _ h => h) (Yl.load (T := 3) (a := q.1) (i := i) Tryz.isAgg3 rfl (Rd.row (vs := zcells (zs D)) (T := 3) (k := 1) (cap := q.2) zH) hli) rfl (by kernel_rfl) (by kernel_rfl) (by kernel_rfl) ?_)) | (refine WU.k_fld rfl ?_; (refine WU.kn rfl ?_; refine WU.take rfl rfl (fun _ _ _ h => h) (Yl.fld0 (t := 178) Tryz.underlying178 fl178 rfl rfl) rfl (by kernel_rfl) (by kernel_rfl) (by kernel_rfl) ?_)) | (refine WU.k_nilc rfl ?_; (refine WU.kn rfl ?_; refine WU.take rfl rfl (fun _ _ _ h => h) (Yl.nilCheck rfl) rfl (by kernel_rfl) (by kernel_rfl) (by kernel_rfl) ?_)) | (refine WU.k_idxa rfl ?_; (refine WU.kn rfl ?_; first | refine WU.take rfl rfl (fun _ _ _ h => h) (Yl.indexAddr1 (t := 61) (a := q.1) (j := i) (n := D.length) Tryz.underlying61 Tryz.sizeOf3 rfl rfl (Rd.row (vs := zcells (zs D)) (T := 3) (k := 1) (cap := q.2) zH) (ne_nil_of hli) (by omega)) rfl (by kernel_rfl) (by kernel_rfl) (by kernel_rfl) ?_ | refine WU.take rfl rfl (fun _ _ _ h => h) (Yl.indexAddr1 (t := 176) (a := p.ai) (j := k) (n := Is'.length) Tryz.underlying176 Tryz.sizeOf4 rfl rfl (Rd.row (vs := bls Is') (T := 4) (k := 1) (cap := p.ci) zH) (ne_nil_of hii) (by omega)) rfl (by kernel_rfl) (by kernel_rfl) (by kernel_rfl) ?_)))); refine WU.nil ?_)
    refine WE.only (i := 9) (by kernel_rfl) rfl fun sh => ?_
    refine WL.storeRow (T := 4) (v := .bool false) (i := k) (vs := bls Is') Tryz.sizeOf4 rfl rfl rfl zK (by rw [bls_len]; omega) ?_
    rw [bls_set]
    refine WL.nil (WN.lastE (by kernel_rfl) sh (WE.done (by kernel_rfl) ?_))
    (repeat (first | refine WN.then_normal ?_))
    refine WC.regionE [.row q.1 q.2 3 1 (zcells (zs D)), .blk p.br (.cells #[.slice p.ao os'.length p.co, .slice p.ai Is'.length p.ci, .slice p.af fs'.length p.cf] 178 (0, 0)), .row p.af p.cf 23 1 (svs fs')] 9 (by kernel_rfl) ?_
    (refine WE.order [0, 1, 2, 3, 4, 5, 6, 7, 8] (by repeat (first | exact Part.nil | refine Part.cons zK ?_ | refine Part.free ?_)) (by kernel_rfl) ?_; (repeat (first | (refine WU.k_move rfl ?_; (refine WU.kn rfl ?_; refine WU.take rfl rfl (fun _ _ _ h => h) (Yl.move rfl) rfl (by kernel_rfl) (by kernel_rfl) (by kernel_rfl) ?_)) | (refine WU.k_load rfl ?_; (refine WU.kn rfl ?_; first | refine WU.take rfl rfl (fun _ _ _ h => h) (Yl.loadBlk (T := 175) Tryz.isAgg175 rfl zH (by rfl)) rfl (by kernel_rfl) (by kernel_rfl) (by kernel_rfl) ?_ | refine WU.take rfl rfl (fun _ _ _ h => h) (Yl.load (T := 3) (a := q.1) (i := i) Tryz.isAgg3 rfl (Rd.row (vs := zcells (zs D)) (T := 3) (k := 1) (cap := q.2) zH) hli) rfl (by kernel_rfl) (by kernel_rfl) (by kernel_rfl) ?_)) | (refine WU.k_fld rfl ?_; (refine WU.kn rfl ?_; refine WU.take rfl rfl (fun _ _ _ h => h) (Yl.fld0 (t := 178) Tryz.underlying178 fl178 rfl rfl) rfl (by kernel_rfl) (by kernel_rfl) (by kernel_rfl) ?_)) | (refine WU.k_nilc rfl ?_; (refine WU.kn rfl ?_; refine WU.take rfl rfl (fun _ _ _ h => h) (Yl.nilCheck rfl) rfl (by kernel_rfl) (by kernel_rfl) (by kernel_rfl) ?_)) | (refine WU.k_idxa rfl ?_; (refine WU.kn rfl ?_; first | refine WU.take rfl rfl (fun _ _ _ h => h) (Yl.indexAddr1 (t := 61) (a := q.1) (j := i) (n := D.length) Tryz.underlying61 Tryz.sizeOf3 rfl rfl (Rd.row (vs := zcells (zs D)) (T := 3) (k := 1) (cap := q.2) zH) (ne_nil_of hli) (by omega)) rfl (by kernel_rfl) (by kernel_rfl) (by kernel_rfl) ?_ | refine WU.take rfl rfl (fun _ _ _ h => h) (Yl.indexAddr1 (t := 175) (a := p.af) (j := k) (n := fs'.length) Tryz.underlying175 Tryz.sizeOf23 rfl rfl (Rd.row (vs := svs fs') (T := 23) (k := 1) (cap := p.cf) zH) (ne_nil_of hfi) (by omega)) rfl (by kernel_rfl) (by kernel_rfl) (by kernel_rfl) ?_)))); refine WU.nil ?_)
    refine WE.only (i := 9) (by kernel_rfl) rfl fun sh => ?_
    refine WL.storeRow (T := 23) (v := .slice none 0 0) (i := k) (vs := svs fs') Tryz.sizeOf23 rfl rfl rfl zK (by rw [svs_len]; omega) ?_
    rw [show (svs fs').set k (.slice none 0 0) = svs (fs'.set k Sl.nil) by rw [← svs_set]; rfl]
    refine WL.nil (WN.lastE (by kernel_rfl) sh (WE.done (by kernel_rfl) ?_))
    (repeat (first | refine WL.step (Yl.move rfl) rfl ?_ | refine WL.step (Yl.assign rfl) rfl ?_ | (refine WL.k_bin .add ?_; refine WL.step (Yl.add64C rfl (by omega)) rfl ?_) | refine WC.region ?_ | refine WL.nil ?_ | refine WN.then_normal ?_ | refine WN.block_normal ?_))
    refine WN.next ⟨os'.set k ⟨q3.1, q3.2, tx⟩, fs'.set k Sl.nil, Is'.set k false, .row q3.1 q3.2 5 1 (bs tx) :: Z, i + 1⟩ ⟨by simp only; omega, hg1 ⟨q3.1, q3.2, tx⟩ rfl, hg2, by simp only; omega, fun x hx => ?_⟩ (by simp only; omega) zS ?_
    · simp only at hx
      rcases List.mem_append.1 hx with h | h
      · rcases List.mem_or_eq_of_mem_set h with h | rfl
        · exact (g5 x (List.mem_append_left _ h)).imp id fun h => h.mono fun y hy => .tail _ hy
        · exact .inr (.inr ⟨by simp only; omega, _, .head _⟩)
      · rcases List.mem_or_eq_of_mem_set h with h | rfl
        · exact (g5 x (List.mem_append_right _ h)).imp id fun h => h.mono fun y hy => .tail _ hy
        · exact .inr (InF.nil _)
    · simp only [rbI, List.length_set, List.cons_append, List.nil_append]
      exact (by refine Part.cons zK ?_; refine Part.cons zK ?_; refine Part.cons zK ?_; refine Part.cons zK ?_; refine Part.cons zK ?_; refine Part.cons zK ?_; repeat (first | refine Part.more ?_ | exact Part.refl _))
  · have hiD : D.take i = D := List.take_of_length_le (by omega)
    rw [hiD] at g1
    (repeat (first | refine WL.step (Yl.assign rfl) rfl ?_ | refine WC.seq ?_ | refine WC.region ?_ | refine WL.nil ?_ | refine WN.then_normal ?_ | refine WC.exit ?_ | refine WC.ret ?_ | refine WN.then_exit ?_ | refine WN.block_here ?_))
    refine WN.ret1S rfl rfl ⟨rfl, os', fs', Is', Z, rfl, g1, g5⟩ ?_
    simp only [rbI, List.cons_append, List.nil_append]
    exact (by refine Part.cons zK ?_; refine Part.cons zK ?_; refine Part.cons zK ?_; refine Part.cons zK ?_; repeat (first | refine Part.more ?_ | exact Part.refl _))
end
end Go.Proofs.YtbkdjfgkebkknaaGreatDoor
namespace Go.Proofs.YtbkdjfgkebkknaaGreatDoor
set_option linter.unusedVariables false
set_option linter.unusedSimpArgs false
open Go Go.RowKit
set_option maxRecDepth 100000
set_option maxHeartbeats 8000000
attribute [local irreducible] WL WC WN Yl WH WQ WT WE WU WG WV
section
variable {p : RP} {os fs : List Sl} {Is : List Bool} {d : List (List UInt8)} {F : Nat → Option (List UInt8)} {S : List Nat}
end
end Go.Proofs.YtbkdjfgkebkknaaGreatDoor
namespace Go.Proofs.YtbkdjfgkebkknaaGreatDoor
set_option linter.unusedVariables false
set_option linter.unusedSimpArgs false
open Go Go.RowKit
set_option maxRecDepth 100000
set_option maxHeartbeats 8000000
attribute [local irreducible] WL WC WN Yl WH WQ WT WE WU WG WV
section
variable {p : RP} {os fs : List Sl} {Is : List Bool} {d : List (List UInt8)} {F : Nat → Option (List UInt8)}
end
end Go.Proofs.YtbkdjfgkebkknaaGreatDoor
namespace Go.Proofs.YtbkdjfgkebkknaaGreatDoor
set_option linter.unusedVariables false
set_option linter.unusedSimpArgs false
open Go Go.RowKit
set_option maxRecDepth 100000
set_option maxHeartbeats 8000000
attribute [local irreducible] WL WC WN Yl WH WQ WT WE WU WG WV
theorem rchk33_c (n : Int) (a : Option Addr) (m c2 : Nat) (K : List Int) (w : World) (hl : K.length = m) (hm : m ≤ 9223372036854775807) (hr : CellsAt w a (zcells K)) : Calls Tryz.prog 102 #[.agg #[.int .i64 n, .slice a m c2]] w (Gives (Val (.int .i64 (if planOk n K then 0 else 2))) w) := by
  refine enter (args := [.agg #[.int .i64 n, .slice a m c2]]) Tryz.func102 Tryz.ntmps102 rfl rfl ?_
  subst hl
  (repeat (first | refine WC.seq ?_ | refine WC.region ?_))
  refine WL.boxA rfl rfl fun b1 => ?_
  by_cases h1 : n < 0
  · rw [if_neg (fun h => by have := h.1; omega)]
    (repeat (first | refine WL.pass rfl rfl rfl rfl ?_ | refine WL.step (Yl.move rfl) rfl ?_ | refine WL.step (Yl.assign rfl) rfl ?_ | (refine WL.k_load ?_; refine WL.step (Yl.loadBlk (T := 3) Tryz.isAgg3 rfl zH (by rfl)) rfl ?_) | (refine WL.k_fld ?_; refine WL.step (Yl.fldN0 (i := 0) (o := 0) (by kernel_rfl) rfl) rfl ?_) | refine WL.step (Yl.pick_t rfl rfl rfl) rfl ?_ | (refine WL.k_bin .lss ?_; refine WL.step (Yl.lssT rfl rfl (by omega)) rfl ?_) | refine WC.seq ?_ | refine WC.region ?_ | refine WL.nil ?_ | refine WN.then_normal ?_))
    refine WC.cond_true rfl rfl ?_
    (repeat (first | refine WL.step (Yl.assign rfl) rfl ?_ | refine WC.seq ?_ | refine WC.region ?_ | refine WL.nil ?_ | refine WN.then_normal ?_ | refine WC.ret ?_ | refine WN.then_ret ?_))
    exact WN.ret1 rfl rfl ⟨rfl, rfl⟩ .nil
  by_cases h2 : 1000000 < n
  · rw [if_neg (fun h => by have := h.2.1; omega)]
    (repeat (first | (refine WL.kG ?_; first | refine WL.want rfl rfl rfl ?_ | refine WL.pass rfl rfl rfl rfl ?_) | refine WL.step (Yl.move rfl) rfl ?_ | refine WL.step (Yl.assign rfl) rfl ?_ | (refine WL.k_load ?_; refine WL.step (Yl.loadBlk (T := 3) Tryz.isAgg3 rfl zH (by rfl)) rfl ?_) | (refine WL.k_fld ?_; refine WL.step (Yl.fldN0 (i := 0) (o := 0) (by kernel_rfl) rfl) rfl ?_) | (refine WL.k_pick ?_; first | refine WL.step (Yl.pick_t rfl rfl rfl) rfl ?_ | refine WL.step (Yl.pick_f rfl rfl rfl) rfl ?_) | (refine WL.k_bin .lss ?_; refine WL.step (Yl.lssF rfl rfl (by omega)) rfl ?_) | (refine WL.k_bin .gtr ?_; refine WL.step (Yl.gtrT rfl rfl (by omega)) rfl ?_) | refine WC.seq ?_ | refine WC.region ?_ | refine WL.nil ?_ | refine WN.then_normal ?_))
    refine WC.cond_true rfl rfl ?_
    (repeat (first | refine WL.step (Yl.assign rfl) rfl ?_ | refine WC.seq ?_ | refine WC.region ?_ | refine WL.nil ?_ | refine WN.then_normal ?_ | refine WC.ret ?_ | refine WN.then_ret ?_))
    exact WN.ret1 rfl rfl ⟨rfl, rfl⟩ .nil
  by_cases h3 : K.length < 1
  · rw [if_neg (fun h => by have := h.2.2.1; omega)]
    (repeat (first | (refine WL.kG ?_; first | refine WL.want rfl rfl rfl ?_ | refine WL.pass rfl rfl rfl rfl ?_) | refine WL.step (Yl.move rfl) rfl ?_ | refine WL.step (Yl.assign rfl) rfl ?_ | (refine WL.k_load ?_; first | refine WL.step (Yl.loadBlk (T := 3) Tryz.isAgg3 rfl zH (by rfl)) rfl ?_ | refine WL.step (Yl.loadBlk (T := 61) Tryz.isAgg61 rfl zH (by rfl)) rfl ?_) | (refine WL.k_fld ?_; first | refine WL.step (Yl.fldN0 (i := 0) (o := 0) (by kernel_rfl) rfl) rfl ?_ | refine WL.step (Yl.fldN0 (i := 1) (o := 1) (by kernel_rfl) rfl) rfl ?_) | (refine WL.k_pick ?_; first | refine WL.step (Yl.pick_t rfl rfl rfl) rfl ?_ | refine WL.step (Yl.pick_f rfl rfl rfl) rfl ?_) | refine WL.step (Yl.len (t := 61) Tryz.underlying61 rfl) rfl ?_ | (refine WL.k_bin .lss ?_; first | refine WL.step (Yl.lssT rfl rfl (by omega)) rfl ?_ | refine WL.step (Yl.lssF rfl rfl (by omega)) rfl ?_) | (refine WL.k_bin .gtr ?_; refine WL.step (Yl.gtrF rfl rfl (by omega)) rfl ?_) | refine WC.seq ?_ | refine WC.region ?_ | refine WL.nil ?_ | refine WN.then_normal ?_))
    refine WC.cond_true rfl rfl ?_
    (repeat (first | refine WL.step (Yl.assign rfl) rfl ?_ | refine WC.seq ?_ | refine WC.region ?_ | refine WL.nil ?_ | refine WN.then_normal ?_ | refine WC.ret ?_ | refine WN.then_ret ?_))
    exact WN.ret1 rfl rfl ⟨rfl, rfl⟩ .nil
  by_cases h4 : 64 < K.length
  · rw [if_neg (fun h => by have := h.2.2.2.1; omega)]
    (repeat (first | refine WL.want rfl rfl rfl ?_ | refine WL.step (Yl.move rfl) rfl ?_ | refine WL.step (Yl.assign rfl) rfl ?_ | (refine WL.k_load ?_; first | refine WL.step (Yl.loadBlk (T := 3) Tryz.isAgg3 rfl zH (by rfl)) rfl ?_ | refine WL.step (Yl.loadBlk (T := 61) Tryz.isAgg61 rfl zH (by rfl)) rfl ?_) | (refine WL.k_fld ?_; first | refine WL.step (Yl.fldN0 (i := 0) (o := 0) (by kernel_rfl) rfl) rfl ?_ | refine WL.step (Yl.fldN0 (i := 1) (o := 1) (by kernel_rfl) rfl) rfl ?_) | refine WL.step (Yl.pick_f rfl rfl rfl) rfl ?_ | refine WL.step (Yl.len (t := 61) Tryz.underlying61 rfl) rfl ?_ | (refine WL.k_bin .lss ?_; refine WL.step (Yl.lssF rfl rfl (by omega)) rfl ?_) | (refine WL.k_bin .gtr ?_; first | refine WL.step (Yl.gtrT rfl rfl (by omega)) rfl ?_ | refine WL.step (Yl.gtrF rfl rfl (by omega)) rfl ?_) | refine WC.seq ?_ | refine WC.region ?_ | refine WL.nil ?_ | refine WN.then_normal ?_))
    refine WC.cond_true rfl rfl ?_
    (repeat (first | refine WL.step (Yl.assign rfl) rfl ?_ | refine WC.seq ?_ | refine WC.region ?_ | refine WL.nil ?_ | refine WN.then_normal ?_ | refine WC.ret ?_ | refine WN.then_ret ?_))
    exact WN.ret1 rfl rfl ⟨rfl, rfl⟩ .nil
  (repeat (first | refine WL.want rfl rfl rfl ?_ | refine WL.step (Yl.move rfl) rfl ?_ | refine WL.step (Yl.assign rfl) rfl ?_ | (refine WL.k_load ?_; first | refine WL.step (Yl.loadBlk (T := 3) Tryz.isAgg3 rfl zH (by rfl)) rfl ?_ | refine WL.step (Yl.loadBlk (T := 61) Tryz.isAgg61 rfl zH (by rfl)) rfl ?_) | (refine WL.k_fld ?_; first | refine WL.step (Yl.fldN0 (i := 0) (o := 0) (by kernel_rfl) rfl) rfl ?_ | refine WL.step (Yl.fldN0 (i := 1) (o := 1) (by kernel_rfl) rfl) rfl ?_) | refine WL.step (Yl.pick_f rfl rfl rfl) rfl ?_ | refine WL.step (Yl.len (t := 61) Tryz.underlying61 rfl) rfl ?_ | (refine WL.k_bin .lss ?_; refine WL.step (Yl.lssF rfl rfl (by omega)) rfl ?_) | (refine WL.k_bin .gtr ?_; refine WL.step (Yl.gtrF rfl rfl (by omega)) rfl ?_) | refine WC.seq ?_ | refine WC.region ?_ | refine WL.nil ?_ | refine WN.then_normal ?_))
  refine WC.cond_false rfl rfl ?_
  (repeat (first | refine WL.step (Yl.assign rfl) rfl ?_ | refine WC.seq ?_ | refine WC.region ?_ | refine WL.nil ?_ | refine WN.then_normal ?_ | refine WC.block ?_ | refine WC.skip ?_))
  refine WC.loop (α := Nat) (fun i => [(1, .pointer (some ⟨b1, 0, none⟩)), (3, .int .i64 (i : Int))]) (fun _ => [.blk b1 (.cells #[.int .i64 n, .slice a K.length c2] 63 (0, 0))]) (fun i => i ≤ K.length ∧ ∀ k ∈ K.take i, 0 ≤ k ∧ k ≤ 128) (fun i => K.length - i) 0 zS (by repeat (first | exact Part.nil | refine Part.cons zK ?_ | refine Part.free ?_)) ⟨Nat.zero_le _, fun k hk => by simp at hk⟩ ?_
  intro i ⟨hi, hp⟩
  (repeat (first | refine WL.step (Yl.move rfl) rfl ?_ | (refine WL.k_load ?_; refine WL.step (Yl.loadBlk (T := 61) Tryz.isAgg61 rfl zH (by rfl)) rfl ?_) | (refine WL.k_fld ?_; refine WL.step (Yl.fldN0 (i := 1) (o := 1) (by kernel_rfl) rfl) rfl ?_) | refine WL.step (Yl.len (t := 61) Tryz.underlying61 rfl) rfl ?_ | refine WL.step (Yl.lss rfl rfl) rfl ?_ | refine WC.seq ?_ | refine WC.region ?_ | refine WL.nil ?_ | refine WN.then_normal ?_))
  refine WC.ite rfl (fun g1 => ?_) (fun g1 => ?_)
  · have him : i < K.length := by omega
    have hz := zcells_at him
    have hg : K[i]? = some (K.getD i 0) := by simp [List.getD, him]
    have hmem := List.mem_of_getElem? hg
    by_cases g2 : K.getD i 0 < 0
    · rw [if_neg (fun h => by have := h.2.2.2.2 _ hmem; omega)]
      (repeat (first | refine WL.pass rfl rfl rfl rfl ?_ | refine WL.step (Yl.move rfl) rfl ?_ | (refine WL.k_load ?_; first | refine WL.step (Yl.loadBlk (T := 61) Tryz.isAgg61 rfl zH (by rfl)) rfl ?_ | refine WL.step (Yl.load (T := 3) (a := a) (i := i) Tryz.isAgg3 rfl (Rd.old hr) hz) rfl ?_) | (refine WL.k_fld ?_; refine WL.step (Yl.fldN0 (i := 1) (o := 1) (by kernel_rfl) rfl) rfl ?_) | refine WL.step (Yl.pick_t rfl rfl rfl) rfl ?_ | (refine WL.k_idxa ?_; refine WL.step (Yl.indexAddr1 (t := 61) (a := a) (j := i) Tryz.underlying61 Tryz.sizeOf3 rfl rfl (Rd.old hr) (zcells_ne him) (by omega)) rfl ?_) | (refine WL.k_bin .lss ?_; refine WL.step (Yl.lssT rfl rfl (by omega)) rfl ?_) | refine WC.seq ?_ | refine WC.region ?_ | refine WL.nil ?_ | refine WN.then_normal ?_ | refine WC.block ?_ | refine WC.skip ?_))
      refine WC.cond_true rfl rfl ?_
      (repeat (first | refine WL.step (Yl.assign rfl) rfl ?_ | refine WC.seq ?_ | refine WC.region ?_ | refine WL.nil ?_ | refine WN.then_normal ?_ | refine WC.ret ?_ | refine WN.then_ret ?_ | refine WN.block_ret ?_))
      exact WN.ret1 rfl rfl ⟨rfl, rfl⟩ .nil
    by_cases g3 : 128 < K.getD i 0
    · rw [if_neg (fun h => by have := h.2.2.2.2 _ hmem; omega)]
      (repeat (first | refine WL.want rfl rfl rfl ?_ | refine WL.step (Yl.move rfl) rfl ?_ | (refine WL.k_load ?_; first | refine WL.step (Yl.loadBlk (T := 61) Tryz.isAgg61 rfl zH (by rfl)) rfl ?_ | refine WL.step (Yl.load (T := 3) (a := a) (i := i) Tryz.isAgg3 rfl (Rd.old hr) hz) rfl ?_) | (refine WL.k_fld ?_; refine WL.step (Yl.fldN0 (i := 1) (o := 1) (by kernel_rfl) rfl) rfl ?_) | refine WL.step (Yl.pick_f rfl rfl rfl) rfl ?_ | (refine WL.k_idxa ?_; refine WL.step (Yl.indexAddr1 (t := 61) (a := a) (j := i) Tryz.underlying61 Tryz.sizeOf3 rfl rfl (Rd.old hr) (zcells_ne him) (by omega)) rfl ?_) | (refine WL.k_bin .lss ?_; refine WL.step (Yl.lssF rfl rfl (by omega)) rfl ?_) | (refine WL.k_bin .gtr ?_; refine WL.step (Yl.gtrT rfl rfl (by omega)) rfl ?_) | refine WC.seq ?_ | refine WC.region ?_ | refine WL.nil ?_ | refine WN.then_normal ?_ | refine WC.block ?_ | refine WC.skip ?_))
      refine WC.cond_true rfl rfl ?_
      (repeat (first | refine WL.step (Yl.assign rfl) rfl ?_ | refine WC.seq ?_ | refine WC.region ?_ | refine WL.nil ?_ | refine WN.then_normal ?_ | refine WC.ret ?_ | refine WN.then_ret ?_ | refine WN.block_ret ?_))
      exact WN.ret1 rfl rfl ⟨rfl, rfl⟩ .nil
    (repeat (first | refine WL.want rfl rfl rfl ?_ | refine WL.step (Yl.move rfl) rfl ?_ | (refine WL.k_load ?_; first | refine WL.step (Yl.loadBlk (T := 61) Tryz.isAgg61 rfl zH (by rfl)) rfl ?_ | refine WL.step (Yl.load (T := 3) (a := a) (i := i) Tryz.isAgg3 rfl (Rd.old hr) hz) rfl ?_) | (refine WL.k_fld ?_; refine WL.step (Yl.fldN0 (i := 1) (o := 1) (by kernel_rfl) rfl) rfl ?_) | refine WL.step (Yl.pick_f rfl rfl rfl) rfl ?_ | (refine WL.k_idxa ?_; refine WL.step (Yl.indexAddr1 (t := 61) (a := a) (j := i) Tryz.underlying61 Tryz.sizeOf3 rfl rfl (Rd.old hr) (zcells_ne him) (by omega)) rfl ?_) | (refine WL.k_bin .lss ?_; refine WL.step (Yl.lssF rfl rfl (by omega)) rfl ?_) | (refine WL.k_bin .gtr ?_; refine WL.step (Yl.gtrF rfl rfl (by omega)) rfl ?_) | refine WC.seq ?_ | refine WC.region ?_ | refine WL.nil ?_ | refine WN.then_normal ?_ | refine WC.block ?_ | refine WC.skip ?_))
    refine WC.cond_false rfl rfl ?_
    (repeat (first | refine WL.step (Yl.move rfl) rfl ?_ | refine WL.step (Yl.assign rfl) rfl ?_ | (refine WL.k_bin .add ?_; refine WL.step (Yl.add64C rfl (by omega)) rfl ?_) | refine WC.region ?_ | refine WL.nil ?_ | refine WN.then_normal ?_ | refine WC.skip ?_ | refine WN.block_normal ?_))
    refine WN.next (i + 1) ⟨by omega, fun k hk => ?_⟩ (by omega) zS (by repeat (first | exact Part.nil | refine Part.cons zK ?_ | refine Part.free ?_))
    rw [List.take_add_one, hg] at hk
    rcases List.mem_append.1 hk with h | h
    · exact hp k h
    · simp at h; subst h; simp only [List.getD_eq_getElem?_getD] at g2 g3; omega
  · have hKm : K.take i = K := List.take_of_length_le (by omega)
    rw [hKm] at hp
    rw [if_pos ⟨by omega, by omega, by omega, by omega, hp⟩]
    (repeat (first | refine WL.step (Yl.assign rfl) rfl ?_ | refine WC.seq ?_ | refine WC.region ?_ | refine WL.nil ?_ | refine WN.then_normal ?_ | refine WC.exit ?_ | refine WC.ret ?_ | refine WN.then_exit ?_ | refine WN.block_here ?_))
    exact WN.ret1 rfl rfl ⟨rfl, rfl⟩ .nil
end Go.Proofs.YtbkdjfgkebkknaaGreatDoor
namespace Go.Proofs.YtbkdjfgkebkknaaGreatDoor
set_option linter.unusedVariables false
set_option linter.unusedSimpArgs false
open Go Go.RowKit
set_option maxRecDepth 100000
set_option maxHeartbeats 8000000
structure RDP where
  bd : Nat
  r : RP
structure RDS where
  os : List Sl
  fs : List Sl
  Is : List Bool
  d : List (List UInt8)
  F : Nat → Option (List UInt8)
  down : Bool
  n : Nat
  qa : Option Addr
  qc : Nat
  K : List Int
  ops : Nat
  rd : Nat
def RDS.v (s : RDS) : DV := ⟨s.d, s.F, s.down, if s.n = 0 then none else some (s.n, s.K), s.ops, s.rd⟩
def rdO (p : RDP) (s : RDS) : Obj := .cells #[bptr p.r.br, .bool s.down, .int .i64 (s.n : Int), .slice s.qa s.K.length s.qc, .int .i64 (s.ops : Int), .int .i64 (s.rd : Int)] 137 (0, 0)
def kRow (s : RDS) : HA := .row s.qa s.qc 3 1 (zcells s.K)
def rdI (p : RDP) (s : RDS) : List HA := .blk p.bd (rdO p s) :: (rbI p.r s.os s.fs s.Is ++ [kRow s])
structure RDS.Ok (s : RDS) : Prop where
  wf : BkWf s.d s.F
  ok : RbOk s.os s.fs s.Is s.d s.F
  kc : s.K.length ≤ s.qc
  k64 : s.K.length ≤ 64
  pl : s.n ≠ 0 → planOk s.n s.K
structure RDAt (w : World) (p : RDP) (s : RDS) : Prop where
  ok : s.Ok
  blk : w.heap[p.bd]? = some (rdO p s)
  bank : RbAt w p.r s.os s.fs s.Is s.d s.F
  k : CellsAt w s.qa (zcells s.K)
theorem RDAt.keep {w w' : World} {p : RDP} {s : RDS} (h : RDAt w p s) (k : Kept w [] w') : RDAt w' p s :=
  ⟨h.ok, (k.block p.bd (lt_of_heap h.blk) (by simp)).trans h.blk, h.bank.keep k, h.k.keep k⟩
theorem RDS.Ok.out {s : RDS} {p : RDP} (h : s.Ok) {w0 w : World} {S : List Nat} {A : List HA} (st : St w0 S A w) (hi : ∀ x ∈ rdI p s, x ∈ A) (hO : ∀ x ∈ s.os ++ s.fs, OutF w0 S x) : RDAt w p s :=
  ⟨h, st.holds _ (hi _ (.head _)), RbAt.out h.ok h.wf (fun x hx => hi _ (.tail _ (List.mem_append_left _ hx))) hO st, Rd.row (X := ⟨Tryz.prog, 0, w0, S⟩) (hi (kRow s) (.tail _ (List.mem_append_right _ (.head _)))) w st⟩
theorem RDS.Ok.at_ {s : RDS} {p : RDP} (h : s.Ok) {w0 w : World} {S : List Nat} {A Z : List HA} (st : St w0 S A w) (hi : ∀ x ∈ rdI p s, x ∈ A) (hz : ∀ x ∈ Z, x ∈ A) (hin : ∀ x ∈ s.os ++ s.fs, InF Z x) : RDAt w p s :=
  ⟨h, st.holds _ (hi _ (.head _)), RbAt.of h.ok h.wf (fun x hx => hi _ (.tail _ (List.mem_append_left _ hx))) hz hin st, Rd.row (X := ⟨Tryz.prog, 0, w0, S⟩) (hi (kRow s) (.tail _ (List.mem_append_right _ (.head _)))) w st⟩
attribute [local irreducible] WL WC WN Yl WH WQ WT WE WU WG WV
section
variable {p : RDP} {s : RDS}
theorem evalid_c (w : World) (h : RDAt w p s) : Calls Tryz.prog 75 #[bptr p.bd] w (Gives (Val (.bool true)) w) := by
  refine enter (args := [.pointer (some ⟨p.bd, 0, none⟩)]) Tryz.func75 Tryz.ntmps75 rfl rfl ?_
  (repeat (first | refine WL.want rfl rfl rfl ?_ | refine WL.step (Yl.move rfl) rfl ?_ | refine WL.step (Yl.assign rfl) rfl ?_ | refine WL.step (Yl.loadH Tryz.isAgg133 rfl (Has.old h.blk) rfl) rfl ?_ | (refine WL.k_fld ?_; refine WL.step (Yl.fldN0 (i := 0) (o := 0) (by kernel_rfl) rfl) rfl ?_) | refine WL.step (Yl.pick_t rfl rfl rfl) rfl ?_ | (refine WL.k_bin .neq ?_; refine WL.step (Yl.neqPN (by kernel_rfl) rfl) rfl ?_) | refine WL.step (Yl.nilCheck rfl) rfl ?_ | refine WC.seq ?_ | refine WC.region ?_ | refine WL.nil ?_ | refine WN.then_normal ?_ | refine WC.ret ?_))
  exact WN.ret1 rfl rfl ⟨rfl, rfl⟩ .nil
theorem edown_c (w : World) (h : RDAt w p s) : Calls Tryz.prog 28 #[bptr p.bd] w (Gives (Val (.bool s.down)) w) := by
  refine enter (args := [.pointer (some ⟨p.bd, 0, none⟩)]) Tryz.func28 Tryz.ntmps28 rfl rfl ?_
  (repeat (first | refine WL.want rfl rfl rfl ?_ | refine WL.step (Yl.move rfl) rfl ?_ | refine WL.step (Yl.assign rfl) rfl ?_ | refine WL.step (Yl.loadH Tryz.isAgg133 rfl (Has.old h.blk) rfl) rfl ?_ | (refine WL.k_fld ?_; refine WL.step (Yl.fldN0 (i := 1) (o := 1) (by kernel_rfl) rfl) rfl ?_) | refine WL.step (Yl.pick_t rfl rfl rfl) rfl ?_ | refine WL.callV (g := 75) (v := .bool true) Tryz.call75 rfl (fun w0 st => evalid_c w0 (h.keep st.kept)) rfl ?_ | refine WL.step (Yl.nilCheck rfl) rfl ?_ | refine WC.seq ?_ | refine WC.region ?_ | refine WL.nil ?_ | refine WN.then_normal ?_ | refine WC.ret ?_))
  exact WN.ret1 rfl rfl ⟨rfl, rfl⟩ .nil
theorem elen_c (w : World) (h : RDAt w p s) : Calls Tryz.prog 78 #[bptr p.bd] w (Gives (Val (.int .i64 (s.d.length : Int))) w) := by
  refine enter (args := [.pointer (some ⟨p.bd, 0, none⟩)]) Tryz.func78 Tryz.ntmps78 rfl rfl ?_
  (repeat (first | refine WL.step (Yl.move rfl) rfl ?_ | refine WL.step (Yl.assign rfl) rfl ?_ | refine WL.callV (g := 75) (v := .bool true) Tryz.call75 rfl (fun w0 st => evalid_c w0 (h.keep st.kept)) rfl ?_ | refine WL.step (Yl.not rfl) rfl ?_ | refine WC.seq ?_ | refine WC.region ?_ | refine WL.nil ?_ | refine WN.then_normal ?_))
  refine WC.cond_false rfl rfl ?_
  (repeat (first | refine WL.step (Yl.move rfl) rfl ?_ | refine WL.step (Yl.assign rfl) rfl ?_ | refine WL.step (Yl.loadH Tryz.isAgg133 rfl (Has.old h.blk) rfl) rfl ?_ | (refine WL.k_fld ?_; refine WL.step (Yl.fldN0 (i := 0) (o := 0) (by kernel_rfl) rfl) rfl ?_) | refine WL.step (Yl.nilCheck rfl) rfl ?_ | refine WL.callV (g := 118) Tryz.call118 rfl (fun w0 st => rlen_c w0 (h.keep st.kept).bank) rfl ?_ | refine WC.seq ?_ | refine WC.region ?_ | refine WL.nil ?_ | refine WN.then_normal ?_ | refine WC.skip ?_ | refine WC.ret ?_))
  exact WN.ret1 rfl rfl ⟨rfl, rfl⟩ .nil
end
end Go.Proofs.YtbkdjfgkebkknaaGreatDoor
namespace Go.Proofs.YtbkdjfgkebkknaaGreatDoor
set_option linter.unusedVariables false
set_option linter.unusedSimpArgs false
open Go Go.RowKit
set_option maxRecDepth 100000
set_option maxHeartbeats 8000000
def EdV (p : RDP) (s : RDS) (v : DV) (e : Nat) : Value → List HA → Prop := fun u B => u = .int .i64 (e : Int) ∧ ∃ s' : RDS, ∃ Z, s'.Ok ∧ s'.v = v ∧ B = rdI p s' ++ Z ∧ ∀ x ∈ s'.os ++ s'.fs, x ∈ s.os ++ s.fs ∨ InF Z x
def CraV (p : RDP) (s : RDS) (K : List Int) : Value → List HA → Prop := fun u B => u = .tuple #[] ∧ ∃ os' fs' Is' Z, B = .blk p.bd (rdO p ⟨os', fs', Is', (crashR K s.d s.F).1.1, (crashR K s.d s.F).1.2, true, 0, none, 0, [], s.ops, s.rd⟩) :: (rbI p.r os' fs' Is' ++ Z) ∧ RbOk os' fs' Is' (crashR K s.d s.F).1.1 (crashR K s.d s.F).1.2 ∧ ∀ x ∈ os' ++ fs', x ∈ s.os ++ s.fs ∨ InF Z x
theorem WL.free {X : Cx} {ops : Array Oper} {Q : Exit → Act → World → Prop} {l : List Oper} {ρ : Env} {A : List HA} (h : WL X ops Q l ρ (.row none 0 3 1 (zcells []) :: A)) : WL X ops Q l ρ A := WL.part (.free (Part.refl _)) h
theorem buildPlZ (w : World) : (Instr.build 63 [].toArray).run Tryz.prog w = .ok (.agg #[.int .i64 0, .slice none 0 0]) w := by
  simp [Instr.build, Tryz.zeroValue63, run_underlying Tryz.underlying63, Value.cells, Instr.fill]
attribute [local irreducible] WL WC WN Yl WH WQ WT WE WU WG WV
section
variable {p : RDP} {S : List Nat}
theorem ecrash_r (s : RDS) (a : Option Addr) (m c2 : Nat) (K : List Int) (w : World) (wf : BkWf s.d s.F) (ok : RbOk s.os s.fs s.Is s.d s.F) (hO : ∀ y ∈ s.os ++ s.fs, OutF w S y) (hl : K.length = m) (hm : m ≤ 100000) (hr : CellsOut w S a (zcells K)) (st : St w S (.blk p.bd (rdO p s) :: rbI p.r s.os s.fs s.Is) w) :
    Calls Tryz.prog 103 #[bptr p.bd, .slice a m c2] w (GivesS S (CraV p s K) w) := by
  refine enterS (args := [.pointer (some ⟨p.bd, 0, none⟩), _]) Tryz.func103 Tryz.ntmps103 rfl rfl st ?_
  rw [rdO]
  (repeat (first | refine WL.step (Yl.move rfl) rfl ?_ | (refine WL.k_load ?_; refine WL.step (Yl.loadBlk (T := 133) Tryz.isAgg133 rfl zH (by rfl)) rfl ?_) | (refine WL.k_fld ?_; refine WL.step (Yl.fldN0 (i := 0) (o := 0) (by kernel_rfl) rfl) rfl ?_) | refine WL.step (Yl.nilCheck rfl) rfl ?_ | refine WC.seq ?_ | refine WC.region ?_))
  refine WL.callS (g := 128) (A0 := rbI p.r s.os s.fs s.Is) (B := [_]) Tryz.call128 rfl (List.perm_append_comm (l₁ := [_])) (fun w0 st2 st1 => rcrash_r a m c2 K w0 wf ok (fun y hy => ⟨(hO y hy).1, old_out st2 (List.perm_append_comm (l₁ := [_])) (hO y hy).2⟩) hl (by omega) (old_out st2 (List.perm_append_comm (l₁ := [_])) hr) st1) rfl fun v C hv => ?_
  obtain ⟨rfl, os', fs', Is', Z, rfl, hok, hin⟩ := hv
  refine WL.part (Part.perm (List.perm_append_comm (l₂ := [_]))) ?_
  rw [List.singleton_append]
  (repeat (first | refine WL.step (Yl.move rfl) rfl ?_ | (refine WL.k_fld ?_; refine WL.step (Yl.fldN0 (i := 1) (o := 1) (by kernel_rfl) rfl) rfl ?_) | refine WL.step (Yl.nilCheck rfl) rfl ?_ | refine WC.seq ?_ | refine WC.region ?_ | refine WL.nil ?_ | refine WN.then_normal ?_))
  refine WL.storeAt (T := 4) Tryz.sizeOf4 rfl rfl rfl .here rfl ?_
  (repeat (first | refine WL.step (Yl.move rfl) rfl ?_ | (refine WL.k_fld ?_; refine WL.step (Yl.fldN0 (i := 2) (o := 2) (by kernel_rfl) rfl) rfl ?_) | refine WL.step (Yl.nilCheck rfl) rfl ?_ | refine WL.step (Yl.build (ps := []) (vs := []) rfl (fun w => buildPlZ w)) rfl ?_ | refine WC.region ?_ | refine WL.nil ?_ | refine WN.then_normal ?_))
  refine WL.storeBlk (T := 63) (off := 2) (us := [.int .i64 0, .slice none 0 0]) Tryz.sizeOf63 rfl rfl rfl (fun u hu => by simp at hu; rcases hu with rfl | rfl <;> rfl) .here (by simp) ?_
  (repeat (first | refine WL.nil ?_))
  exact WN.end0S rfl ⟨rfl, os', fs', Is', Z, rfl, hok, hin⟩ (Part.refl _)
end
end Go.Proofs.YtbkdjfgkebkknaaGreatDoor
namespace Go.Proofs.YtbkdjfgkebkknaaGreatDoor
set_option linter.unusedVariables false
set_option linter.unusedSimpArgs false
open Go Go.RowKit
set_option maxRecDepth 100000
set_option maxHeartbeats 8000000
attribute [local irreducible] WL WC WN Yl WH WQ WT WE WU WG WV
section
variable {p : RDP} {S : List Nat}
end
end Go.Proofs.YtbkdjfgkebkknaaGreatDoor
