import Derived.Test.YtbkdjfgkebkknaaGreatDoorRowJournalRowsMg7
import Derived.Test.YtbkdjfgkebkknaaGreatDoorRowJournalRowsMg8
import Derived.Test.YtbkdjfgkebkknaaGreatDoorRowJournalRowsMg19
import Derived.Test.YtbkdjfgkebkknaaGreatDoorRowJournalRowsMg9
namespace Go.Proofs.YtbkdjfgkebkknaaGreatDoor
set_option linter.unusedVariables false
set_option linter.unusedSimpArgs false
open Go Go.RowKit
set_option maxRecDepth 100000
theorem cf_atK (K : List Int) (d : List (List UInt8)) (F : Nat → Option (List UInt8)) : ∀ m, m ≤ d.length →
    (cfold K (d, F) (dpre F m)).1.length = d.length ∧
    (∀ j, m ≤ j → (cfold K (d, F) (dpre F m)).2 j = F j ∧ (cfold K (d, F) (dpre F m)).1.getD j [] = d.getD j []) ∧
    (∀ j, j < m → (cfold K (d, F) (dpre F m)).2 j = none ∧ (F j = none → (cfold K (d, F) (dpre F m)).1.getD j [] = d.getD j []) ∧ ∀ u, F j = some u → (cfold K (d, F) (dpre F m)).1.getD j [] = u.take (keepAt K (dpre F j).length) ++ (d.getD j []).drop (keepAt K (dpre F j).length)) := by
  intro m
  induction m with
  | zero => intro _; exact ⟨rfl, fun j _ => ⟨rfl, rfl⟩, fun j hj => by omega⟩
  | succ m ih =>
    intro hm
    obtain ⟨h1, h2, h3⟩ := ih (by omega)
    cases e : F m with
    | none =>
      rw [dpre_none e]
      refine ⟨h1, fun j hj => h2 j (by omega), fun j hj => ?_⟩
      by_cases ej : j = m
      · subst ej
        have := h2 j (Nat.le_refl _)
        exact ⟨by rw [this.1, e], fun _ => this.2, fun u hu => by rw [e] at hu; cases hu⟩
      · exact h3 j (by omega)
    | some u =>
      rw [dpre_some e, cfold_snoc]
      have hm2 := h2 m (Nat.le_refl _)
      generalize cfold K (d, F) (dpre F m) = s at *
      have hl : m < s.1.length := by omega
      have hset : ∀ j, (cstep K s (dpre F m).length m).1.getD j [] = if j = m then u.take (keepAt K (dpre F m).length) ++ (d.getD m []).drop (keepAt K (dpre F m).length) else s.1.getD j [] := fun j => by
        by_cases ej : j = m
        · subst ej
          rw [if_pos rfl]
          simp only [cstep, hm2.1, e, hm2.2]
          simp [List.getD, hl]
        · rw [if_neg ej]
          simp [cstep, List.getD, List.getElem?_set_ne (Ne.symm ej)]
      have hsf : ∀ j, (cstep K s (dpre F m).length m).2 j = if j = m then none else s.2 j := fun j => rfl
      refine ⟨by rw [cstep_len]; exact h1, fun j hj => ?_, fun j hj => ?_⟩
      · rw [hset, hsf, if_neg (by omega), if_neg (by omega)]
        exact h2 j (by omega)
      · rw [hset, hsf]
        by_cases ej : j = m
        · subst ej
          rw [if_pos rfl, if_pos rfl]
          exact ⟨rfl, fun h => (by rw [e] at h; cases h), fun u' hu => by rw [e] at hu; cases hu; rfl⟩
        · rw [if_neg ej, if_neg ej]
          exact h3 j (by omega)
theorem crashK {K : List Int} (hK : keepOk K) (d : List (List UInt8)) (F : Nat → Option (List UInt8)) : (crashR K d F).1.1.length = d.length ∧ ∀ i, i < d.length →
    (crashR K d F).1.2 i = none ∧ (F i = none → (crashR K d F).1.1.getD i [] = d.getD i []) ∧ ∀ u, F i = some u → (crashR K d F).1.1.getD i [] = u.take (keepAt K (dpre F i).length) ++ (d.getD i []).drop (keepAt K (dpre F i).length) := by
  rw [crashR, if_pos hK]
  obtain ⟨h1, _, h3⟩ := cf_atK K d F d.length (Nat.le_refl _)
  rw [dpre_all] at h1 h3
  exact ⟨h1, h3⟩
end Go.Proofs.YtbkdjfgkebkknaaGreatDoor
namespace Go.Proofs.YtbkdjfgkebkknaaGreatDoor
set_option linter.unusedVariables false
set_option linter.unusedSimpArgs false
open Go Go.RowKit
set_option maxRecDepth 100000
theorem getD_l {α : Type} {X Y : List α} {k : Nat} {d : α} (h : k < X.length) : (X ++ Y).getD k d = X.getD k d := by simp [List.getD, List.getElem?_append_left h]
theorem getD_r {α : Type} {X Y : List α} {k : Nat} {d : α} (h : X.length ≤ k) : (X ++ Y).getD k d = Y.getD (k - X.length) d := by simp [List.getD, List.getElem?_append_right h]
def secV (v : DV) (k : Nat) : List UInt8 := (v.F k).getD (v.d.getD k [])
theorem secV_len {v : DV} (hw : BkWf v.d v.F) {k : Nat} (h : k < v.d.length) : (secV v k).length = 128 := by
  have := readR_at hw h
  rw [this.1] at this
  exact this.2.2
theorem rowB_sec {v : DV} (hw : BkWf v.d v.F) {a k : Nat} (h : a + k < v.d.length) : (readR v.d v.F ((a + k : Nat) : Int)).1 = secV v (a + k) := (readR_at hw h).1
theorem rowB_add {v : DV} (a k : Nat) : ∀ m, rowB v a (k + m) = rowB v a k ++ rowB v (a + k) m
  | 0 => by simp [rowB]
  | m + 1 => by rw [← Nat.add_assoc, rowB_succ, rowB_add a k m, rowB_succ, List.append_assoc, Nat.add_assoc]
def Has_ (v : DV) (a : Nat) (X : List (List UInt8)) : Prop := ∀ k, k < X.length → secV v (a + k) = X.getD k []
theorem Has_.nil (v : DV) (a : Nat) : Has_ v a [] := fun k h => by simp at h
theorem Has_.app {v : DV} {a : Nat} {X Y : List (List UInt8)} : Has_ v a (X ++ Y) ↔ Has_ v a X ∧ Has_ v (a + X.length) Y := by
  constructor
  · intro h
    refine ⟨fun k hk => ?_, fun k hk => ?_⟩
    · rw [h k (by rw [List.length_append]; omega), getD_l hk]
    · have := h (X.length + k) (by rw [List.length_append]; omega)
      rw [getD_r (by omega), Nat.add_sub_cancel_left] at this
      rw [Nat.add_assoc]; exact this
  · rintro ⟨h1, h2⟩ k hk
    rw [List.length_append] at hk
    by_cases h : k < X.length
    · rw [h1 k h, getD_l h]
    · have := h2 (k - X.length) (by omega)
      rw [getD_r (by omega), ← this]
      congr 1; omega
theorem Has_.keep {v v' : DV} {a : Nat} {X : List (List UInt8)} (h : Has_ v a X) (hk : ∀ k, a ≤ k → k < a + X.length → secV v' k = secV v k) : Has_ v' a X := fun k hl => by
  rw [hk (a + k) (by omega) (by omega)]; exact h k hl
theorem rowB_has {v : DV} (hw : BkWf v.d v.F) {a : Nat} {X : List (List UInt8)} (h : Has_ v a X) (hl : a + X.length ≤ v.d.length) : rowB v a X.length = X.flatten := by
  have key : ∀ m, m ≤ X.length → rowB v a m = (X.take m).flatten := fun m => by
    induction m with
    | zero => intro _; rfl
    | succ m ih =>
      intro hm
      have hx : X[m]? = some (X.getD m []) := by
        have : X[m]? = some (X[m]'hm) := List.getElem?_eq_getElem hm
        rw [this]; simp [List.getD, this]
      rw [rowB_succ, ih (by omega), rowB_sec hw (by omega), h m hm, List.take_add_one, hx]
      simp
  have := key X.length (Nat.le_refl _)
  rwa [List.take_length] at this
theorem pieces_flatten (b : List UInt8) : ∀ k, (pieces b k).flatten = b.take (128 * k)
  | 0 => by simp [pieces, pcl]
  | k + 1 => by
    rw [pieces_succ, List.flatten_append, pieces_flatten b k, List.flatten_singleton, ← List.take_add]
    congr 1
theorem frameP_flatten {ep : Int} {tx : Nat} {kd ix no : Int} {dt : List UInt8} (h : Frm.Ok kd ep (tx : Int) ix no dt.length) : (frameP ep tx kd ix no dt).flatten = (Frm.enc kd ep (tx : Int) ix no dt).2 := by
  rw [frameP, pieces_flatten, ← enc_len h, List.take_length]
theorem frA_at {v : DV} (hw : BkWf v.d v.F) {first n at_ : Nat} {ep : Int} {tx : Nat} {kd ix no : Int} {dt : List UInt8} (h : Frm.Ok kd ep (tx : Int) ix no dt.length) (hl : first + n ≤ v.d.length) (hf : at_ + (Frm.secs kd).1 ≤ n) (hh : Has_ v (first + at_) (frameP ep tx kd ix no dt)) :
    frA v first n ep at_ = ⟨0, (Frm.secs kd).1, kd, ep, (tx : Int), ix, no, dt⟩ := by
  have h5 := secs_le kd
  have e : min (at_ + 5) n - at_ = (Frm.secs kd).1 + (min (at_ + 5) n - at_ - (Frm.secs kd).1) := by omega
  have h1 := rowB_has hw hh (by rw [frameP_len]; omega)
  rw [frameP_len, frameP_flatten h] at h1
  rw [frA, e, rowB_add, h1]
  exact Frm.enc_dec h _
theorem unst_app {X : List UInt8} (hX : X.length = 128) (r : List UInt8) (n : Int) : (Frm.unst (X ++ r) n).1 = (Frm.unst X n).1 := by
  have h1 : (X ++ r).take 8 = X.take 8 := List.take_append_of_le_length (by omega)
  have h2 : ((X ++ r).drop 120).take 8 = (X.drop 120).take 8 := by rw [List.drop_append_of_le_length (by omega), List.take_append_of_le_length (by rw [List.length_drop]; omega)]
  have ht : Frm.Torn (X ++ r) n ↔ Frm.Torn X n := by
    unfold Frm.Torn
    rw [h1, h2, List.length_append]
    constructor
    · rintro (h | h)
      · omega
      · exact .inr h
    · rintro (h | h)
      · omega
      · exact .inr h
  rw [Frm.unst_err, Frm.unst_err]
  by_cases he : Frm.Ep n
  · rw [if_neg (not_not_intro he), if_neg (not_not_intro he)]
    by_cases h : Frm.Torn X n
    · rw [if_pos h, if_pos (ht.2 h)]
    · rw [if_neg h, if_neg (fun k => h (ht.1 k))]
  · rw [if_pos he, if_pos he]
theorem dec_unst {b : List UInt8} {n : Int} (h : (Frm.unst b n).1 ≠ 0) : (Frm.dec b n).err ≠ 0 := by
  rw [Frm.dec, if_pos h]; exact h
theorem frA_no {v : DV} (hw : BkWf v.d v.F) {first n at_ : Nat} {ep : Int} (hl : first + n ≤ v.d.length) (h : at_ < n → (Frm.unst (secV v (first + at_)) ep).1 ≠ 0) : (frA v first n ep at_).err ≠ 0 := by
  refine dec_unst ?_
  by_cases hn : at_ < n
  · have e : min (at_ + 5) n - at_ = 1 + (min (at_ + 5) n - at_ - 1) := by omega
    have e1 : rowB v (first + at_) 1 = secV v (first + at_) := by
      have := rowB_sec hw (a := first + at_) (k := 0) (by omega)
      rw [show (1 : Nat) = 0 + 1 from rfl, rowB_succ, this]; rfl
    rw [e, rowB_add, e1, unst_app (secV_len hw (by omega))]
    exact h hn
  · rw [show min (at_ + 5) n - at_ = 0 by omega]
    show (Frm.unst [] ep).1 ≠ 0
    rw [Frm.unst_err]
    split
    · decide
    · rw [if_pos (.inl (by decide))]; decide
def Clean (v : DV) (first n : Nat) (ep : Int) (a : Nat) : Prop := ∀ k, a ≤ k → k < n → (Frm.unst (secV v (first + k)) ep).1 ≠ 0
def JV.add (j : JV) (T : List Pg) : JV := j.commit (plT j.used (j.tx + 1) T) (j.used + 5 * T.length + 1)
def JV.adds (j : JV) (Ts : List (List Pg)) : JV := Ts.foldl JV.add j
def SS.of (j : JV) : SS := ⟨j.used, j.tx, j.used, j.F, -1, noG, 0⟩
def JV.new (first n : Nat) (ep : Int) : JV := ⟨first, n, ep, 0, 0, noG⟩
theorem add_first (j : JV) (T : List Pg) : (j.add T).first = j.first ∧ (j.add T).n = j.n ∧ (j.add T).ep = j.ep ∧ (j.add T).used = j.used + 5 * T.length + 1 ∧ (j.add T).tx = j.tx + 1 := ⟨rfl, rfl, rfl, rfl, rfl⟩
theorem adds_snoc (j : JV) (Ts : List (List Pg)) (T : List Pg) : j.adds (Ts ++ [T]) = (j.adds Ts).add T := by simp [JV.adds]
theorem adds_same : ∀ (Ts : List (List Pg)) (j : JV), (j.adds Ts).first = j.first ∧ (j.adds Ts).n = j.n ∧ (j.adds Ts).ep = j.ep ∧ j.used ≤ (j.adds Ts).used ∧ (j.adds Ts).tx = j.tx + Ts.length
  | [], j => ⟨rfl, rfl, rfl, Nat.le_refl _, rfl⟩
  | T :: Ts, j => by
    obtain ⟨h1, h2, h3, h4, h5⟩ := adds_same Ts (j.add T)
    obtain ⟨k1, k2, k3, k4, k5⟩ := add_first j T
    refine ⟨h1.trans k1, h2.trans k2, h3.trans k3, ?_, ?_⟩
    · show j.used ≤ ((j.add T).adds Ts).used; omega
    · show ((j.add T).adds Ts).tx = _; rw [h5, k5, List.length_cons]; omega
structure TxOk (v : DV) (j : JV) (T : List Pg) : Prop where
  ne : T ≠ []
  ok : PgOk T
  fit : j.used + 5 * T.length + 1 ≤ j.n
  has : Has_ v (j.first + j.used) (trP j.ep (j.tx + 1) T)
def LaidT (v : DV) : JV → List (List Pg) → Prop
  | _, [] => True
  | j, T :: Ts => TxOk v j T ∧ LaidT v (j.add T) Ts
theorem laid_snoc {v : DV} : ∀ {Ts : List (List Pg)} {j : JV} {T : List Pg}, LaidT v j (Ts ++ [T]) ↔ LaidT v j Ts ∧ TxOk v (j.adds Ts) T
  | [], j, T => by simp [LaidT, JV.adds]
  | U :: Ts, j, T => by
    rw [List.cons_append, LaidT, LaidT, laid_snoc, and_assoc]; rfl
theorem trP_len (ep : Int) (tx : Nat) (L : List Pg) : (trP ep tx L).length = 5 * L.length + 1 := by
  rw [trP, List.length_append, trF_len, frameP_len]; rfl
theorem LaidT.keep {v v' : DV} : ∀ {Ts : List (List Pg)} {j : JV}, LaidT v j Ts → (∀ k, j.first + j.used ≤ k → k < j.first + (j.adds Ts).used → secV v' k = secV v k) → LaidT v' j Ts
  | [], _, _, _ => trivial
  | T :: Ts, j, h, hk => by
    obtain ⟨h1, h2⟩ := h
    have ha := adds_same Ts (j.add T)
    refine ⟨⟨h1.ne, h1.ok, h1.fit, h1.has.keep fun k k1 k2 => hk k k1 ?_⟩, LaidT.keep h2 fun k k1 k2 => hk k ?_ k2⟩
    · rw [trP_len] at k2
      show k < j.first + ((j.add T).adds Ts).used
      have := (add_first j T).2.2.2.1
      omega
    · have k1' : j.first + (j.used + 5 * T.length + 1) ≤ k := k1
      omega
section
variable {v : DV} {first n : Nat} {ep : Int}
theorem scan_pages (hw : BkWf v.d v.F) (he : Frm.Ep ep) (hl : first + n ≤ v.d.length) {u tx us : Nat} {F : Nat → Option Pc} (htx : tx < 4294967295) : ∀ (M : List Pg) (i : Nat) (last : Int) (G : Nat → Option Pc) (t : SS),
    PgOk M → (∀ q ∈ M, last < q.no) → i + M.length ≤ 4096 → u + 5 * (i + M.length) ≤ n → Has_ v (first + (u + 5 * i)) (trF ep (tx + 1) i M) → Scan (frA v first n ep) ⟨u + 5 * (i + M.length), tx, us, F, M.foldl (fun _ q => q.no) last, plG u (tx + 1) i M G, i + M.length⟩ t → Scan (frA v first n ep) ⟨u + 5 * i, tx, us, F, last, G, i⟩ t
  | [], i, last, G, t, _, _, _, _, _, hs => hs
  | q :: M, i, last, G, t, hp, hlo, hi, hu, hh, hs => by
    rw [List.length_cons] at hi hu
    rw [trF] at hh
    obtain ⟨hh1, hh2⟩ := Has_.app.1 hh
    rw [frameP_len, show (Frm.secs 1).1 = 5 from rfl] at hh2
    have q0 := hp.low q (.head _)
    have q1 := hp.high q (.head _)
    have q2 := hp.len q (.head _)
    have hinc := List.pairwise_cons.1 hp.inc
    have hok : Frm.Ok 1 ep ((tx + 1 : Nat) : Int) (i : Int) q.no q.s.l.length := ⟨he, by omega, by omega, .inl ⟨rfl, by omega, by omega, q0, by omega, q2⟩⟩
    have hf := frA_at hw hok hl (at_ := u + 5 * i) (by show u + 5 * i + 5 ≤ n; omega) hh1
    refine .page _ _ ?_ ?_ ?_
    · show (frA v first n ep (u + 5 * i)).err = 0 ∧ (frA v first n ep (u + 5 * i)).tx = _
      rw [hf]; exact ⟨rfl, rfl⟩
    · show (frA v first n ep (u + 5 * i)).kd = 1 ∧ (frA v first n ep (u + 5 * i)).ix = _ ∧ last < (frA v first n ep (u + 5 * i)).no
      rw [hf]; exact ⟨rfl, rfl, hlo q (.head _)⟩
    · rw [show (SS.mk (u + 5 * i) tx us F last G i).page (frA v first n ep (SS.mk (u + 5 * i) tx us F last G i).at_) = ⟨u + 5 * (i + 1), tx, us, F, q.no, setF G q.no.toNat (some ⟨u + 5 * i, tx + 1, i⟩), i + 1⟩ by
        show (SS.mk (u + 5 * i) tx us F last G i).page (frA v first n ep (u + 5 * i)) = _
        rw [hf]; rfl]
      refine scan_pages hw he hl htx M (i + 1) q.no _ t ⟨fun x hx => hp.low x (.tail _ hx), fun x hx => hp.high x (.tail _ hx), fun x hx => hp.len x (.tail _ hx), hinc.2⟩ hinc.1 (by omega) (by omega) ?_ ?_
      · rw [show first + (u + 5 * (i + 1)) = first + (u + 5 * i) + 5 by omega]; exact hh2
      · rw [List.length_cons, List.foldl_cons, plG, show i + (M.length + 1) = i + 1 + M.length by omega] at hs
        exact hs
theorem scan_tx (hw : BkWf v.d v.F) {j : JV} (he : Frm.Ep j.ep) (hl : j.first + j.n ≤ v.d.length) (hn : j.n ≤ 4096) (htx : j.tx < 4294967295) {T : List Pg} (h : TxOk v j T) {t : SS} (hs : Scan (frA v j.first j.n j.ep) (SS.of (j.add T)) t) : Scan (frA v j.first j.n j.ep) (SS.of j) t := by
  have hf := h.fit
  obtain ⟨hh1, hh2⟩ := Has_.app.1 h.has
  rw [trF_len] at hh2
  have hpos : 0 < T.length := List.length_pos_iff.2 h.ne
  have := scan_pages hw he hl (u := j.used) (tx := j.tx) (us := j.used) (F := j.F) htx T 0 (-1) noG t h.ok (fun q hq => by have := h.ok.low q hq; omega) (by omega) (by omega) (by simpa using hh1)
  refine this ?_
  rw [Nat.zero_add]
  have hok : Frm.Ok 2 j.ep ((j.tx + 1 : Nat) : Int) 0 (T.length : Int) ([] : List UInt8).length := ⟨he, by omega, by omega, .inr ⟨rfl, rfl, by omega, by omega, rfl⟩⟩
  have hc := frA_at hw hok hl (at_ := j.used + 5 * T.length) (by show j.used + 5 * T.length + 1 ≤ j.n; omega) (by rw [← Nat.add_assoc]; exact hh2)
  refine .comm _ _ ?_ ?_ ?_
  · show (frA v j.first j.n j.ep (j.used + 5 * T.length)).err = 0 ∧ (frA v j.first j.n j.ep (j.used + 5 * T.length)).tx = _
    rw [hc]; exact ⟨rfl, rfl⟩
  · show (frA v j.first j.n j.ep (j.used + 5 * T.length)).kd = 2 ∧ 0 < T.length ∧ (frA v j.first j.n j.ep (j.used + 5 * T.length)).no = _
    rw [hc]; exact ⟨rfl, hpos, rfl⟩
  · show Scan _ (SS.comm _ (frA v j.first j.n j.ep (j.used + 5 * T.length))) t
    rw [hc]; exact hs
theorem scan_all (hw : BkWf v.d v.F) : ∀ {Ts : List (List Pg)} {j : JV} (_ : Frm.Ep j.ep) (_ : j.first + j.n ≤ v.d.length) (_ : j.n ≤ 4096) (_ : j.tx ≤ j.used) (_ : j.used ≤ j.n), LaidT v j Ts → ∀ {t : SS}, Scan (frA v j.first j.n j.ep) (SS.of (j.adds Ts)) t → Scan (frA v j.first j.n j.ep) (SS.of j) t
  | [], _, _, _, _, _, _, _, _, hs => hs
  | T :: Ts, j, he, hl, hn, h1, h2, h, t, hs => by
    have hf := h.1.fit
    refine scan_tx hw he hl hn (by omega) h.1 ?_
    exact scan_all hw (j := j.add T) he hl hn (by show j.tx + 1 ≤ j.used + 5 * T.length + 1; omega) hf h.2 hs
theorem scan_end (hw : BkWf v.d v.F) {j : JV} (hl : j.first + j.n ≤ v.d.length) (hc : Clean v j.first j.n j.ep j.used) : Scan (frA v j.first j.n j.ep) (SS.of j) (SS.of j) :=
  .stop _ fun h => frA_no hw hl (fun hn => hc j.used (Nat.le_refl _) hn) h.1.1
end
abbrev CM := Nat → Option (List UInt8)
def noC : CM := fun _ => none
def byNo (T : List Pg) (C : CM) : CM := T.foldl (fun C q => setF C q.no.toNat (some q.s.l)) C
def CM.add (C : CM) (T : List Pg) : CM := byNo T C
def CM.adds (C : CM) (Ts : List (List Pg)) : CM := Ts.foldl CM.add C
def FC (v : DV) (j : JV) (F : Nat → Option Pc) (C : CM) : Prop := ∀ k, (F k = none ∧ C k = none) ∨ ∃ q b, F k = some q ∧ C k = some b ∧ q.at_ ≤ j.n ∧ frA v j.first j.n j.ep q.at_ = ⟨0, 5, 1, j.ep, (q.tx : Int), (q.ix : Int), (k : Int), b⟩
theorem FC.zero (v : DV) (j : JV) : FC v j noG noC := fun _ => .inl ⟨rfl, rfl⟩
theorem FC.pages {v : DV} (hw : BkWf v.d v.F) {j : JV} (he : Frm.Ep j.ep) (hl : j.first + j.n ≤ v.d.length) {u tx : Nat} (htx : tx < 4294967295) : ∀ (M : List Pg) (i : Nat) (G : Nat → Option Pc) (C : CM),
    PgOk M → i + M.length ≤ 4096 → u + 5 * (i + M.length) ≤ j.n → Has_ v (j.first + (u + 5 * i)) (trF j.ep (tx + 1) i M) → FC v j G C → FC v j (plG u (tx + 1) i M G) (byNo M C)
  | [], i, G, C, _, _, _, _, h => h
  | q :: M, i, G, C, hp, hi, hu, hh, h => by
    rw [List.length_cons] at hi hu
    rw [trF] at hh
    obtain ⟨hh1, hh2⟩ := Has_.app.1 hh
    rw [frameP_len, show (Frm.secs 1).1 = 5 from rfl] at hh2
    have q0 := hp.low q (.head _)
    have q1 := hp.high q (.head _)
    have q2 := hp.len q (.head _)
    have hok : Frm.Ok 1 j.ep ((tx + 1 : Nat) : Int) (i : Int) q.no q.s.l.length := ⟨he, by omega, by omega, .inl ⟨rfl, by omega, by omega, q0, by omega, q2⟩⟩
    have hf := frA_at hw hok hl (at_ := u + 5 * i) (by show u + 5 * i + 5 ≤ j.n; omega) hh1
    refine FC.pages hw he hl htx M (i + 1) _ _ ⟨fun x hx => hp.low x (.tail _ hx), fun x hx => hp.high x (.tail _ hx), fun x hx => hp.len x (.tail _ hx), (List.pairwise_cons.1 hp.inc).2⟩ (by omega) (by omega) (by rw [show j.first + (u + 5 * (i + 1)) = j.first + (u + 5 * i) + 5 by omega]; exact hh2) fun k => ?_
    by_cases e : k = q.no.toNat
    · subst e
      refine .inr ⟨⟨u + 5 * i, tx + 1, i⟩, q.s.l, by simp [setF], by simp [setF], by show u + 5 * i ≤ j.n; omega, ?_⟩
      show frA v j.first j.n j.ep (u + 5 * i) = _
      rw [hf, show (q.no.toNat : Int) = q.no by omega]
      rfl
    · simp only [setF, if_neg e]; exact h k
theorem byNo_two (k : Nat) : ∀ (T : List Pg) (C D : CM), (∃ b, byNo T C k = some b ∧ byNo T D k = some b) ∨ (byNo T C k = C k ∧ byNo T D k = D k)
  | [], _, _ => .inr ⟨rfl, rfl⟩
  | q :: T, C, D => by
    rcases byNo_two k T (setF C q.no.toNat (some q.s.l)) (setF D q.no.toNat (some q.s.l)) with h | ⟨h1, h2⟩
    · exact .inl h
    · by_cases e : k = q.no.toNat
      · refine .inl ⟨q.s.l, ?_, ?_⟩
        · show byNo T (setF C q.no.toNat (some q.s.l)) k = _
          rw [h1, setF, if_pos e]
        · show byNo T (setF D q.no.toNat (some q.s.l)) k = _
          rw [h2, setF, if_pos e]
      · refine .inr ⟨?_, ?_⟩
        · show byNo T (setF C q.no.toNat (some q.s.l)) k = _
          rw [h1, setF, if_neg e]
        · show byNo T (setF D q.no.toNat (some q.s.l)) k = _
          rw [h2, setF, if_neg e]
theorem FC.over {v : DV} {j : JV} {F G : Nat → Option Pc} {C : CM} {T : List Pg} (h : FC v j F C) (hG : FC v j G (byNo T noC)) : FC v j (ovr F G) (byNo T C) := fun k => by
  rcases hG k with ⟨h1, h2⟩ | ⟨q, b, h1, h2, h3, h4⟩
  · rcases byNo_two k T C noC with ⟨b, _, h5⟩ | ⟨h5, _⟩
    · rw [h2] at h5; cases h5
    · rw [h5, ovr, h1]; exact h k
  · rcases byNo_two k T C noC with ⟨b', h5, h6⟩ | ⟨_, h6⟩
    · rw [h2] at h6; cases h6
      exact .inr ⟨q, b, by rw [ovr, h1], h5, h3, h4⟩
    · rw [h2] at h6; cases h6
theorem FC.all {v : DV} (hw : BkWf v.d v.F) : ∀ {Ts : List (List Pg)} {j : JV} {C : CM} (_ : Frm.Ep j.ep) (_ : j.first + j.n ≤ v.d.length) (_ : j.n ≤ 4096) (_ : j.tx ≤ j.used) (_ : j.used ≤ j.n), LaidT v j Ts → FC v j j.F C → FC v (j.adds Ts) (j.adds Ts).F (C.adds Ts)
  | [], _, _, _, _, _, _, _, _, h => h
  | T :: Ts, j, C, he, hl, hn, h1, h2, h, hc => by
    have hf := h.1.fit
    obtain ⟨hh1, _⟩ := Has_.app.1 h.1.has
    have hG : FC v j (plT j.used (j.tx + 1) T) (byNo T noC) := FC.pages hw he hl (by omega) T 0 noG noC h.1.ok (by omega) (by omega) (by simpa using hh1) (FC.zero v j)
    exact FC.all hw (j := j.add T) (C := C.add T) he hl hn (by show j.tx + 1 ≤ j.used + 5 * T.length + 1; omega) hf h.2 (hc.over hG)
theorem jget_spec {v : DV} {j : JV} {C : CM} (hd : v.down = false) (h : FC v j j.F C) (no : Int) : jget v j no = if no < 0 ∨ 4096 ≤ no then ([], false, 3) else match C no.toNat with | none => ([], false, 0) | some b => (b, true, 0) := by
  unfold jget
  by_cases hn : no < 0 ∨ 4096 ≤ no
  · rw [if_pos hn, if_pos hn]
  · rw [if_neg hn, if_neg hn, if_neg (by rw [hd]; decide)]
    rcases h no.toNat with ⟨h1, h2⟩ | ⟨q, b, h1, h2, _, h4⟩
    · simp only [h1, h2]
    · have hno : ((no.toNat : Nat) : Int) = no := by omega
      simp [h1, h2, h4, hno]
theorem FC.le {v : DV} {j : JV} {C : CM} (h : FC v j j.F C) : ∀ k q, j.F k = some q → q.at_ ≤ j.n := fun k q hk => by
  rcases h k with ⟨h1, _⟩ | ⟨q', b, h1, _, h3, _⟩
  · rw [h1] at hk; cases hk
  · rw [h1] at hk; cases hk; exact h3
end Go.Proofs.YtbkdjfgkebkknaaGreatDoor
namespace Go.Proofs.YtbkdjfgkebkknaaGreatDoor
set_option linter.unusedVariables false
set_option linter.unusedSimpArgs false
open Go Go.RowKit
set_option maxRecDepth 100000
structure Calm (v : DV) : Prop where
  up : v.down = false
  pl : v.pl = none
theorem jwrite_in {n i : Nat} {F : Nat → Option (List UInt8)} {x : List UInt8} (hi : i < n) (hx : x.length = 128) : writeF n F (i : Int) x = setF F i (some x) := by
  rw [writeF, if_pos ⟨bchk_lt hi, hx⟩]; rfl
theorem calm_write {v : DV} (h : Calm v) {k : Nat} (hk : k < v.d.length) {x : List UInt8} (hx : x.length = 128) : v.write (k : Int) x = ({ v with F := setF v.F k (some x), ops := v.ops + 1 }, 0) := by
  rw [write_ok h.up (writeE_ok hk hx), DV.op]
  simp only [h.pl, jwrite_in hk hx, id]
theorem BkWf.setF {d : List (List UInt8)} {F : Nat → Option (List UInt8)} (h : BkWf d F) (k : Nat) {x : List UInt8} (hx : x.length = 128) : BkWf d (setF F k (some x)) :=
  ⟨h.pos, h.le, h.len, fun j v hv => by
    unfold Go.Proofs.YtbkdjfgkebkknaaGreatDoor.setF at hv
    split at hv
    · cases hv; exact hx
    · exact h.val j v hv⟩
theorem wseq_calm : ∀ (X : List (List UInt8)) {v : DV} (a : Nat), Calm v → BkWf v.d v.F → (∀ x ∈ X, x.length = 128) → a + X.length ≤ v.d.length →
    ∃ v', wseq v a X = (v', 0) ∧ Calm v' ∧ BkWf v'.d v'.F ∧ v'.d = v.d ∧ v'.ops = v.ops + X.length ∧ v'.rd = v.rd ∧ Has_ v' a X ∧ ∀ k, (k < a ∨ a + X.length ≤ k) → v'.F k = v.F k
  | [], v, a, h, hw, _, _ => ⟨v, rfl, h, hw, rfl, rfl, rfl, Has_.nil _ _, fun _ _ => rfl⟩
  | x :: X, v, a, h, hw, hx, hl => by
    rw [List.length_cons] at hl
    have hx0 := hx x (.head _)
    have e := calm_write h (k := a) (by omega) hx0
    obtain ⟨v', h1, h2, h3, h4, h5, h6, h7, h8⟩ := wseq_calm X (v := { v with F := Go.Proofs.YtbkdjfgkebkknaaGreatDoor.setF v.F a (some x), ops := v.ops + 1 }) (a + 1) ⟨h.up, h.pl⟩ (hw.setF a hx0) (fun y hy => hx y (.tail _ hy)) (by show _ ≤ v.d.length; omega)
    refine ⟨v', ?_, h2, h3, h4, ?_, h6, fun k hk => ?_, fun k hk => ?_⟩
    · rw [wseq, e, if_pos rfl]; exact h1
    · rw [h5, List.length_cons]; show v.ops + 1 + X.length = _; omega
    · cases k with
      | zero =>
        have := h8 a (.inl (by omega))
        rw [secV, Nat.add_zero, this]
        simp [Go.Proofs.YtbkdjfgkebkknaaGreatDoor.setF]
      | succ k =>
        rw [List.length_cons] at hk
        have := h7 k (by omega)
        rw [show a + (k + 1) = a + 1 + k by omega, this]
        simp [List.getD]
    · rw [List.length_cons] at hk
      rw [h8 k (by omega)]
      show Go.Proofs.YtbkdjfgkebkknaaGreatDoor.setF v.F a (some x) k = _
      rw [Go.Proofs.YtbkdjfgkebkknaaGreatDoor.setF, if_neg (by omega)]
theorem sync_calm {v : DV} (h : Calm v) (hw : BkWf v.d v.F) : ∃ v', v.sync = (v', 0) ∧ Calm v' ∧ BkWf v'.d v'.F ∧ v'.d.length = v.d.length ∧ v'.ops = v.ops + 1 ∧ v'.rd = v.rd ∧ ∀ k, k < v.d.length → v'.F k = none ∧ v'.d.getD k [] = secV v k ∧ secV v' k = secV v k := by
  have e : v.sync = v.op DV.done := by rw [DV.sync, if_neg (by rw [h.up]; decide)]
  have e2 : v.sync = (({ v with ops := v.ops + 1 } : DV).done, 0) := by rw [e, DV.op, h.pl]
  have hc := crash_wf [128] hw
  refine ⟨_, e2, ⟨h.up, h.pl⟩, hc.1, hc.2, rfl, rfl, fun k hk => ?_⟩
  obtain ⟨c1, c2, c3⟩ := (crashK keepOne v.d v.F).2 k hk
  have hka : keepAt [128] (dpre v.F k).length = 128 := by simp [keepAt, Nat.mod_one]
  have hd2 : (crashR [128] v.d v.F).1.1.getD k [] = secV v k := by
    cases e9 : v.F k with
    | none => rw [c2 e9, secV, e9]; rfl
    | some u =>
      have hu := hw.val k u e9
      have hd := hw.len _ (blk_mem hk)
      rw [c3 u e9, hka, secV, e9, List.take_of_length_le (by omega), List.drop_eq_nil_of_le (by omega), List.append_nil]
      rfl
  refine ⟨c1, hd2, ?_⟩
  show ((crashR [128] v.d v.F).1.2 k).getD ((crashR [128] v.d v.F).1.1.getD k []) = _
  rw [c1, hd2]; rfl
theorem frameP_stamp {ep : Int} {tx : Nat} {kd ix no : Int} {dt : List UInt8} (h : Frm.Ok kd ep (tx : Int) ix no dt.length) : ∀ x ∈ frameP ep tx kd ix no dt, ∃ d : List UInt8, d.length ≤ 112 ∧ x = Frm.stamp ep d := by
  intro x hx
  simp only [frameP, pieces, pcl, List.mem_map, List.mem_range] at hx
  obtain ⟨j, hj, rfl⟩ := hx
  rw [enc_ok h]
  obtain ⟨r, hr⟩ := Frm.chunks_drop ep (Frm.payload kd.toNat (tx : Int).toNat ix.toNat no.toNat dt) (Frm.secs kd).1 [] j hj
  rw [List.append_nil] at hr
  have hd : (((Frm.payload kd.toNat (tx : Int).toNat ix.toNat no.toNat dt).drop (112 * j)).take 112).length ≤ 112 := by rw [List.length_take]; omega
  refine ⟨_, hd, ?_⟩
  simp only
  rw [hr, List.take_append_of_le_length (by rw [Frm.stamp_length hd]; exact Nat.le_refl _), List.take_of_length_le (by rw [Frm.stamp_length hd]; exact Nat.le_refl _)]
theorem trF_stamp {ep : Int} {tx : Nat} (he : Frm.Ep ep) (htx : 1 ≤ tx) (htx2 : tx ≤ 4294967295) : ∀ (M : List Pg) (i : Nat), PgOk M → i + M.length ≤ 4096 → ∀ x ∈ trF ep tx i M, ∃ d : List UInt8, d.length ≤ 112 ∧ x = Frm.stamp ep d
  | [], i, _, _, x, hx => by cases hx
  | q :: M, i, hp, hi, x, hx => by
    rw [List.length_cons] at hi
    have q0 := hp.low q (.head _)
    have q1 := hp.high q (.head _)
    have q2 := hp.len q (.head _)
    rw [trF, List.mem_append] at hx
    rcases hx with hx | hx
    · exact frameP_stamp ⟨he, by omega, by omega, .inl ⟨rfl, by omega, by omega, q0, by omega, q2⟩⟩ x hx
    · exact trF_stamp he htx htx2 M (i + 1) ⟨fun x hx => hp.low x (.tail _ hx), fun x hx => hp.high x (.tail _ hx), fun x hx => hp.len x (.tail _ hx), (List.pairwise_cons.1 hp.inc).2⟩ (by omega) x hx
theorem trP_stamp {ep : Int} {tx : Nat} (he : Frm.Ep ep) (htx : 1 ≤ tx) (htx2 : tx ≤ 4294967295) {T : List Pg} (h0 : T ≠ []) (hp : PgOk T) (hl : T.length ≤ 4096) : ∀ x ∈ trP ep tx T, ∃ d : List UInt8, d.length ≤ 112 ∧ x = Frm.stamp ep d := by
  intro x hx
  have hpos : 0 < T.length := List.length_pos_iff.2 h0
  rw [trP, List.mem_append] at hx
  rcases hx with hx | hx
  · exact trF_stamp he htx htx2 T 0 hp (by omega) x hx
  · exact frameP_stamp ⟨he, by omega, by omega, .inr ⟨rfl, rfl, by omega, by omega, rfl⟩⟩ x hx
theorem stamp_other {ep m : Int} (he : Frm.Ep ep) (hm : Frm.Ep m) (hne : m ≠ ep) {d : List UInt8} (hd : d.length ≤ 112) : (Frm.unst (Frm.stamp ep d) m).1 ≠ 0 := by
  have := Frm.unst_other he hm hne hd []
  rw [List.append_nil] at this
  rw [this]; decide
theorem getD_mem {α : Type} {X : List α} {k : Nat} {d : α} (h : k < X.length) : X.getD k d ∈ X := by
  have : X[k]? = some (X.getD k d) := by simp [List.getD, h]
  exact List.mem_of_getElem? this
structure Jok (v : DV) (j0 : JV) (Ts : List (List Pg)) : Prop where
  calm : Calm v
  wf : BkWf v.d v.F
  row : j0.first + j0.n ≤ v.d.length
  n1 : 1 ≤ j0.n
  ep : Frm.Ep j0.ep
  new : j0 = JV.new j0.first j0.n j0.ep
  laid : LaidT v j0 Ts
  fit : (j0.adds Ts).used ≤ j0.n
  tx : (j0.adds Ts).tx ≤ (j0.adds Ts).used
  clean : Clean v j0.first j0.n j0.ep (j0.adds Ts).used
theorem Jok.n_le {v : DV} {j0 : JV} {Ts : List (List Pg)} (h : Jok v j0 Ts) : j0.n ≤ 4096 := by have := h.wf.le; have := h.row; omega
theorem Jok.rd {v : DV} {j0 : JV} {Ts : List (List Pg)} (h : Jok v j0 Ts) (r : Nat) : Jok { v with rd := r } j0 Ts :=
  ⟨⟨h.calm.up, h.calm.pl⟩, h.wf, h.row, h.n1, h.ep, h.new, h.laid.keep fun _ _ _ => rfl, h.fit, h.tx, h.clean⟩
theorem Jok.scan {v : DV} {j0 : JV} {Ts : List (List Pg)} (h : Jok v j0 Ts) : Scan (frA v j0.first j0.n j0.ep) SS.start (SS.of (j0.adds Ts)) := by
  have hs := adds_same Ts j0
  have h0 : SS.of j0 = SS.start := by rw [h.new]; rfl
  have u0 : j0.used = 0 := by rw [h.new]; rfl
  have t0 : j0.tx = 0 := by rw [h.new]; rfl
  rw [← h0]
  refine scan_all h.wf h.ep h.row h.n_le (by omega) (by omega) h.laid ?_
  have := scan_end h.wf (j := j0.adds Ts) (by rw [hs.1, hs.2.1]; exact h.row) (by rw [hs.1, hs.2.1, hs.2.2.1]; exact h.clean)
  rwa [hs.1, hs.2.1, hs.2.2.1] at this
theorem Jok.fc {v : DV} {j0 : JV} {Ts : List (List Pg)} (h : Jok v j0 Ts) : FC v (j0.adds Ts) (j0.adds Ts).F (noC.adds Ts) := by
  have u0 : j0.used = 0 := by rw [h.new]; rfl
  have t0 : j0.tx = 0 := by rw [h.new]; rfl
  refine FC.all h.wf h.ep h.row h.n_le (by omega) (by omega) h.laid ?_
  have : j0.F = noG := by rw [h.new]; rfl
  rw [this]; exact FC.zero _ _
theorem japp_arg {v : DV} {j : JV} {T : List Pg} (h : pchk T ≠ 0) : japp v j T = (v, j, 2) := by rw [japp, if_pos h]
theorem japp_full {v : DV} {j : JV} {T : List Pg} (h : pchk T = 0) (hf : ¬ fitN j (T.length : Int)) : japp v j T = (v, j, 4) := by rw [japp, if_neg (not_not_intro h), if_pos hf]
theorem fitN_iff {j : JV} {k : Nat} (h : 1 ≤ k) : fitN j (k : Int) ↔ j.used + 5 * k + 1 ≤ j.n := by
  unfold fitN
  omega
theorem japp_calm {v : DV} {j : JV} {T : List Pg} (h : Calm v) (hw : BkWf v.d v.F) (he : Frm.Ep j.ep) (hl : j.first + j.n ≤ v.d.length) (htx : j.tx < 4294967295) (hc : pchk T = 0) (hf : j.used + 5 * T.length + 1 ≤ j.n) :
    ∃ v', japp v j T = (v', j.add T, 0) ∧ Calm v' ∧ BkWf v'.d v'.F ∧ v'.d.length = v.d.length ∧ v'.ops = v.ops + (5 * T.length + 2) ∧ v'.rd = v.rd ∧ Has_ v' (j.first + j.used) (trP j.ep (j.tx + 1) T) ∧
      (∀ k, k < v.d.length → (k < j.first + j.used ∨ j.first + (j.used + 5 * T.length + 1) ≤ k) → secV v' k = secV v k) ∧ ∀ k, k < v.d.length → v'.F k = none := by
  obtain ⟨h0, hp⟩ := pchk_ok hc
  have hpos : 0 < T.length := List.length_pos_iff.2 h0
  have hle := hw.le
  have htl := trP_len j.ep (j.tx + 1) T
  have hst := trP_stamp (tx := j.tx + 1) he (by omega) (by omega) h0 hp (by omega)
  obtain ⟨v1, a1, a2, a3, a4, a5, a6, a7, a8⟩ := wseq_calm (trP j.ep (j.tx + 1) T) (j.first + j.used) h hw (fun x hx => by obtain ⟨d, hd, rfl⟩ := hst x hx; exact Frm.stamp_length hd) (by rw [htl]; omega)
  obtain ⟨v2, b1, b2, b3, b4, b5, b6, b7⟩ := sync_calm a2 a3
  rw [a4] at b4 b7
  have hs : ∀ k, k < v.d.length → secV v2 k = secV v1 k := fun k hk => (b7 k hk).2.2
  refine ⟨v2, ?_, b2, b3, b4, by rw [b5, a5, htl]; omega, b6.trans a6, fun k hk => ?_, fun k hk hk2 => ?_, fun k hk => (b7 k hk).1⟩
  · rw [japp, if_neg (not_not_intro hc), if_neg (not_not_intro ((fitN_iff hpos).2 hf))]
    simp only [a1, b1]
    rw [if_neg (by simp), if_neg (by simp)]
    rfl
  · rw [htl] at hk
    rw [hs _ (by omega)]
    exact a7 k (by rw [htl]; exact hk)
  · rw [hs k hk, secV, secV, a8 k (by rw [htl]; omega), a4]
theorem Jok.append {v : DV} {j0 : JV} {Ts : List (List Pg)} (h : Jok v j0 Ts) {T : List Pg} (hc : pchk T = 0) (hf : (j0.adds Ts).used + 5 * T.length + 1 ≤ j0.n) :
    ∃ v', japp v (j0.adds Ts) T = (v', j0.adds (Ts ++ [T]), 0) ∧ Jok v' j0 (Ts ++ [T]) ∧ v'.d.length = v.d.length ∧ v'.ops = v.ops + (5 * T.length + 2) ∧ v'.rd = v.rd ∧ Has_ v' (j0.first + (j0.adds Ts).used) (trP j0.ep ((j0.adds Ts).tx + 1) T) ∧
      (∀ k, k < v.d.length → (k < j0.first + (j0.adds Ts).used ∨ j0.first + ((j0.adds Ts).used + 5 * T.length + 1) ≤ k) → secV v' k = secV v k) ∧ ∀ k, k < v.d.length → v'.F k = none := by
  obtain ⟨s1, s2, s3, s4, s5⟩ := adds_same Ts j0
  obtain ⟨h0, hp⟩ := pchk_ok hc
  have hn := h.n_le
  have htx := h.tx
  have hfit := h.fit
  obtain ⟨v', a1, a2, a3, a4, a5, a6, a7, a8, a9⟩ := japp_calm (j := j0.adds Ts) h.calm h.wf (by rw [s3]; exact h.ep) (by rw [s1, s2]; exact h.row) (by omega) hc (by rw [s2]; exact hf)
  rw [s1, s3] at a7
  rw [s1] at a8
  have hrow := h.row
  refine ⟨v', by rw [a1, adds_snoc], ?_, a4, a5, a6, a7, a8, a9⟩
  have hk : LaidT v' j0 Ts := h.laid.keep fun k k1 k2 => a8 k (by omega) (.inl k2)
  refine ⟨a2, a3, by rw [a4]; exact h.row, h.n1, h.ep, h.new, laid_snoc.2 ⟨hk, h0, hp, by rw [s2]; exact hf, by rw [s1, s3]; exact a7⟩, ?_, ?_, ?_⟩
  · rw [adds_snoc]; show (j0.adds Ts).used + 5 * T.length + 1 ≤ _; exact hf
  · rw [adds_snoc]; show (j0.adds Ts).tx + 1 ≤ (j0.adds Ts).used + 5 * T.length + 1; omega
  · intro k k1 k2
    rw [adds_snoc] at k1
    have k1' : (j0.adds Ts).used + 5 * T.length + 1 ≤ k := k1
    rw [a8 (j0.first + k) (by omega) (.inr (by omega))]
    exact h.clean k (by omega) k2
theorem Clean.over {v v' : DV} {first n : Nat} {ep m : Int} {T : List Pg} {u tx : Nat} (he : Frm.Ep ep) (hm : Frm.Ep m) (hne : m ≠ ep) (h1 : 1 ≤ tx) (h2 : tx ≤ 4294967295) (h0 : T ≠ []) (hp : PgOk T) (hl : T.length ≤ 4096) (h : Clean v first n m 0)
    (hh : Has_ v' (first + u) (trP ep tx T)) (hk : ∀ k, k < n → (k < u ∨ u + 5 * T.length + 1 ≤ k) → secV v' (first + k) = secV v (first + k)) : Clean v' first n m 0 := fun k _ kn => by
  by_cases hk2 : k < u ∨ u + 5 * T.length + 1 ≤ k
  · rw [hk k kn hk2]; exact h k (Nat.zero_le _) kn
  · have htl := trP_len ep tx T
    have := hh (k - u) (by omega)
    rw [show first + u + (k - u) = first + k by omega] at this
    rw [this]
    obtain ⟨d, hd, e⟩ := trP_stamp he h1 h2 h0 hp hl _ (getD_mem (d := []) (by omega : k - u < (trP ep tx T).length))
    rw [e]
    exact stamp_other he hm hne hd
theorem jok_new {v : DV} {first n : Nat} {ep : Int} (hc : Calm v) (hw : BkWf v.d v.F) (hr : first + n ≤ v.d.length) (hn : 1 ≤ n) (he : Frm.Ep ep) (hcl : Clean v first n ep 0) : Jok v (JV.new first n ep) [] :=
  ⟨hc, hw, hr, hn, he, rfl, trivial, Nat.zero_le _, Nat.le_refl _, hcl⟩
def zeroV (n : Nat) : DV := ⟨List.replicate n zblk, fun _ => none, false, none, 0, 0⟩
theorem zeroV_clean {n first m : Nat} {ep : Int} (he : Frm.Ep ep) (h : first + m ≤ n) : Clean (zeroV n) first m ep 0 := fun k _ kn => by
  have e : secV (zeroV n) (first + k) = zblk := by
    show (List.replicate n zblk).getD (first + k) [] = zblk
    simp [List.getD, show first + k < n by omega]
  have ht : Frm.Torn zblk ep := .inr (.inl (by
    have : zblk.take 8 = List.replicate 8 0 := by decide
    rw [this]; exact Frm.rep_ne he 0))
  rw [e, Frm.unst_err, if_neg (not_not_intro he), if_pos ht]
  decide
end Go.Proofs.YtbkdjfgkebkknaaGreatDoor
namespace Go.Proofs.YtbkdjfgkebkknaaGreatDoor
set_option linter.unusedVariables false
set_option linter.unusedSimpArgs false
open Go Go.RowKit
set_option maxRecDepth 100000
set_option maxHeartbeats 8000000
def FullW (l : List UInt8) : Value → List HA → Prop := fun u B => ∃ a c, 512 ≤ c ∧ u = .slice a 512 512 ∧ B = [.row a c 5 1 (bs l)]
attribute [local irreducible] WL WC WN Yl WH WQ WT WE WU WG WV
theorem mul64_w (w : World) : Calls Tryz.prog 171 #[.int .u64 ((1 : Nat) : Int), .int .u64 ((512 : Nat) : Int)] w (Gives (Val (.tuple #[.int .u64 ((0 : Nat) : Int), .int .u64 ((512 : Nat) : Int)])) w) := by
  refine enter (args := [_, _]) Tryz.func171 Tryz.ntmps171 rfl rfl ?_
  (repeat (first | refine WL.step (Yl.move rfl) rfl ?_ | refine WL.step (Yl.assign rfl) rfl ?_ | (refine WL.k_bin .and ?_; refine WL.step (Yl.andC rfl rfl (by decide +kernel) (by decide +kernel)) rfl ?_) | (refine WL.k_bin .shr ?_; refine WL.step (Yl.shrC rfl (by decide)) rfl ?_) | refine WL.step (Yl.mulN rfl rfl rfl) rfl ?_ | refine WL.step (Yl.addN rfl rfl rfl) rfl ?_ | refine WC.seq ?_ | refine WC.region ?_ | refine WL.nil ?_ | refine WN.then_normal ?_ | refine WC.ret ?_))
  exact WN.ret2 rfl rfl rfl ⟨rfl, rfl⟩ .nil
theorem mul_w (w : World) : Calls Tryz.prog 131 #[.int .u64 ((1 : Nat) : Int), .int .u64 ((512 : Nat) : Int)] w (Gives (Val (.tuple #[.int .u64 ((0 : Nat) : Int), .int .u64 ((512 : Nat) : Int)])) w) := by
  refine enter (args := [_, _]) Tryz.func131 Tryz.ntmps131 rfl rfl ?_
  (repeat (first | refine WL.step (Yl.assign rfl) rfl ?_ | refine WC.seq ?_ | refine WC.region ?_ | refine WL.nil ?_ | refine WN.then_normal ?_))
  refine WC.cond_false rfl rfl ?_
  (repeat (first | refine WL.step (Yl.move rfl) rfl ?_ | refine WL.step (Yl.assign rfl) rfl ?_ | refine WL.step (Yl.extract rfl rfl) rfl ?_ | refine WL.callV (g := 171) (v := .tuple #[.int .u64 ((0 : Nat) : Int), .int .u64 ((512 : Nat) : Int)]) Tryz.call171 rfl (fun w0 st => mul64_w w0) rfl ?_ | refine WC.seq ?_ | refine WC.region ?_ | refine WL.nil ?_ | refine WN.then_normal ?_ | refine WC.skip ?_ | refine WC.ret ?_))
  exact WN.ret2 rfl rfl rfl ⟨rfl, rfl⟩ .nil
theorem rep_w (a : Option Addr) (cap : Nat) (b : UInt8) (w : World) (hr : CellsAt w a (bs [b])) : Calls Tryz.prog 106 #[.slice a 1 cap, .int .i64 512] w (Gives (FullW (List.replicate 512 b)) w) := by
  refine enter (args := [_, _]) Tryz.func106 Tryz.ntmps106 rfl rfl ?_
  (repeat (first | refine WL.step (Yl.move rfl) rfl ?_ | refine WL.step (Yl.assign rfl) rfl ?_ | (refine WL.k_bin .eql ?_; refine WL.step (Yl.eqlF rfl rfl (by decide)) rfl ?_) | refine WC.seq ?_ | refine WC.region ?_ | refine WL.nil ?_ | refine WN.then_normal ?_))
  refine WC.cond_false rfl rfl ?_
  (repeat (first | refine WL.step (Yl.move rfl) rfl ?_ | (refine WL.k_bin .lss ?_; refine WL.step (Yl.lssF rfl rfl (by decide)) rfl ?_) | refine WC.seq ?_ | refine WC.region ?_ | refine WL.nil ?_ | refine WN.then_normal ?_ | refine WC.skip ?_))
  refine WC.cond_false rfl rfl ?_
  (repeat (first | refine WL.step (Yl.move rfl) rfl ?_ | refine WL.step (Yl.len (t := 23) Tryz.underlying23 rfl) rfl ?_ | refine WC.seq ?_ | refine WC.region ?_ | refine WN.then_normal ?_ | refine WC.skip ?_))
  refine WL.step (v := .int .u64 ((1 : Nat) : Int)) (Yl.convN (m := 1) Tryz.underlying3 Tryz.underlying167 rfl rfl) rfl ?_
  (repeat (first | refine WL.step (Yl.move rfl) rfl ?_))
  refine WL.step (v := .int .u64 ((512 : Nat) : Int)) (Yl.convN (m := 512) Tryz.underlying3 Tryz.underlying167 rfl rfl) rfl ?_
  refine WL.callV (g := 131) (v := .tuple #[.int .u64 ((0 : Nat) : Int), .int .u64 ((512 : Nat) : Int)]) Tryz.call131 rfl (fun w0 st => mul_w w0) rfl ?_
  (repeat (first | refine WL.want rfl rfl rfl ?_ | refine WL.step (Yl.move rfl) rfl ?_ | refine WL.step (Yl.assign rfl) rfl ?_ | refine WL.step (Yl.extract rfl rfl) rfl ?_ | refine WL.step (Yl.pick_f rfl rfl rfl) rfl ?_ | (refine WL.k_bin .gtr ?_; refine WL.step (Yl.gtrF rfl rfl (by decide)) rfl ?_) | refine WC.seq ?_ | refine WC.region ?_ | refine WL.nil ?_ | refine WN.then_normal ?_))
  refine WC.cond_false rfl rfl ?_
  (repeat (first | refine WL.step (Yl.move rfl) rfl ?_ | refine WL.step (Yl.assign rfl) rfl ?_ | (refine WL.k_conv ?_; refine WL.step (Yl.conv64 (m := 512) Tryz.underlying167 Tryz.underlying3 rfl (by decide)) rfl ?_) | (refine WL.k_bin .eql ?_; refine WL.step (Yl.eqlF rfl rfl (by decide)) rfl ?_) | refine WL.step (Yl.len (t := 23) Tryz.underlying23 rfl) rfl ?_ | refine WC.seq ?_ | refine WC.region ?_ | refine WL.nil ?_ | refine WN.then_normal ?_ | refine WC.skip ?_))
  refine WC.cond_false rfl rfl ?_
  (repeat (first | refine WL.step (Yl.move rfl) rfl ?_ | refine WL.step (Yl.assign rfl) rfl ?_ | (refine WL.k_bin .gtr ?_; refine WL.step (Yl.gtrF rfl rfl (by decide)) rfl ?_) | refine WC.seq ?_ | refine WC.region ?_ | refine WL.nil ?_ | refine WN.then_normal ?_ | refine WC.skip ?_))
  refine WC.cond_false rfl rfl ?_
  (repeat (first | refine WL.step (Yl.move rfl) rfl ?_ | refine WC.seq ?_ | refine WC.region ?_ | refine WN.then_normal ?_ | refine WC.skip ?_))
  refine WL.noZero (n := 512) (pT := 3) (t := 23) Tryz.func132 (by kernel_rfl) (by kernel_rfl) (by kernel_rfl) (by kernel_rfl) Tryz.underlying23 rfl (by decide) rfl fun q vs hq hvs => ?_
  (repeat (first | refine WL.step (Yl.move rfl) rfl ?_ | refine WL.step (Yl.assign rfl) rfl ?_ | refine WL.step (Yl.cut3 (t := 23) (hi := 512) (mx := 512) Tryz.underlying23 Tryz.sizeOf5 rfl rfl rfl (Nat.le_refl _) hq) rfl ?_ | refine WC.seq ?_ | refine WC.region ?_ | refine WL.nil ?_ | refine WN.then_normal ?_))
  rw [cutA_zero]
  refine WL.copyRow (i := 0) (us := bs [b]) (vs := vs) Tryz.underlying23 (by kernel_rfl) (by rw [el_zero]; rfl) rfl .here (Rd.old hr) rfl (by rw [hvs, bs_length]; show 0 + 1 ≤ 512; decide) (fun e => by rw [e] at hvs; cases hvs) (bs_one _) rfl ?_
  rw [show vs.take 0 ++ bs [b] ++ vs.drop (0 + (bs [b]).length) = bs (List.replicate 1 b) ++ vs.drop 1 from rfl]
  have hv1 : (vs.drop 1).length = 511 := by rw [List.length_drop, hvs]
  generalize vs.drop 1 = r0 at *
  (repeat (first | refine WL.step (Yl.assign rfl) rfl ?_ | refine WC.seq ?_ | refine WL.nil ?_ | refine WN.then_normal ?_ | refine WC.block ?_))
  refine WC.loop (α := Nat × List Value) (fun s => [(7, .int .i64 512), (8, .int .i64 512), (9, .slice q.1 512 512), (10, .int .i64 (s.1 : Int))]) (fun s => [.row q.1 q.2 5 1 (bs (List.replicate s.1 b) ++ s.2)]) (fun s => 1 ≤ s.1 ∧ s.1 ≤ 512 ∧ s.2.length = 512 - s.1) (fun s => 512 - s.1) (1, r0) zS (by repeat (first | exact Part.nil | refine Part.cons zK ?_ | refine Part.free ?_)) ⟨Nat.le_refl _, (by decide : 1 ≤ 512), hv1⟩ ?_
  rintro ⟨k, r⟩ ⟨h1, h2, h3⟩
  simp only at h1 h2 h3 ⊢
  (repeat (first | refine WL.step (Yl.move rfl) rfl ?_ | refine WL.step (Yl.lss rfl rfl) rfl ?_ | refine WC.seq ?_ | refine WC.region ?_ | refine WL.nil ?_ | refine WN.then_normal ?_))
  refine WC.ite rfl (fun h4 => ?_) (fun h4 => ?_)
  · have hmk : min k 512 = k := by omega
    (repeat (first | refine WL.step (Yl.move rfl) rfl ?_ | refine WL.step (Yl.assign rfl) rfl ?_ | refine WL.step (Yl.min2N rfl rfl) rfl ?_ | refine WC.seq ?_ | refine WC.region ?_ | refine WL.nil ?_ | refine WN.then_normal ?_ | refine WC.block ?_ | refine WC.skip ?_))
    rw [hmk]
    have hu : (bs (List.replicate (min k (512 - k)) b)).length = min k (512 - k) := by rw [bs_length, List.length_replicate]
    have hl : (bs (List.replicate k b) ++ r).length = 512 := by rw [List.length_append, bs_length, List.length_replicate]; omega
    refine WC.regionH [] (by kernel_rfl) ?_
    (refine WH.order [0, 1, 2, 3, 4, 5, 6] (by repeat (first | exact Part.nil | refine Part.cons zK ?_ | refine Part.free ?_)) (by kernel_rfl) ?_; (repeat (first | (refine WT.k_move rfl ?_; (refine WT.kn rfl ?_; refine WT.take rfl rfl (fun _ _ _ h => h) (Yl.move rfl) rfl (by kernel_rfl) (by kernel_rfl) ?_)) | (refine WT.k_slice rfl ?_; (refine WT.kn rfl ?_; first | refine WT.take rfl rfl (fun _ _ _ h => h) (Yl.cutFrom (t := 23) (lo := k) Tryz.underlying23 Tryz.sizeOf5 rfl rfl (by omega)) rfl (by kernel_rfl) (by kernel_rfl) ?_ | refine WT.take rfl rfl (fun _ _ _ h => h) (Yl.cutTo (t := 23) (hi := k) Tryz.underlying23 Tryz.sizeOf5 rfl rfl (by omega)) rfl (by kernel_rfl) (by kernel_rfl) ?_)))); refine WT.nil ?_)
    rw [cutA_zero, cutA_el (show 512 ≠ k by omega)]
    refine WH.only (i := 7) (by kernel_rfl) rfl ?_
    refine WL.copyRow (i := k) (us := bs (List.replicate (min k (512 - k)) b)) (vs := bs (List.replicate k b) ++ r) Tryz.underlying23 (by kernel_rfl) rfl rfl .here (rpre b (Rd.row (.head _)) (Nat.min_le_left _ _)) hu (by rw [hu, hl]; omega) (fun e => by rw [e] at hl; cases hl) (bs_one _) rfl ?_
    have hnew : (bs (List.replicate k b) ++ r).take k ++ bs (List.replicate (min k (512 - k)) b) ++ (bs (List.replicate k b) ++ r).drop (k + (bs (List.replicate (min k (512 - k)) b)).length) = bs (List.replicate (k + min k (512 - k)) b) ++ r.drop (min k (512 - k)) := by
      have hk : (bs (List.replicate k b)).length = k := by rw [bs_length, List.length_replicate]
      rw [hu, List.take_append_of_le_length (by omega), List.take_of_length_le (by omega), List.drop_append, hk, List.drop_of_length_le (by omega), List.nil_append, Nat.add_sub_cancel_left, ← List.replicate_append_replicate, bs_append]
    rw [hnew, hu]
    refine WL.nil (WN.nextH .nil ?_)
    refine WH.only (i := 8) (by kernel_rfl) rfl ?_
    refine WL.step (Yl.add64N rfl rfl (by omega)) rfl ?_
    refine WL.nil (WN.nextH .nil ?_)
    refine WH.only (i := 9) (by kernel_rfl) rfl ?_
    refine WL.step (Yl.assign rfl) rfl ?_
    refine WL.nil (WN.nextH .nil ?_)
    refine WH.done (by kernel_rfl) ?_
    (repeat (first | refine WN.block_normal ?_))
    exact WN.next (k + min k (512 - k), r.drop (min k (512 - k))) ⟨by simp only; omega, by simp only; omega, by simp only [List.length_drop]; omega⟩ (by simp only; omega) zS (by repeat (first | exact Part.nil | refine Part.cons zK ?_ | refine Part.free ?_))
  · obtain rfl : k = 512 := by omega
    obtain rfl : r = [] := List.eq_nil_of_length_eq_zero h3
    rw [List.append_nil]
    (repeat (first | refine WL.step (Yl.move rfl) rfl ?_ | refine WL.step (Yl.assign rfl) rfl ?_ | refine WC.seq ?_ | refine WC.region ?_ | refine WL.nil ?_ | refine WN.then_normal ?_ | refine WC.exit ?_ | refine WC.ret ?_ | refine WN.then_exit ?_ | refine WN.block_here ?_))
    exact WN.ret1 rfl rfl ⟨q.1, q.2, hq, rfl, rfl⟩ (.cons .here .nil)
theorem full_w (b : UInt8) (w : World) : Calls Tryz.prog 53 #[bv b] w (Gives (FullW (List.replicate 512 b)) w) := by
  refine enter (args := [bv b]) Tryz.func53 Tryz.ntmps53 rfl rfl ?_
  (repeat (first | refine WL.step (Yl.move rfl) rfl ?_ | refine WL.step (Yl.assign rfl) rfl ?_ | refine WC.seq ?_ | refine WC.region ?_ | refine WL.nil ?_ | refine WN.then_normal ?_))
  refine WL.lit (t := 23) (vs := [bv b]) Tryz.underlying23 elemU8 rfl rfl rfl (fun u hu => by simp at hu; subst hu; rfl) rfl fun b1 => ?_
  rw [show flat [bv b] = bs [b] from rfl]
  refine WL.call (g := 106) Tryz.call106 rfl (fun w0 st => rep_w (some ⟨b1, 0, none⟩) 1 b w0 (Rd.row (.head _) w0 st)) rfl fun v B hv => ?_
  obtain ⟨a, c, hc, rfl, rfl⟩ := hv
  (repeat (first | refine WL.step (Yl.assign rfl) rfl ?_ | refine WL.nil ?_ | refine WN.then_normal ?_ | refine WC.ret ?_))
  exact WN.ret1 rfl rfl ⟨a, c, hc, rfl, rfl⟩ (.cons .here .nil)
end Go.Proofs.YtbkdjfgkebkknaaGreatDoor
namespace Go.Proofs.YtbkdjfgkebkknaaGreatDoor
set_option linter.unusedVariables false
set_option linter.unusedSimpArgs false
open Go Go.RowKit
set_option maxRecDepth 100000
set_option maxHeartbeats 8000000
attribute [local irreducible] WL WC WN Yl WH WQ WT WE WU WG WV
theorem iequal_c (a b : Option Addr) (n m c1 c2 : Nat) (l k : List Int) (w : World) (hl : l.length = n) (hk : k.length = m) (hn : n ≤ 100000) (hr : CellsAt w a (zcells l)) (hr2 : CellsAt w b (zcells k)) :
    Calls Tryz.prog 40 #[.slice a n c1, .slice b m c2] w (Gives (Val (.bool (decide (l = k)))) w) := by
  refine enter (args := [_, _]) Tryz.func40 Tryz.ntmps40 rfl rfl ?_
  by_cases hnm : n = m
  · subst hnm
    (repeat (first | refine WL.step (Yl.move rfl) rfl ?_ | refine WL.step (Yl.assign rfl) rfl ?_ | refine WL.step (Yl.len (t := 61) Tryz.underlying61 rfl) rfl ?_ | refine WL.step (Yl.neqF rfl rfl rfl) rfl ?_ | refine WC.seq ?_ | refine WC.region ?_ | refine WL.nil ?_ | refine WN.then_normal ?_))
    refine WC.cond_false rfl rfl ?_
    (repeat (first | refine WL.step (Yl.move rfl) rfl ?_ | refine WL.step (Yl.len (t := 61) Tryz.underlying61 rfl) rfl ?_ | refine WC.seq ?_ | refine WC.region ?_ | refine WL.nil ?_ | refine WN.then_normal ?_ | refine WC.block ?_ | refine WC.skip ?_))
    refine WC.loop (α := Nat) (fun i => [(0, .slice a n c1), (1, .slice b n c2), (12, .int .i64 (n : Int)), (13, .int .i64 (i : Int))]) (fun _ => []) (fun i => i ≤ n ∧ ∀ j, j < i → l.getD j 0 = k.getD j 0) (fun i => n - i) 0 zS .nil ⟨Nat.zero_le _, fun j h => absurd h (Nat.not_lt_zero _)⟩ ?_
    rintro i ⟨hi, hp⟩
    (repeat (first | refine WL.step (Yl.lss rfl rfl) rfl ?_ | refine WC.seq ?_ | refine WC.region ?_ | refine WL.nil ?_ | refine WN.then_normal ?_))
    refine WC.ite rfl (fun h1 => ?_) (fun h1 => ?_)
    · have him : i < l.length := by omega
      have hkm : i < k.length := by omega
      have e1 : (zcells l)[i]? = some (.int .i64 (l.getD i 0)) := by simp [zcells, List.getD, him]
      have e2 : (zcells k)[i]? = some (.int .i64 (k.getD i 0)) := by simp [zcells, List.getD, hkm]
      (repeat (first | refine WL.step (Yl.move rfl) rfl ?_ | refine WL.step (Yl.assign rfl) rfl ?_ | refine WC.seq ?_ | refine WC.region ?_ | refine WL.nil ?_ | refine WN.then_normal ?_ | refine WC.block ?_ | refine WC.skip ?_))
      refine WC.regionH [] (by kernel_rfl) ?_
      by_cases he : l.getD i 0 = k.getD i 0
      · (refine WH.order [0, 1, 2, 3, 4, 5, 6, 7, 8] (by repeat (first | exact Part.nil | refine Part.cons zK ?_ | refine Part.free ?_)) (by kernel_rfl) ?_; (repeat (first | (refine WT.k_move rfl ?_; refine WT.take rfl rfl (fun _ _ _ h => h) (Yl.move rfl) rfl (by kernel_rfl) (by kernel_rfl) ?_) | (refine WT.k_load rfl ?_; first | refine WT.take rfl rfl (fun _ _ _ h => h) (Yl.load (T := 3) (a := a) (i := i) Tryz.isAgg3 rfl (Rd.old hr) e1) rfl (by kernel_rfl) (by kernel_rfl) ?_ | refine WT.take rfl rfl (fun _ _ _ h => h) (Yl.load (T := 3) (a := b) (i := i) Tryz.isAgg3 rfl (Rd.old hr2) e2) rfl (by kernel_rfl) (by kernel_rfl) ?_) | (refine WT.k_idxa rfl ?_; first | refine WT.take rfl rfl (fun _ _ _ h => h) (Yl.indexAddr1 (t := 61) (a := a) (n := n) (cap := c1) (j := i) Tryz.underlying61 Tryz.sizeOf3 rfl rfl (Rd.old hr) (ne_nil_of e1) (by omega)) rfl (by kernel_rfl) (by kernel_rfl) ?_ | refine WT.take rfl rfl (fun _ _ _ h => h) (Yl.indexAddr1 (t := 61) (a := b) (n := n) (cap := c2) (j := i) Tryz.underlying61 Tryz.sizeOf3 rfl rfl (Rd.old hr2) (ne_nil_of e2) (by omega)) rfl (by kernel_rfl) (by kernel_rfl) ?_) | (refine WT.k_bin .neq rfl ?_; refine WT.take rfl rfl (fun _ _ _ h => h) (Yl.neqF (m := l.getD i 0) (n := k.getD i 0) rfl rfl he) rfl (by kernel_rfl) (by kernel_rfl) ?_))); refine WT.nil ?_)
        refine WH.done (by kernel_rfl) ?_
        (repeat (first | refine WN.then_normal ?_))
        refine WC.cond_false rfl rfl ?_
        (repeat (first | refine WL.step (Yl.move rfl) rfl ?_ | (refine WL.k_bin .add ?_; refine WL.step (Yl.add64C rfl (by omega)) rfl ?_) | refine WC.region ?_ | refine WL.nil ?_ | refine WN.then_normal ?_ | refine WC.skip ?_ | refine WN.block_normal ?_))
        exact WN.next (i + 1) ⟨by omega, fun j hj => by by_cases e : j = i; subst e; exact he; exact hp j (by omega)⟩ (by omega) zS .nil
      · (refine WH.order [0, 1, 2, 3, 4, 5, 6, 7, 8] (by repeat (first | exact Part.nil | refine Part.cons zK ?_ | refine Part.free ?_)) (by kernel_rfl) ?_; (repeat (first | (refine WT.k_move rfl ?_; refine WT.take rfl rfl (fun _ _ _ h => h) (Yl.move rfl) rfl (by kernel_rfl) (by kernel_rfl) ?_) | (refine WT.k_load rfl ?_; first | refine WT.take rfl rfl (fun _ _ _ h => h) (Yl.load (T := 3) (a := a) (i := i) Tryz.isAgg3 rfl (Rd.old hr) e1) rfl (by kernel_rfl) (by kernel_rfl) ?_ | refine WT.take rfl rfl (fun _ _ _ h => h) (Yl.load (T := 3) (a := b) (i := i) Tryz.isAgg3 rfl (Rd.old hr2) e2) rfl (by kernel_rfl) (by kernel_rfl) ?_) | (refine WT.k_idxa rfl ?_; first | refine WT.take rfl rfl (fun _ _ _ h => h) (Yl.indexAddr1 (t := 61) (a := a) (n := n) (cap := c1) (j := i) Tryz.underlying61 Tryz.sizeOf3 rfl rfl (Rd.old hr) (ne_nil_of e1) (by omega)) rfl (by kernel_rfl) (by kernel_rfl) ?_ | refine WT.take rfl rfl (fun _ _ _ h => h) (Yl.indexAddr1 (t := 61) (a := b) (n := n) (cap := c2) (j := i) Tryz.underlying61 Tryz.sizeOf3 rfl rfl (Rd.old hr2) (ne_nil_of e2) (by omega)) rfl (by kernel_rfl) (by kernel_rfl) ?_) | (refine WT.k_bin .neq rfl ?_; refine WT.take rfl rfl (fun _ _ _ h => h) (Yl.neqT (m := l.getD i 0) (n := k.getD i 0) rfl rfl he) rfl (by kernel_rfl) (by kernel_rfl) ?_))); refine WT.nil ?_)
        refine WH.done (by kernel_rfl) ?_
        (repeat (first | refine WN.then_normal ?_))
        refine WC.cond_true rfl rfl ?_
        (repeat (first | refine WL.step (Yl.assign rfl) rfl ?_ | refine WC.seq ?_ | refine WC.region ?_ | refine WL.nil ?_ | refine WN.then_normal ?_ | refine WC.ret ?_ | refine WN.then_ret ?_ | refine WN.block_ret ?_))
        rw [decide_eq_false (fun h => he (by rw [h]))]
        exact WN.ret1 rfl rfl ⟨rfl, rfl⟩ .nil
    · have hin : i = n := by omega
      have he : l = k := List.ext_getElem (by omega) fun j h1 h2 => by
        have := hp j (by omega)
        simp only [List.getD, List.getElem?_eq_getElem h1, List.getElem?_eq_getElem h2, Option.getD_some] at this
        exact this
      (repeat (first | refine WL.step (Yl.assign rfl) rfl ?_ | refine WC.seq ?_ | refine WC.region ?_ | refine WL.nil ?_ | refine WN.then_normal ?_ | refine WC.exit ?_ | refine WC.ret ?_ | refine WN.then_exit ?_ | refine WN.block_here ?_))
      rw [decide_eq_true he]
      exact WN.ret1 rfl rfl ⟨rfl, rfl⟩ .nil
  · (repeat (first | refine WL.step (Yl.move rfl) rfl ?_ | refine WL.step (Yl.assign rfl) rfl ?_ | refine WL.step (Yl.len (t := 61) Tryz.underlying61 rfl) rfl ?_ | (refine WL.k_bin .neq ?_; refine WL.step (Yl.neqT rfl rfl (by omega)) rfl ?_) | refine WC.seq ?_ | refine WC.region ?_ | refine WL.nil ?_ | refine WN.then_normal ?_))
    refine WC.cond_true rfl rfl ?_
    (repeat (first | refine WL.step (Yl.assign rfl) rfl ?_ | refine WC.seq ?_ | refine WC.region ?_ | refine WL.nil ?_ | refine WN.then_normal ?_ | refine WC.ret ?_ | refine WN.then_ret ?_))
    rw [decide_eq_false (fun h => hnm (by rw [← hl, ← hk, h]))]
    exact WN.ret1 rfl rfl ⟨rfl, rfl⟩ .nil
end Go.Proofs.YtbkdjfgkebkknaaGreatDoor
