/- Plain laws of nodes: the order of keys, pages and back, places, halves, nodes of drafts. No Go in it. -/
import Derived.Test.YtbfhdggfdhlkfaaNodLaw
import Derived.Test.YtbfhdggfdhlkfaaBigCmp
namespace Go.Proofs.Ytbfhdggfdhlkfaa.Nod
set_option linter.unusedVariables false
set_option linter.unusedSimpArgs false
set_option maxRecDepth 100000
theorem cmp_range (a b : K) : cmp a b = -1 ∨ cmp a b = 0 ∨ cmp a b = 1 := by
  unfold cmp
  split
  · exact .inl rfl
  · split
    · exact .inr (.inr rfl)
    · exact Big.cmpL_range _ _
theorem cmp_swap (a b : K) : cmp b a = - cmp a b := by
  unfold cmp
  by_cases h1 : a.n < b.n
  · have h2 : ¬ b.n < a.n := by omega
    simp only [if_pos h1, if_neg h2]; decide
  · by_cases h2 : b.n < a.n
    · simp only [if_pos h2, if_neg h1]
    · simp only [if_neg h2, if_neg h1, Big.cmpL_swap a.d b.d]
theorem cmp_zero (a b : K) : cmp a b = 0 ↔ a = b := by
  constructor
  · intro h
    unfold cmp at h
    by_cases h1 : a.n < b.n
    · simp only [if_pos h1] at h; omega
    · by_cases h2 : b.n < a.n
      · simp only [if_pos h2, if_neg h1] at h; omega
      · simp only [if_neg h2, if_neg h1] at h
        have h3 := (Big.cmpL_zero _ _).1 h
        cases a; cases b; simp only [K.mk.injEq] at *; exact ⟨by omega, h3⟩
  · rintro rfl; exact cmp_self a
theorem cmp_trans (a b c : K) (h1 : cmp a b ≤ 0) (h2 : cmp b c ≤ 0) : cmp a c ≤ 0 ∧ (cmp a b < 0 → cmp a c < 0) := by
  unfold cmp at *
  by_cases p1 : a.n < b.n
  · by_cases p2 : b.n < c.n
    · simp only [if_pos (show a.n < c.n by omega)]; exact ⟨by decide, fun _ => by decide⟩
    · by_cases p3 : c.n < b.n
      · simp only [if_pos p3, if_neg p2] at h2; omega
      · simp only [if_pos (show a.n < c.n by omega)]; exact ⟨by decide, fun _ => by decide⟩
  · by_cases p4 : b.n < a.n
    · simp only [if_pos p4, if_neg p1] at h1; omega
    · simp only [if_neg p1, if_neg p4] at h1 ⊢
      by_cases p2 : b.n < c.n
      · simp only [if_pos (show a.n < c.n by omega)]; exact ⟨by decide, fun _ => by decide⟩
      · by_cases p3 : c.n < b.n
        · simp only [if_pos p3, if_neg p2] at h2; omega
        · simp only [if_neg p2, if_neg p3] at h2
          simp only [if_neg (show ¬ a.n < c.n by omega), if_neg (show ¬ c.n < a.n by omega)]
          exact Big.cmpL_trans _ _ _ h1 h2
theorem cmp_lt_le {a b c : K} (h1 : cmp a b < 0) (h2 : cmp b c ≤ 0) : cmp a c < 0 := (cmp_trans a b c (by omega) h2).2 h1
theorem asc_lt {l : List K} (h : Asc l) : ∀ {j i : Nat}, i < j → j < l.length → cmp (key l i) (key l j) < 0
  | 0, _, h1, _ => by omega
  | j + 1, i, h1, h2 => by
    have h3 := h j h2
    by_cases e : i = j
    · subst e; exact h3
    · have h4 := asc_lt h (show i < j by omega) (by omega)
      exact cmp_lt_le h4 (by omega)
theorem asc_of {l : List K} (h : ∀ i j, i < j → j < l.length → cmp (key l i) (key l j) < 0) : Asc l := fun i hi => h i (i + 1) (by omega) hi
theorem key_eq {l : List K} {i : Nat} (h : i < l.length) : key l i = l[i] := by simp [key, List.getD, h]
theorem key_take {l : List K} {i m : Nat} (h : i < m) : key (l.take m) i = key l i := by
  unfold key
  simp only [List.getD_eq_getElem?_getD, List.getElem?_take, if_pos h]
theorem key_drop (l : List K) (i m : Nat) : key (l.drop m) i = key l (m + i) := by
  unfold key
  simp only [List.getD_eq_getElem?_getD, List.getElem?_drop]
theorem asc_take {l : List K} (h : Asc l) (m : Nat) : Asc (l.take m) := fun i hi => by
  rw [List.length_take] at hi
  rw [key_take (by omega), key_take (by omega)]
  exact h i (by omega)
theorem asc_drop {l : List K} (h : Asc l) (m : Nat) : Asc (l.drop m) := fun i hi => by
  rw [List.length_drop] at hi
  rw [key_drop, key_drop, show m + (i + 1) = m + i + 1 by omega]
  exact h (m + i) (by omega)
/-! ### Places -/
theorem place_le (l : List K) (k : K) : place l k ≤ l.length := List.findIdx_le_length
theorem place_hit {l : List K} {k : K} (h : place l k < l.length) : 0 ≤ cmp (key l (place l k)) k := by
  have := List.findIdx_getElem (p := fun x => decide (0 ≤ cmp x k)) (xs := l) (w := h)
  rw [key_eq h]
  exact of_decide_eq_true this
theorem place_miss {l : List K} {k : K} {i : Nat} (h : i < place l k) : cmp (key l i) k < 0 := by
  have := List.not_of_lt_findIdx (p := fun x => decide (0 ≤ cmp x k)) (xs := l) h
  have hl : i < l.length := Nat.lt_of_lt_of_le h (place_le l k)
  rw [key_eq hl]
  have h2 := of_decide_eq_false this
  omega
theorem place_of {l : List K} {k : K} {i : Nat} (hi : i ≤ l.length) (h1 : ∀ j, j < i → cmp (key l j) k < 0) (h2 : i < l.length → 0 ≤ cmp (key l i) k) : place l k = i := by
  have h3 := place_le l k
  rcases Nat.lt_trichotomy (place l k) i with h | h | h
  · have := place_hit (l := l) (k := k) (by omega)
    have := h1 _ h
    omega
  · exact h
  · have := place_miss h
    have := h2 (by omega)
    omega
theorem place_self {l : List K} (h : Asc l) {i : Nat} (hi : i < l.length) : place l (key l i) = i :=
  place_of (by omega) (fun j hj => asc_lt h hj hi) (fun _ => by rw [cmp_self]; decide)
/-! ### Pages and back -/
theorem chunk_at {α : Type} {f : α → List UInt8} {k : Nat} {p r : List UInt8} {xs : List α} {i : Nat} (hk : ∀ y ∈ xs, (f y).length = k) (hi : i < xs.length) :
    ∃ s, (p ++ xs.flatMap f ++ r).drop (p.length + i * k) = f xs[i] ++ s := by
  have e : xs = xs.take i ++ xs[i] :: xs.drop (i + 1) := by rw [← List.drop_eq_getElem_cons hi, List.take_append_drop]
  have hl : ((xs.take i).flatMap f).length = i * k := by
    rw [flatMap_len (k := k) (fun y hy => hk y (List.mem_of_mem_take hy)), List.length_take, Nat.min_eq_left (by omega)]
  refine ⟨(xs.drop (i + 1)).flatMap f ++ r, ?_⟩
  have e2 : xs.flatMap f = (xs.take i).flatMap f ++ (f xs[i] ++ (xs.drop (i + 1)).flatMap f) := by
    conv => lhs; rw [e]
    rw [List.flatMap_append, List.flatMap_cons]
  rw [e2, ← hl, ← List.length_append]
  rw [show p ++ ((xs.take i).flatMap f ++ (f xs[i] ++ (xs.drop (i + 1)).flatMap f)) ++ r = (p ++ (xs.take i).flatMap f) ++ (f xs[i] ++ ((xs.drop (i + 1)).flatMap f ++ r)) by simp only [List.append_assoc], List.drop_left]
theorem range_map_eq {α : Type} {xs : List α} {g : Nat → α} {n : Nat} (hn : n = xs.length) (h : ∀ i (hi : i < xs.length), g i = xs[i]) : (List.range n).map g = xs := by
  subst hn
  apply List.ext_getElem (by simp)
  intro i h1 h2
  simp [h i h2]
theorem read_keys {p r : List UInt8} {ks : List K} {n at_ : Nat} (hw : ∀ k ∈ ks, k.Wf) (hp : at_ = p.length) (hn : n = ks.length) : readKeys (p ++ ks.flatMap keyb ++ r) at_ n = ks := by
  subst hp
  refine range_map_eq hn fun i hi => ?_
  obtain ⟨s, hs⟩ := chunk_at (p := p) (r := r) (k := 40) (fun k hk => keyb_len (hw k hk)) hi
  have hb := Big.be_length 8 (ks[i]).n
  have hw1 := hw _ (List.getElem_mem hi)
  have h8 : ((p ++ ks.flatMap keyb ++ r).drop (p.length + i * 40)).take 8 = Big.be 8 (ks[i]).n := by
    rw [hs, keyb, List.append_assoc, List.take_append_of_le_length (by omega), List.take_of_length_le (by omega)]
  have h32 : ((p ++ ks.flatMap keyb ++ r).drop (p.length + i * 40 + 8)).take 32 = (ks[i]).d := by
    rw [← List.drop_drop, hs, keyb, List.append_assoc, List.drop_left' hb, List.take_append_of_le_length (by have := hw1.2; omega), List.take_of_length_le (by have := hw1.2; omega)]
  rw [readKey, h8, h32, Big.val_be _ _ (by have := hw1.1; show _ < 18446744073709551616; omega)]
theorem read_vals {p r : List UInt8} {vs : List (List UInt8)} {n at_ : Nat} (hw : ∀ v ∈ vs, v.length = 20) (hp : at_ = p.length) (hn : n = vs.length) : readVals (p ++ vs.flatten ++ r) at_ n = vs := by
  subst hp
  refine range_map_eq hn fun i hi => ?_
  obtain ⟨s, hs⟩ := chunk_at (f := id) (p := p) (r := r) (k := 20) hw hi
  rw [List.flatMap_id] at hs
  have hw1 := hw _ (List.getElem_mem hi)
  rw [hs, id, List.take_append_of_le_length (by omega), List.take_of_length_le (by omega)]
theorem read_kids {p r : List UInt8} {cs : List Int} {n at_ : Nat} (hw : ∀ c ∈ cs, kidOk c) (hp : at_ = p.length) (hn : n = cs.length) : readKids (p ++ (cs.flatMap fun c => Big.be 4 c.toNat) ++ r) at_ n = cs := by
  subst hp
  refine range_map_eq hn fun i hi => ?_
  obtain ⟨s, hs⟩ := chunk_at (f := fun c : Int => Big.be 4 c.toNat) (p := p) (r := r) (k := 4) (fun c _ => Big.be_length _ _) hi
  have hb := Big.be_length 4 (cs[i]).toNat
  have hw1 := hw _ (List.getElem_mem hi)
  unfold kidOk at hw1
  rw [hs, List.take_append_of_le_length (by omega), List.take_of_length_le (by omega), Big.val_be _ _ (by show _ < 4294967296; omega)]
  omega
theorem first_page (x : N) : (page x).getD 0 0 = first x.leaf := by simp [page, body]
theorem page_parts (x : N) : page x = (first x.leaf :: Big.be 2 x.ks.length) ++ x.ks.flatMap keyb ++ (x.vs.flatten ++ ((x.cs.flatMap fun c => Big.be 4 c.toNat) ++ List.replicate (512 - (body x).length) 0)) := by
  simp [page, body]
theorem count_page {x : N} (h : x.ks.length ≤ 11) : count (page x) = x.ks.length := by
  have hb := Big.be_length 2 x.ks.length
  rw [count, page_parts, List.append_assoc, List.cons_append, List.drop_succ_cons, List.drop_zero, List.take_append_of_le_length (by omega), List.take_of_length_le (by omega), Big.val_be _ _ (by omega)]
theorem ok_len {x : N} (h : Ok x) : x.ks.length ≤ 11 := by
  have := h.2.1
  unfold most at this
  split at this <;> omega
theorem raw_page {x : N} (hx : x.Wf) (ho : Ok x) : raw (page x) = x := by
  have hl := ok_len ho
  have hc := count_page hl
  have hb := Big.be_length 2 x.ks.length
  have hk : readKeys (page x) 3 x.ks.length = x.ks := by
    rw [page_parts]
    exact read_keys hx.ks (by simp [hb]) rfl
  obtain ⟨⟨_, hf⟩, _, _⟩ := ho
  unfold raw
  rw [hc, first_page, hk]
  rcases Bool.eq_false_or_eq_true x.leaf with hlf | hlf
  · rw [if_pos hlf] at hf
    have hcs : x.cs = [] := List.eq_nil_of_length_eq_zero hf.2
    have hv : readVals (page x) (3 + x.ks.length * 40) x.ks.length = x.vs := by
      rw [page_parts, ← List.append_assoc]
      exact read_vals hx.vs (by simp [hb, flatMap_len (fun k hk => keyb_len (hx.ks k hk))]; omega) hf.1.symm
    rw [hlf, if_pos (by decide), hv]
    cases x; simp only at *; subst hlf; subst hcs; rfl
  · have hlf' : ¬ x.leaf = true := by rw [hlf]; decide
    rw [if_neg hlf'] at hf
    have hvs : x.vs = [] := List.eq_nil_of_length_eq_zero hf.2.2
    have hv : readKids (page x) (3 + x.ks.length * 40) (x.ks.length + 1) = x.cs := by
      rw [page_parts, hvs, List.flatten_nil, List.nil_append, ← List.append_assoc]
      exact read_kids hf.1 (by simp [hb, flatMap_len (fun k hk => keyb_len (hx.ks k hk))]; omega) hf.2.1.symm
    rw [hlf, if_neg (by decide), hv]
    cases x; simp only at *; subst hlf; subst hvs; rfl
theorem good_page {x : N} (hx : x.Wf) (ho : Ok x) : Good (page x) := by
  refine ⟨page_len hx ho, ?_, ?_, ?_, ?_⟩
  · rw [first_page]; unfold first; split <;> decide
  · rw [count_page (ok_len ho), first_page]
    have := ho.2.1
    rcases Bool.eq_false_or_eq_true x.leaf with hlf | hlf <;> rw [hlf] at this ⊢ <;> exact this
  · rw [raw_page hx ho]; exact ho
  · rw [raw_page hx ho]
theorem readKeys_wf {b : List UInt8} {at_ k : Nat} (h : at_ + k * 40 ≤ b.length) : ∀ x ∈ readKeys b at_ k, x.Wf := by
  intro x hx
  obtain ⟨i, hi, rfl⟩ := List.mem_map.1 hx
  have hi := List.mem_range.1 hi
  refine ⟨?_, ?_⟩
  · have h1 := Big.val_lt ((b.drop (at_ + i * 40)).take 8)
    have h2 : 256 ^ ((b.drop (at_ + i * 40)).take 8).length ≤ 256 ^ 8 := Nat.pow_le_pow_right (by decide) (by rw [List.length_take]; omega)
    show Big.val 0 _ < 18446744073709551616
    omega
  · show ((b.drop (at_ + i * 40 + 8)).take 32).length = 32
    rw [List.length_take, List.length_drop]; omega
theorem readVals_wf {b : List UInt8} {at_ k : Nat} (h : at_ + k * 20 ≤ b.length) : ∀ x ∈ readVals b at_ k, x.length = 20 := by
  intro x hx
  obtain ⟨i, hi, rfl⟩ := List.mem_map.1 hx
  have hi := List.mem_range.1 hi
  rw [List.length_take, List.length_drop]; omega
theorem readKid_lt (b : List UInt8) (at_ : Nat) : Big.val 0 ((b.drop at_).take 4) < 4294967296 := by
  have h1 := Big.val_lt ((b.drop at_).take 4)
  have h2 : 256 ^ ((b.drop at_).take 4).length ≤ 256 ^ 4 := Nat.pow_le_pow_right (by decide) (by rw [List.length_take]; omega)
  omega
theorem readKids_wf {b : List UInt8} {at_ k : Nat} : ∀ c ∈ readKids b at_ k, -9223372036854775808 ≤ c ∧ c ≤ 9223372036854775807 := by
  intro x hx
  obtain ⟨i, hi, rfl⟩ := List.mem_map.1 hx
  have := readKid_lt b (at_ + i * 4)
  omega
theorem readKeys_len (b : List UInt8) (at_ k : Nat) : (readKeys b at_ k).length = k := by simp [readKeys]
theorem readVals_len (b : List UInt8) (at_ k : Nat) : (readVals b at_ k).length = k := by simp [readVals]
theorem readKids_len (b : List UInt8) (at_ k : Nat) : (readKids b at_ k).length = k := by simp [readKids]
theorem raw_t {b : List UInt8} (h : (b.getD 0 0).toNat = 0) : raw b = ⟨true, readKeys b 3 (count b), readVals b (3 + count b * 40) (count b), []⟩ := if_pos h
theorem raw_f {b : List UInt8} (h : ¬ (b.getD 0 0).toNat = 0) : raw b = ⟨false, readKeys b 3 (count b), [], readKids b (3 + count b * 40) (count b + 1)⟩ := if_neg h
theorem raw_wf {b : List UInt8} (hl : b.length = 512) (hc : count b ≤ most (decide ((b.getD 0 0).toNat = 0))) : (raw b).Wf := by
  by_cases h : (b.getD 0 0).toNat = 0
  · rw [decide_eq_true h] at hc
    have hc : count b ≤ 8 := hc
    rw [raw_t h]
    exact ⟨readKeys_wf (by omega), readVals_wf (by omega), fun c hc => (by cases hc), by simp only [readKeys_len]; omega, by simp only [readVals_len]; omega, by simp⟩
  · rw [decide_eq_false h] at hc
    have hc : count b ≤ 11 := hc
    rw [raw_f h]
    exact ⟨readKeys_wf (by omega), fun c hc => (by cases hc), readKids_wf, by simp only [readKeys_len]; omega, by simp, by simp only [readKids_len]; omega⟩
theorem zero_wf : zero.Wf := ⟨fun _ h => (by cases h), fun _ h => (by cases h), fun _ h => (by cases h), by decide, by decide, by decide⟩
theorem dec_wf (b : List UInt8) : (dec b).Wf := by
  unfold dec
  split
  · rename_i h; exact raw_wf h.1 h.2.2.1
  · exact zero_wf
theorem dec_good {b : List UInt8} (h : Good b) : dec b = raw b ∧ decE b = 0 := ⟨if_pos h, if_pos h⟩
theorem dec_bad {b : List UInt8} (h : ¬ Good b) : dec b = zero ∧ decE b = 8 := ⟨if_neg h, if_neg h⟩
/-! ### Halves -/
theorem full_len {x : N} (h : Full x) : x.ks.length = if x.leaf then 9 else 12 := by
  rw [h.2]; unfold most; split <;> rfl
theorem low_ok {x : N} (h : Full x) : Ok (low x) := by
  have hl := full_len h
  obtain ⟨⟨ha, hf⟩, _⟩ := h
  unfold low
  rcases Bool.eq_false_or_eq_true x.leaf with hlf | hlf
  · rw [hlf] at hl hf ⊢
    simp only [if_true] at hl hf ⊢
    refine ⟨⟨asc_take ha 4, ?_⟩, ?_, ?_⟩
    · show (x.vs.take 4).length = (x.ks.take 4).length ∧ 0 = 0
      rw [List.length_take, List.length_take]; omega
    · simp only [most, if_true, List.length_take]; omega
    · intro q; cases q
  · rw [hlf] at hl hf ⊢
    simp only [Bool.false_eq_true, if_false] at hl hf ⊢
    refine ⟨⟨asc_take ha 6, ?_⟩, ?_, ?_⟩
    · simp only [Bool.false_eq_true, if_false]
      exact ⟨fun c hc => hf.1 c (List.mem_of_mem_take hc), by simp only [List.length_take]; omega, rfl⟩
    · simp only [most, Bool.false_eq_true, if_false, List.length_take]; omega
    · intro _; simp only [List.length_take]; omega
theorem high_ok {x : N} (h : Full x) : Ok (high x) := by
  have hl := full_len h
  obtain ⟨⟨ha, hf⟩, _⟩ := h
  unfold high
  rcases Bool.eq_false_or_eq_true x.leaf with hlf | hlf
  · rw [hlf] at hl hf ⊢
    simp only [if_true] at hl hf ⊢
    refine ⟨⟨asc_drop ha 4, ?_⟩, ?_, ?_⟩
    · show (x.vs.drop 4).length = (x.ks.drop 4).length ∧ 0 = 0
      rw [List.length_drop, List.length_drop]; omega
    · simp only [most, if_true, List.length_drop]; omega
    · intro q; cases q
  · rw [hlf] at hl hf ⊢
    simp only [Bool.false_eq_true, if_false] at hl hf ⊢
    refine ⟨⟨asc_drop ha 7, ?_⟩, ?_, ?_⟩
    · simp only [Bool.false_eq_true, if_false]
      exact ⟨fun c hc => hf.1 c (List.mem_of_mem_drop hc), by simp only [List.length_drop]; omega, rfl⟩
    · simp only [most, Bool.false_eq_true, if_false, List.length_drop]; omega
    · intro _; simp only [List.length_drop]; omega
theorem full_not_ok {x : N} (h : Full x) : ¬ Ok x := fun q => by have := h.2; have := q.2.1; omega
theorem formed_not {x : N} (h : ¬ Formed x) : ¬ Ok x ∧ ¬ Full x := ⟨fun q => h q.1, fun q => h q.1⟩
/-! ### Nodes of drafts -/
def at_ (l : List Nat) (i : Nat) : Nat := if l.length = 0 then 0 else l.getD (i % l.length) 0
def nextK (k : K) (s : Nat) : K := if s % 2 = 0 ∧ (k.d.getD (s / 2 % 32) 0).toNat < 255 then ⟨k.n, k.d.set (s / 2 % 32) (k.d.getD (s / 2 % 32) 0 + 1)⟩ else ⟨k.n + 1 + s, UInt8.ofNat s :: List.replicate 31 0⟩
def keyI (st : List Nat) (f : Nat) : Nat → K
  | 0 => ⟨f % 1152921504606846976, List.replicate 32 0⟩
  | i + 1 => nextK (keyI st f i) (at_ st i)
def mkeys (st : List Nat) (f n : Nat) : List K := (List.range n).map (keyI st f)
def mval (vals : List UInt8) (i : Nat) : List UInt8 := UInt8.ofNat i :: (List.replicate 18 0 ++ [if vals.length = 0 then 0 else vals.getD (i % vals.length) 0])
def mkid (kids : List Nat) (i : Nat) : Int := 1 + ((at_ kids i % 4096 : Nat) : Int)
structure D where
  leaf : Bool
  first : Nat
  steps : List Nat
  vals : List UInt8
  kids : List Nat
def D.count (d : D) (over : Bool) : Nat := if over then (if d.leaf then 9 else 12) else (if d.leaf then d.steps.length % 9 else 1 + d.steps.length % 11)
def made (d : D) (over : Bool) : N :=
  if d.leaf then ⟨true, mkeys d.steps d.first (d.count over), (List.range (d.count over)).map (mval d.vals), []⟩
  else ⟨false, mkeys d.steps d.first (d.count over), [], (List.range (d.count over + 1)).map (mkid d.kids)⟩
structure D.Wf (d : D) : Prop where
  first : d.first < 18446744073709551616
  steps : ∀ s ∈ d.steps, s < 65536
  kids : ∀ s ∈ d.kids, s < 65536
theorem at_lt {l : List Nat} (h : ∀ s ∈ l, s < 65536) (i : Nat) : at_ l i < 65536 := by
  unfold at_
  split
  · decide
  · rename_i h0
    have hi : i % l.length < l.length := Nat.mod_lt _ (by omega)
    rw [List.getD_eq_getElem?_getD, List.getElem?_eq_getElem hi, Option.getD_some]
    exact h _ (List.getElem_mem hi)
theorem cmpL_set : ∀ (l : List UInt8) (p : Nat), p < l.length → (l.getD p 0).toNat < 255 → Big.cmpL l (l.set p (l.getD p 0 + 1)) = -1
  | [], _, h, _ => by simp at h
  | c :: l, 0, _, h => by
    simp only [List.getD_cons_zero] at h ⊢
    rw [List.set_cons_zero, Big.cmpL_cons, if_pos]
    rw [UInt8.toNat_add, show (1 : UInt8).toNat = 1 from rfl]
    omega
  | c :: l, p + 1, h, h2 => by
    simp only [List.getD_cons_succ] at h2 ⊢
    rw [List.set_cons_succ, Big.cmpL_cons, if_neg (by omega), if_neg (by omega)]
    exact cmpL_set l p (by simpa using h) h2
theorem nextK_lt {k : K} {s : Nat} (hd : k.d.length = 32) : cmp k (nextK k s) < 0 := by
  unfold nextK
  split
  · rename_i h
    unfold cmp
    simp only [Nat.lt_irrefl, if_false]
    rw [cmpL_set _ _ (by omega) h.2]; decide
  · unfold cmp
    simp only
    rw [if_pos (by omega)]; decide
theorem keyI_succ (st : List Nat) (f i : Nat) : keyI st f (i + 1) = nextK (keyI st f i) (at_ st i) := rfl
theorem nextK_wf {k : K} {s : Nat} (hs : s < 65536) (hd : k.d.length = 32) : (nextK k s).n ≤ k.n + 65536 ∧ (nextK k s).d.length = 32 := by
  unfold nextK
  split
  · exact ⟨Nat.le_add_right _ _, by simp only [List.length_set]; exact hd⟩
  · refine ⟨?_, by simp only [List.length_cons, List.length_replicate]⟩
    dsimp only
    omega
theorem keyI_wf {d : D} (h : d.Wf) (i : Nat) : (keyI d.steps d.first i).n ≤ 1152921504606846976 + i * 65536 ∧ (keyI d.steps d.first i).d.length = 32 := by
  induction i with
  | zero => exact ⟨by show d.first % 1152921504606846976 ≤ _; omega, by simp [keyI]⟩
  | succ i ih =>
    have h2 := nextK_wf (k := keyI d.steps d.first i) (at_lt h.steps i) ih.2
    rw [keyI_succ]
    exact ⟨Nat.le_trans h2.1 (by have := ih.1; omega), h2.2⟩
theorem mkeys_len (st : List Nat) (f n : Nat) : (mkeys st f n).length = n := by simp [mkeys]
theorem mkeys_key {st : List Nat} {f n i : Nat} (h : i < n) : key (mkeys st f n) i = keyI st f i := by
  rw [key_eq (by rw [mkeys_len]; exact h)]; simp [mkeys]
theorem count_le (d : D) (over : Bool) : d.count over ≤ 12 := by
  unfold D.count
  split <;> split <;> omega
theorem mval_len (vals : List UInt8) (i : Nat) : (mval vals i).length = 20 := by simp [mval]
theorem mkeys_wf {d : D} (h : d.Wf) {n : Nat} (hn : n ≤ 12) : ∀ k ∈ mkeys d.steps d.first n, k.Wf := fun k hk => by
  obtain ⟨i, hi, rfl⟩ := List.mem_map.1 hk
  have hi := List.mem_range.1 hi
  obtain ⟨h1, h2⟩ := keyI_wf h i
  exact ⟨by omega, h2⟩
theorem mkid_ok (kids : List Nat) (i : Nat) : kidOk (mkid kids i) := by
  unfold kidOk mkid
  have : at_ kids i % 4096 < 4096 := Nat.mod_lt _ (by decide)
  omega
theorem made_t {d : D} {over : Bool} (h : d.leaf = true) : made d over = ⟨true, mkeys d.steps d.first (d.count over), (List.range (d.count over)).map (mval d.vals), []⟩ := if_pos h
theorem made_f {d : D} {over : Bool} (h : d.leaf = false) : made d over = ⟨false, mkeys d.steps d.first (d.count over), [], (List.range (d.count over + 1)).map (mkid d.kids)⟩ := if_neg (by rw [h]; decide)
theorem made_leaf (d : D) (over : Bool) : (made d over).leaf = d.leaf := by
  unfold made; split
  · rename_i h; exact h.symm
  · rename_i h; simp only; cases e : d.leaf <;> simp_all
theorem made_ks (d : D) (over : Bool) : (made d over).ks = mkeys d.steps d.first (d.count over) := by unfold made; split <;> rfl
theorem made_wf {d : D} (h : d.Wf) (over : Bool) : (made d over).Wf := by
  have hc := count_le d over
  unfold made
  split
  · exact ⟨mkeys_wf h hc, fun v hv => by obtain ⟨i, _, rfl⟩ := List.mem_map.1 hv; exact mval_len _ _, fun c hc => (by cases hc), by simp only [mkeys_len]; omega, by simp only [List.length_map, List.length_range]; omega, by simp⟩
  · exact ⟨mkeys_wf h hc, fun v hv => (by cases hv), fun c hc => by
      obtain ⟨i, _, rfl⟩ := List.mem_map.1 hc
      have := mkid_ok d.kids i
      unfold kidOk at this; omega, by simp only [mkeys_len]; omega, by simp, by simp only [List.length_map, List.length_range]; omega⟩
theorem made_formed {d : D} (h : d.Wf) (over : Bool) : Formed (made d over) := by
  have ha : Asc (mkeys d.steps d.first (d.count over)) := fun i hi => by
    rw [mkeys_len] at hi
    rw [mkeys_key (by omega), mkeys_key hi]
    exact nextK_lt (keyI_wf h i).2
  unfold made
  split
  · exact ⟨ha, by simp [mkeys_len]⟩
  · refine ⟨ha, ?_⟩
    simp only [Bool.false_eq_true, if_false]
    exact ⟨fun c hc => by obtain ⟨i, _, rfl⟩ := List.mem_map.1 hc; exact mkid_ok _ _, by simp [mkeys_len], rfl⟩
theorem made_ok {d : D} (h : d.Wf) : Ok (made d false) := by
  refine ⟨made_formed h false, ?_, ?_⟩
  · rw [made_ks, mkeys_len, made_leaf]
    unfold D.count most
    cases d.leaf
    · simp only [Bool.false_eq_true, if_false]; omega
    · simp only [Bool.false_eq_true, if_false, if_true]; omega
  · intro q
    rw [made_leaf] at q
    rw [made_ks, mkeys_len]
    unfold D.count
    rw [q]
    simp only [Bool.false_eq_true, if_false]; omega
theorem made_full {d : D} (h : d.Wf) : Full (made d true) := by
  refine ⟨made_formed h true, ?_⟩
  rw [made_ks, mkeys_len, made_leaf]
  unfold D.count most
  cases d.leaf <;> rfl
end Go.Proofs.Ytbfhdggfdhlkfaa.Nod
