/- Plain laws: what is encoded in groups is read back, and what is read is the encoding. -/
import Derived.Test.YtodoeeoihklkjaaBigLaw
namespace Go.Proofs.Ytodoeeoihklkjaa.Big
theorem dig_toNat (m n : Nat) : (dig m n).toNat = n / 128 ^ m % 128 + if m = 0 then 0 else 128 := by
  unfold dig
  rw [UInt8.toNat_ofNat']
  have : n / 128 ^ m % 128 < 128 := Nat.mod_lt _ (by decide)
  split <;> omega
theorem dig_mod (m n : Nat) : (dig m n).toNat % 128 = n / 128 ^ m % 128 := by
  rw [dig_toNat]
  have : n / 128 ^ m % 128 < 128 := Nat.mod_lt _ (by decide)
  split <;> omega
theorem div128 (n m : Nat) : n / 128 ^ (m + 1) * 128 + n / 128 ^ m % 128 = n / 128 ^ m := by
  rw [Nat.pow_succ, ← Nat.div_div_eq_div_mul]
  have := Nat.div_add_mod (n / 128 ^ m) 128
  omega
theorem take_snoc' {α : Type} (l : List α) (d : α) {k : Nat} (h : k < l.length) : l.take (k + 1) = l.take k ++ [l.getD k d] := by
  rw [List.take_succ_eq_append_getElem h]; simp [List.getD, h]
/-- What the digits in front come to. -/
theorem vst_gr (k n : Nat) (hn : n < 18446744073709551616) (hk : n < 128 ^ k) : ∀ j, j ≤ k → vst ((gr k n).take j) = (n / 128 ^ (k - j), false) := by
  intro j
  induction j with
  | zero => intro _; simp only [List.take_zero, Nat.sub_zero, Nat.div_eq_of_lt hk]; rfl
  | succ j ih =>
    intro hj
    rw [take_snoc' _ 0 (by rw [gr_length]; omega), vst_snoc, ih (by omega), gr_get _ _ _ (by omega)]
    have e : k - j = (k - 1 - j) + 1 := by omega
    have e2 : k - (j + 1) = k - 1 - j := by omega
    have hd := div128 n (k - 1 - j)
    have hle := Nat.div_le_self n (128 ^ (k - 1 - j))
    simp only [vstep, dig_mod, e, e2, Bool.false_or]
    rw [hd, Nat.mod_eq_of_lt (by omega)]
    congr 1
    rw [decide_eq_false]
    omega
theorem vlen_gr (k n : Nat) (more : List UInt8) : vlen (gr (k + 1) n ++ more) = k := by
  induction k with
  | zero =>
    simp only [gr, List.cons_append, List.nil_append, vlen]
    rw [if_pos]
    rw [dig_toNat]
    have : n / 128 ^ 0 % 128 < 128 := Nat.mod_lt _ (by decide)
    simp; omega
  | succ k ih =>
    rw [gr, List.cons_append, vlen, if_neg, ih]
    rw [dig_toNat, if_neg (by omega)]
    omega
theorem gsz_lt (n : Nat) : n < 128 ^ gsz n := by
  rw [pow128, ← len_le]
  unfold gsz; omega
theorem gsz_ge {n : Nat} (h : gsz n ≠ 1) : 128 ^ (gsz n - 1) ≤ n := by
  refine Nat.le_of_not_lt fun hlt => ?_
  rw [pow128, ← len_le] at hlt
  unfold gsz at h hlt
  omega
theorem enc_length (n : Nat) : (enc n).length = gsz n := gr_length _ _
theorem enc_head (n : Nat) : ((enc n).getD 0 0).toNat ≠ 128 := by
  have h1 := gsz_pos n
  have h2 := gsz_lt n
  unfold enc
  rw [gr_get _ _ _ (by omega), dig_toNat]
  by_cases hs : gsz n = 1
  · have : n / 128 ^ (gsz n - 1 - 0) % 128 < 128 := Nat.mod_lt _ (by decide)
    rw [if_pos (by omega)]; omega
  · have h3 := gsz_ge hs
    have hp : 0 < 128 ^ (gsz n - 1) := Nat.pow_pos (by decide)
    have h4 : 1 ≤ n / 128 ^ (gsz n - 1) := (Nat.le_div_iff_mul_le hp).2 (by omega)
    have h5 : n / 128 ^ (gsz n - 1) < 128 := (Nat.div_lt_iff_lt_mul hp).2 (by
      rw [Nat.mul_comm, ← Nat.pow_succ, show (gsz n - 1).succ = gsz n by omega]; exact h2)
    rw [if_neg (by omega), Nat.sub_zero, Nat.mod_eq_of_lt h5]
    omega
/-- What was encoded is read at its offset, whatever follows. -/
theorem var_enc (p more : List UInt8) (n : Nat) (hn : n < 18446744073709551616) : varAt (p ++ enc n ++ more) (p.length : Int) = (n, p.length + gsz n, 0) := by
  have h1 := gsz_pos n
  have hd : (p ++ enc n ++ more).drop ((p.length : Int)).toNat = enc n ++ more := by
    rw [Int.toNat_natCast, List.append_assoc, List.drop_left]
  have hv : vlen (enc n ++ more) = gsz n - 1 := by
    have := vlen_gr (gsz n - 1) n more
    rw [show gsz n - 1 + 1 = gsz n by omega] at this
    exact this
  have hl := enc_length n
  have ht : (enc n ++ more).take (gsz n - 1 + 1) = (gr (gsz n) n).take (gsz n) := by
    rw [show gsz n - 1 + 1 = gsz n by omega, List.take_append_of_le_length (by omega)]; rfl
  have hs := vst_gr (gsz n) n hn (gsz_lt n) (gsz n) (Nat.le_refl _)
  have hh : ((enc n ++ more).getD 0 0) = (enc n).getD 0 0 := by
    rw [List.getD_eq_getElem?_getD, List.getElem?_append_left (by omega), ← List.getD_eq_getElem?_getD]
  unfold varAt
  rw [if_neg (by omega), hd, hv, if_neg (by rw [List.length_append]; omega), hh, if_neg (enc_head n), ht, hs]
  simp
  omega
/-- Without its last byte it is torn. -/
theorem var_torn (n : Nat) : varAt ((enc n).take (gsz n - 1)) 0 = (0, 0, 13) := by
  have h1 := gsz_pos n
  have hv : ∀ (m : Nat) (l : List UInt8), m ≤ vlen l → vlen (l.take m) = m := by
    intro m
    induction m with
    | zero => intro l _; rfl
    | succ m ih =>
      intro l h
      cases l with
      | nil => simp [vlen] at h
      | cons c l =>
        simp only [vlen] at h
        split at h
        · omega
        · rename_i hc
          rw [List.take_succ_cons, vlen, if_neg hc, ih l (by omega)]
  have h2 := vlen_gr (gsz n - 1) n []
  rw [List.append_nil, show gsz n - 1 + 1 = gsz n by omega] at h2
  have h3 := hv (gsz n - 1) (enc n) (by unfold enc; omega)
  unfold varAt
  rw [if_neg (by decide), show ((0 : Int)).toNat = 0 from rfl, List.drop_zero, h3, if_pos]
  rw [List.length_take, enc_length]; omega
/-- What is read in groups is the encoding of the number. -/
theorem var_reads {l : List UInt8} {t n nx : Nat} (h : varAt l (t : Int) = (n, nx, 0)) :
    n < 18446744073709551616 ∧ t < nx ∧ nx ≤ l.length ∧ (l.drop t).take (nx - t) = enc n := by
  unfold varAt at h
  rw [if_neg (by omega), Int.toNat_natCast] at h
  split at h
  · simp at h
  · rename_i hlen
    split at h
    · simp at h
    · rename_i hhead
      split at h
      · simp at h
      · rename_i hov
        simp only [Prod.mk.injEq, and_true] at h
        obtain ⟨hn, hx⟩ := h
        generalize hr : l.drop t = r at *
        have hrl : r.length = l.length - t := by rw [← hr]; simp
        generalize hk : vlen r + 1 = k at *
        have hx2 : nx - t = k := by omega
        have hlt : n < 18446744073709551616 := by rw [← hn]; exact vst_lt _
        have hno : ∀ j, j ≤ k → (vst (r.take j)).2 = false := fun j hj => by
          cases hb : (vst (r.take j)).2 with
          | false => rfl
          | true => exact absurd (vst_over r j k hj hb) hov
        have hstep : ∀ j, j < k → (vst (r.take (j + 1))).1 = (vst (r.take j)).1 * 128 + (r.getD j 0).toNat % 128 := fun j hj => by
          have h1 := hno (j + 1) hj
          rw [take_snoc' _ 0 (by omega), vst_snoc] at h1 ⊢
          simp only [vstep, Bool.or_eq_false_iff, decide_eq_false_iff_not] at h1 ⊢
          rw [Nat.mod_eq_of_lt]
          omega
        have hdiv : ∀ m, m ≤ k → n / 128 ^ m = (vst (r.take (k - m))).1 := by
          intro m
          induction m with
          | zero => intro _; simp [hn]
          | succ m ih =>
            intro hm
            have hs := hstep (k - (m + 1)) (by omega)
            rw [show k - (m + 1) + 1 = k - m by omega] at hs
            rw [Nat.pow_succ, ← Nat.div_div_eq_div_mul, ih (by omega), hs]
            omega
        have hdig : ∀ j, j < k → n / 128 ^ (k - 1 - j) % 128 = (r.getD j 0).toNat % 128 := fun j hj => by
          rw [hdiv _ (by omega), show k - (k - 1 - j) = j + 1 by omega, hstep j hj]
          omega
        have hbig : ∀ j, j + 1 < k → 128 ≤ (r.getD j 0).toNat := by
          intro j hj
          refine Nat.le_of_not_lt fun hsm => ?_
          have := (vlen_at r (i := j) (by omega) (by omega)).1 hsm
          omega
        have hlast : (r.getD (k - 1) 0).toNat < 128 := by
          refine Nat.lt_of_not_le fun hge => ?_
          have := (vlen_at r (i := k - 1) (by omega) (by omega)).2 (by omega)
          omega
        have hsz : gsz n = k := by
          refine gsz_of (by omega) ?_ ?_
          · rw [hdiv k (Nat.le_refl _)]; simp [vst]
          · by_cases h1 : k = 1
            · exact .inl h1
            · refine .inr ?_
              have := hdig 0 (by omega)
              rw [Nat.sub_zero] at this
              have h2 := hbig 0 (by omega)
              have h3 := (r.getD 0 0).toNat_lt
              intro h0
              rw [h0] at this
              omega
        refine ⟨hlt, by omega, by omega, ?_⟩
        rw [hx2]
        unfold enc
        rw [hsz]
        apply List.ext_getElem?
        intro j
        by_cases hj : j < k
        · have hg := gr_get k n j hj
          have hjr : j < r.length := by omega
          rw [List.getElem?_take, if_pos hj]
          rw [List.getD_eq_getElem?_getD] at hg
          have hgl : j < (gr k n).length := by rw [gr_length]; exact hj
          rw [List.getElem?_eq_getElem hjr, List.getElem?_eq_getElem hgl]
          rw [List.getElem?_eq_getElem hgl, Option.getD_some] at hg
          rw [hg]
          congr 1
          apply UInt8.toNat.inj
          have hd := hdig j hj
          have hgr : (r.getD j 0) = r[j] := by rw [List.getD_eq_getElem?_getD, List.getElem?_eq_getElem hjr, Option.getD_some]
          rw [dig_toNat, hd, hgr]
          by_cases hjl : j + 1 < k
          · have := hbig j hjl
            rw [hgr] at this
            have := r[j].toNat_lt
            rw [if_neg (by omega)]; omega
          · have e : j = k - 1 := by omega
            subst e
            rw [hgr] at hlast
            rw [if_pos (by omega)]; omega
        · rw [List.getElem?_eq_none (by rw [List.length_take]; omega), List.getElem?_eq_none (by rw [gr_length]; omega)]
theorem var_errs (l : List UInt8) (t : Nat) : (varAt l (t : Int)).2.2 = 0 ∨ varAt l (t : Int) = (0, 0, 13) ∨ varAt l (t : Int) = (0, 0, 8) ∨ varAt l (t : Int) = (0, 0, 14) := by
  unfold varAt
  rw [if_neg (by omega)]
  split
  · exact .inr (.inl rfl)
  · split
    · exact .inr (.inr (.inl rfl))
    · split
      · exact .inr (.inr (.inr rfl))
      · exact .inl rfl
/-- A byte 128 in front is refused. -/
theorem var_form (n : Nat) : varAt (128 :: enc n) 0 = (0, 0, 8) := by
  have h1 := gsz_pos n
  have h2 := vlen_gr (gsz n - 1) n []
  rw [List.append_nil, show gsz n - 1 + 1 = gsz n by omega] at h2
  have h3 : vlen (128 :: enc n) = gsz n - 1 + 1 := by
    rw [vlen, if_neg (by decide)]; unfold enc; rw [h2]
  unfold varAt
  rw [if_neg (by decide), show ((0 : Int)).toNat = 0 from rfl, List.drop_zero, h3, if_neg (by rw [List.length_cons, enc_length]; omega), if_pos (by rfl)]
end Go.Proofs.Ytodoeeoihklkjaa.Big
