/- Frames there and back: plain laws of stamps, sectors and encodings; no Go in it. -/
import Derived.Test.YthpkgfpmfnijiaaDoorFrmDec
namespace Go.Proofs.YthpkgfpmfnijiaaDoor.Frm
theorem ep_lt {n : Int} (h : Ep n) : n.toNat < 256 ^ 8 := by
  have : (256 : Nat) ^ 8 = 18446744073709551616 := by decide
  omega
theorem stamp_parts (n : Int) (d more : List UInt8) (hd : d.length ≤ 112) :
    (stamp n d ++ more).take 8 = Big.be 8 n.toNat ∧ ((stamp n d ++ more).drop 8).take 112 = d ++ List.replicate (112 - d.length) 0 ∧ ((stamp n d ++ more).drop 120).take 8 = Big.be 8 n.toNat := by
  have h8 := Big.be_length 8 n.toNat
  unfold stamp
  generalize Big.be 8 n.toNat = e at *
  have hm : (d ++ List.replicate (112 - d.length) (0 : UInt8)).length = 112 := by simp; omega
  have e1 : e ++ d ++ List.replicate (112 - d.length) 0 ++ e ++ more = e ++ ((d ++ List.replicate (112 - d.length) 0) ++ (e ++ more)) := by simp only [List.append_assoc]
  rw [e1]
  generalize d ++ List.replicate (112 - d.length) 0 = m at *
  refine ⟨by rw [← h8, List.take_left], by rw [show 8 = e.length from h8.symm, List.drop_left, ← hm, List.take_left], ?_⟩
  rw [← List.append_assoc, show 120 = (e ++ m).length by rw [List.length_append, h8, hm], List.drop_left, ← h8, List.take_left]
theorem unst_stamp {n : Int} (hn : Ep n) {d : List UInt8} (hd : d.length ≤ 112) (more : List UInt8) : unst (stamp n d ++ more) n = (0, d ++ List.replicate (112 - d.length) 0) := by
  obtain ⟨h1, h2, h3⟩ := stamp_parts n d more hd
  have hl := stamp_length (n := n) hd
  unfold unst
  rw [if_neg (not_not_intro hn), if_neg, h2]
  rintro (h | h | h)
  · rw [List.length_append] at h; omega
  · exact h h1
  · exact h h3
theorem unst_other {n m : Int} (hn : Ep n) (hm : Ep m) (hne : m ≠ n) {d : List UInt8} (hd : d.length ≤ 112) (more : List UInt8) : unst (stamp n d ++ more) m = (13, []) := by
  obtain ⟨h1, h2, h3⟩ := stamp_parts n d more hd
  unfold unst
  rw [if_neg (not_not_intro hm), if_pos]
  refine .inr (.inl ?_)
  rw [h1]
  intro h
  have h4 := Big.val_be 8 n.toNat (ep_lt hn)
  rw [h, Big.val_be 8 m.toNat (ep_lt hm)] at h4
  omega
theorem stamp_of {b : List UInt8} {x : Int} (h : (unst b x).1 = 0) : b.take 128 = stamp x (unst b x).2 := by
  obtain ⟨he, hl, hu, hul⟩ := unst_zero h
  have ht : ¬ Torn b x := by
    intro ht
    unfold unst at h
    rw [if_neg (not_not_intro he), if_pos ht] at h
    cases h
  have h1 : b.take 8 = Big.be 8 x.toNat := Decidable.not_not.1 fun h1 => ht (.inr (.inl h1))
  have h2 : (b.drop 120).take 8 = Big.be 8 x.toNat := Decidable.not_not.1 fun h1 => ht (.inr (.inr h1))
  have e1 : b.take (120 + 8) = b.take 120 ++ (b.drop 120).take 8 := by rw [List.take_add]
  have e2 : b.take (8 + 112) = b.take 8 ++ (b.drop 8).take 112 := by rw [List.take_add]
  unfold stamp
  rw [hul, Nat.sub_self, List.replicate_zero, List.append_nil, hu]
  show b.take (120 + 8) = Big.be 8 x.toNat ++ (b.drop 8).take 112 ++ Big.be 8 x.toNat
  rw [e1, show b.take 120 = b.take 8 ++ (b.drop 8).take 112 from e2, h1, h2]
theorem chunks_app (ep : Int) (p q : List UInt8) (k : Nat) (h : 112 * k ≤ p.length) : chunks ep (p ++ q) k = chunks ep p k := by
  induction k with
  | zero => rfl
  | succ k ih =>
    rw [chunks_succ, chunks_succ, ih (by omega)]
    congr 2
    rw [List.drop_append_of_le_length (by omega), List.take_append_of_le_length (by rw [List.length_drop]; omega)]
theorem chunks_pad (ep : Int) (p : List UInt8) (m k : Nat) : chunks ep (p ++ List.replicate m 0) k = chunks ep p k := by
  induction k with
  | zero => rfl
  | succ k ih => rw [chunks_succ, chunks_succ, ih, stamp_pad]
theorem gather_chunks {b : List UInt8} {x : Int} (k : Nat) (h : (gather b x k).1 = 0) : b.take (128 * k) = chunks x (gather b x k).2 k ∧ (gather b x k).2.length = 112 * k ∧ 128 * k ≤ b.length := by
  induction k with
  | zero => exact ⟨by simp [chunks], rfl, Nat.zero_le _⟩
  | succ k ih =>
    by_cases h1 : (gather b x k).1 = 0
    · by_cases h2 : (unst (b.drop (128 * k)) x).1 = 0
      · obtain ⟨i1, i2, i3⟩ := ih h1
        obtain ⟨_, u2, _, u4⟩ := unst_zero h2
        rw [gather_step h1 h2]
        rw [List.length_drop] at u2
        refine ⟨?_, by simp only [List.length_append, i2, u4]; omega, by omega⟩
        rw [chunks_succ, chunks_app _ _ _ _ (by omega), ← i1, show 128 * (k + 1) = 128 * k + 128 by omega, List.take_add, stamp_of h2]
        congr 2
        rw [← i2, List.drop_left, List.take_of_length_le (by omega)]
      · rw [gather_stop h1 h2] at h; exact absurd h h2
    · rw [gather_bad h1] at h; exact absurd h h1
theorem gather_first {b : List UInt8} {x : Int} (k : Nat) (h : (gather b x (k + 1)).1 = 0) : ∃ r, (gather b x (k + 1)).2 = (unst b x).2 ++ r := by
  induction k with
  | zero =>
    by_cases h2 : (unst (b.drop (128 * 0)) x).1 = 0
    · rw [gather_step (k := 0) rfl h2]
      exact ⟨[], by rw [gather_zero, List.append_nil, List.nil_append, Nat.mul_zero, List.drop_zero]⟩
    · rw [gather_stop (k := 0) rfl h2] at h; exact absurd h h2
  | succ k ih =>
    by_cases h1 : (gather b x (k + 1)).1 = 0
    · by_cases h2 : (unst (b.drop (128 * (k + 1))) x).1 = 0
      · obtain ⟨r, hr⟩ := ih h1
        rw [gather_step h1 h2]
        exact ⟨r ++ (unst (b.drop (128 * (k + 1))) x).2, by simp only [hr, List.append_assoc]⟩
      · rw [gather_stop h1 h2] at h; exact absurd h h2
    · rw [gather_bad h1] at h; exact absurd h h1
theorem zeros_eq : ∀ (l : List UInt8), (∀ c ∈ l, c = 0) → l = List.replicate l.length 0
  | [], _ => rfl
  | c :: l, h => by
    have h1 := h c (.head _)
    subst h1
    have := zeros_eq l fun c hc => h c (.tail _ hc)
    rw [List.length_cons, List.replicate_succ, ← this]
theorem head_eq {D : List UInt8} (h : 11 ≤ D.length) : head (vk D) (vt D) (vi D) (vn D) = D.take 11 := by
  have e : ∀ (l : List UInt8) (k : Nat), l.length = k → Big.be k (Big.val 0 l) = l := fun l k hk => by subst hk; exact Big.be_val l
  unfold head vk vt vi vn
  rw [e _ 1 (by rw [List.length_take]; omega), e _ 4 (by rw [List.length_take, List.length_drop]; omega), e _ 2 (by rw [List.length_take, List.length_drop]; omega), e _ 4 (by rw [List.length_take, List.length_drop]; omega)]
  rw [← List.take_add, ← List.take_add, ← List.take_add]
theorem opened_ok {l : List UInt8} (h : (Crc.opened l).1 = 0) : (Crc.opened l).2 = l.take (l.length - 4) ∧ Crc.sealed (l.take (l.length - 4)) = l := by
  unfold Crc.opened at h ⊢
  split
  · rename_i h1; rw [if_pos h1] at h; cases h
  · rename_i h1
    rw [if_neg h1] at h
    split
    · rename_i h2; exact ⟨rfl, h2⟩
    · rename_i h2; rw [if_neg h2] at h; cases h
/-- What is decoded has just these bytes. -/
theorem dec_enc {b : List UInt8} {x : Int} (h : (dec b x).err = 0) : enc (dec b x).kd (dec b x).ep (dec b x).tx (dec b x).ix (dec b x).no (dec b x).data = (0, b.take (128 * (dec b x).sec)) ∧ 128 * (dec b x).sec ≤ b.length ∧ (dec b x).ep = x ∧ (dec b x).sec ≤ 5 := by
  unfold dec at h ⊢
  by_cases h0 : (unst b x).1 ≠ 0
  · rw [if_pos h0] at h; exact absurd h h0
  · rw [if_neg h0] at h ⊢
    have h0 := Decidable.not_not.1 h0
    by_cases hk : ¬ (kindOf (unst b x).2 = 1 ∨ kindOf (unst b x).2 = 2)
    · rw [if_pos hk] at h; cases h
    · rw [if_neg hk] at h ⊢
      have hk := Decidable.not_not.1 hk
      obtain ⟨s1, s2, s3⟩ := secs_of hk
      by_cases hg : (gather b x (secs (kindOf (unst b x).2)).1).1 ≠ 0
      · rw [if_pos hg] at h; exact absurd h hg
      · rw [if_neg hg] at h ⊢
        have hg := Decidable.not_not.1 hg
        obtain ⟨g1, g2, g3⟩ := gather_chunks _ hg
        have hvk : vk (gather b x (secs (kindOf (unst b x).2)).1).2 = kindOf (unst b x).2 := by
          obtain ⟨S, hS⟩ : ∃ S, (secs (kindOf (unst b x).2)).1 = S + 1 := ⟨_, (Nat.succ_pred_eq_of_pos s1).symm⟩
          rw [hS] at hg ⊢
          obtain ⟨r, hr⟩ := gather_first S hg
          obtain ⟨_, _, _, u4⟩ := unst_zero h0
          rw [hr]
          unfold vk kindOf
          generalize (unst b x).2 = u at u4
          cases u with
          | nil => cases u4
          | cons c u => simp [Big.val]
        generalize (gather b x (secs (kindOf (unst b x).2)).1).2 = D at *
        generalize kindOf (unst b x).2 = K at *
        unfold fin at h ⊢
        by_cases ho : (Crc.opened (D.take (15 + dl K))).1 ≠ 0
        · rw [if_pos ho] at h; cases h
        · rw [if_neg ho] at h ⊢
          have ho := Decidable.not_not.1 ho
          obtain ⟨o1, o2⟩ := opened_ok ho
          have hDl : 15 + dl K ≤ D.length := by omega
          have hlt : (D.take (15 + dl K)).length = 15 + dl K := by rw [List.length_take]; omega
          by_cases hc : (∀ c ∈ D.drop (15 + dl K), c = 0) ∧ check (vk D) x (vt D) (vi D) (vn D) ((Crc.opened (D.take (15 + dl K))).2.drop 11).length = 0
          · rw [if_pos hc]
            obtain ⟨hz, hck⟩ := hc
            refine ⟨?_, g3, rfl, s2⟩
            have hok : Ok (vk D) x (vt D) (vi D) (vn D) ((Crc.opened (D.take (15 + dl K))).2.drop 11).length := by
              unfold check at hck
              by_cases hok : Ok (vk D) x (vt D) (vi D) (vn D) ((Crc.opened (D.take (15 + dl K))).2.drop 11).length
              · exact hok
              · rw [if_neg hok] at hck; cases hck
            unfold enc
            rw [if_pos hok]
            simp only [Int.toNat_natCast]
            have hp : payload (vk D) (vt D) (vi D) (vn D) ((Crc.opened (D.take (15 + dl K))).2.drop 11) = D.take (15 + dl K) := by
              unfold payload
              rw [head_eq (by omega), o1, hlt]
              have e : D.take 11 ++ ((D.take (15 + dl K)).take (15 + dl K - 4)).drop 11 = (D.take (15 + dl K)).take ((D.take (15 + dl K)).length - 4) := by
                have e3 : (D.take (15 + dl K - 4)).take 11 = D.take 11 := by rw [List.take_take, Nat.min_eq_left (by omega)]
                rw [hlt, List.take_take, Nat.min_eq_left (by omega), ← e3, List.take_append_drop]
              rw [e, o2]
            rw [hp, hvk]
            have hD : D = D.take (15 + dl K) ++ List.replicate (D.drop (15 + dl K)).length 0 := by
              rw [← zeros_eq _ hz, List.take_append_drop]
            have h5 := chunks_pad x (D.take (15 + dl K)) (D.drop (15 + dl K)).length (secs (K : Int)).1
            rw [← hD] at h5
            rw [← h5, ← g1]
          · rw [if_neg hc] at h; cases h
theorem unst_err (b : List UInt8) (x : Int) : (unst b x).1 = if ¬ Ep x then 2 else if Torn b x then 13 else 0 := by
  unfold unst
  split
  · rfl
  · split <;> rfl
theorem gather_err {b : List UInt8} {x : Int} (he : Ep x) (k : Nat) : (gather b x k).1 = 0 ∨ (gather b x k).1 = 13 := by
  induction k with
  | zero => exact .inl rfl
  | succ k ih =>
    by_cases h1 : (gather b x k).1 = 0
    · by_cases h2 : (unst (b.drop (128 * k)) x).1 = 0
      · rw [gather_step h1 h2]; exact .inl rfl
      · rw [gather_stop h1 h2]
        have := unst_err (b.drop (128 * k)) x
        rw [if_neg (not_not_intro he)] at this
        split at this
        · exact .inr this
        · exact absurd this h2
    · rw [gather_bad h1]; exact ih
theorem bad_bad (e : Nat) : bad e = bad (bad e).err := rfl
theorem dec_bad {b : List UInt8} {x : Int} (h : (dec b x).err ≠ 0) : dec b x = bad (dec b x).err ∧ ((dec b x).err = 2 ↔ ¬ Ep x) := by
  unfold dec at h ⊢
  have hu := unst_err b x
  by_cases h0 : (unst b x).1 ≠ 0
  · rw [if_pos h0]
    refine ⟨rfl, ?_⟩
    show (unst b x).1 = 2 ↔ _
    rw [hu]
    by_cases he : Ep x
    · rw [if_neg (not_not_intro he)]
      split
      · exact ⟨fun h => (by cases h), fun h => absurd he h⟩
      · exact ⟨fun h => (by cases h), fun h => absurd he h⟩
    · rw [if_pos he]; exact ⟨fun _ => he, fun _ => rfl⟩
  · rw [if_neg h0] at h ⊢
    have h0 := Decidable.not_not.1 h0
    obtain ⟨he, _⟩ := unst_zero h0
    by_cases hk : ¬ (kindOf (unst b x).2 = 1 ∨ kindOf (unst b x).2 = 2)
    · rw [if_pos hk]; exact ⟨rfl, fun h => (by cases h), fun h => absurd he h⟩
    · rw [if_neg hk] at h ⊢
      by_cases hg : (gather b x (secs (kindOf (unst b x).2)).1).1 ≠ 0
      · rw [if_pos hg]
        refine ⟨rfl, fun h => ?_, fun h => absurd he h⟩
        have h2 : (gather b x (secs (kindOf (unst b x).2)).1).1 = 2 := h
        rcases gather_err (b := b) he (secs (kindOf (unst b x).2)).1 with h3 | h3 <;> omega
      · rw [if_neg hg] at h ⊢
        unfold fin at h ⊢
        split
        · exact ⟨rfl, fun h => (by cases h), fun h => absurd he h⟩
        · split
          · rename_i h1 h2; rw [if_neg h1, if_pos h2] at h; exact absurd rfl h
          · exact ⟨rfl, fun h => (by cases h), fun h => absurd he h⟩
end Go.Proofs.YthpkgfpmfnijiaaDoor.Frm
