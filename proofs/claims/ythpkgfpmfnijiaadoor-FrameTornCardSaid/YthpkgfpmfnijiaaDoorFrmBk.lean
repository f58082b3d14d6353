/- Frames come back from their encodings: the plain law; no Go in it. -/
import Derived.Test.YthpkgfpmfnijiaaDoorFrmRt
namespace Go.Proofs.YthpkgfpmfnijiaaDoor.Frm
/-- The payload in k sectors: zeros behind it. -/
def padN (p : List UInt8) (k : Nat) : List UInt8 := (p ++ List.replicate (112 * k) 0).take (112 * k)
theorem padN_length (p : List UInt8) (k : Nat) : (padN p k).length = 112 * k := by
  unfold padN; rw [List.length_take, List.length_append, List.length_replicate]; omega
theorem padN_step (p : List UInt8) (k : Nat) : padN p (k + 1) = padN p k ++ ((p.drop (112 * k)).take 112 ++ List.replicate (112 - ((p.drop (112 * k)).take 112).length) 0) := by
  unfold padN
  apply List.ext_getElem?
  intro i
  have hl : ((p ++ List.replicate (112 * k) (0 : UInt8)).take (112 * k)).length = 112 * k := by rw [List.length_take, List.length_append, List.length_replicate]; omega
  by_cases h1 : i < 112 * k
  · rw [List.getElem?_append_left (by omega), List.getElem?_take, List.getElem?_take, if_pos (by omega), if_pos h1]
    by_cases h2 : i < p.length
    · rw [List.getElem?_append_left h2, List.getElem?_append_left h2]
    · rw [List.getElem?_append_right (by omega), List.getElem?_append_right (by omega), List.getElem?_replicate, List.getElem?_replicate, if_pos (by omega), if_pos (by omega)]
  · rw [List.getElem?_append_right (by omega), hl, List.getElem?_take]
    by_cases h2 : i < 112 * (k + 1)
    · rw [if_pos h2]
      by_cases h3 : i < p.length
      · rw [List.getElem?_append_left h3, List.getElem?_append_left (by rw [List.length_take, List.length_drop]; omega), List.getElem?_take, if_pos (by omega), List.getElem?_drop, show 112 * k + (i - 112 * k) = i by omega]
      · rw [List.getElem?_append_right (by omega), List.getElem?_append_right (by rw [List.length_take, List.length_drop]; omega), List.getElem?_replicate, List.getElem?_replicate, if_pos (by omega), if_pos (by rw [List.length_take, List.length_drop]; omega)]
    · rw [if_neg h2, List.getElem?_eq_none]
      simp only [List.length_append, List.length_replicate, List.length_take, List.length_drop]; omega
theorem padN_eq {p : List UInt8} {k : Nat} (h : p.length ≤ 112 * k) : padN p k = p ++ List.replicate (112 * k - p.length) 0 := by
  unfold padN
  rw [List.take_append, List.take_of_length_le h, List.take_replicate, Nat.min_eq_left (by omega)]
/-- A sector of an encoding. -/
theorem chunks_drop (ep : Int) (p : List UInt8) (k : Nat) : ∀ (more : List UInt8) (j : Nat), j < k → ∃ r, (chunks ep p k ++ more).drop (128 * j) = stamp ep ((p.drop (112 * j)).take 112) ++ r := by
  induction k with
  | zero => intro more j h; omega
  | succ k ih =>
    intro more j h
    have hl := chunks_length ep p k
    rw [chunks_succ, List.append_assoc]
    by_cases e : j = k
    · subst e
      exact ⟨more, by rw [← hl, List.drop_left]⟩
    · exact ih _ j (by omega)
theorem gather_enc {ep : Int} (he : Ep ep) (p more : List UInt8) (S k : Nat) (h : k ≤ S) : gather (chunks ep p S ++ more) ep k = (0, padN p k) := by
  induction k with
  | zero => rfl
  | succ k ih =>
    have ih := ih (by omega)
    obtain ⟨r, hr⟩ := chunks_drop ep p S more k (by omega)
    have hu := unst_stamp he (d := (p.drop (112 * k)).take 112) (by rw [List.length_take]; omega) r
    rw [← hr] at hu
    rw [gather_step (by rw [ih]) (by rw [hu]), ih, hu, padN_step]
theorem opened_seal (l : List UInt8) : Crc.opened (Crc.sealed l) = (0, l) := by
  have h1 := sealed_length l
  have h2 : (Crc.sealed l).take ((Crc.sealed l).length - 4) = l := by
    rw [h1, Nat.add_sub_cancel]; unfold Crc.sealed; rw [List.take_left]
  unfold Crc.opened
  rw [h2, if_neg (by omega), if_pos rfl]
theorem cut5 {A B C E R : List UInt8} (ha : A.length = 1) (hb : B.length = 4) (hc : C.length = 2) (he : E.length = 4) :
    (A ++ B ++ C ++ E ++ R).take 1 = A ∧ ((A ++ B ++ C ++ E ++ R).drop 1).take 4 = B ∧ ((A ++ B ++ C ++ E ++ R).drop 5).take 2 = C ∧ ((A ++ B ++ C ++ E ++ R).drop 7).take 4 = E ∧ (A ++ B ++ C ++ E ++ R).take 11 = A ++ B ++ C ++ E := by
  have h5 : (A ++ B).length = 5 := by rw [List.length_append]; omega
  have h7 : (A ++ B ++ C).length = 7 := by rw [List.length_append]; omega
  have h11 : (A ++ B ++ C ++ E).length = 11 := by rw [List.length_append]; omega
  have e1 : A ++ B ++ C ++ E ++ R = A ++ (B ++ (C ++ (E ++ R))) := by simp only [List.append_assoc]
  have e5 : A ++ B ++ C ++ E ++ R = (A ++ B) ++ (C ++ (E ++ R)) := by simp only [List.append_assoc]
  have e7 : A ++ B ++ C ++ E ++ R = (A ++ B ++ C) ++ (E ++ R) := by simp only [List.append_assoc]
  refine ⟨?_, ?_, ?_, ?_, ?_⟩
  · rw [e1, ← ha, List.take_left]
  · rw [e1, ← ha, List.drop_left, ← hb, List.take_left]
  · rw [e5, ← h5, List.drop_left, ← hc, List.take_left]
  · rw [e7, ← h7, List.drop_left, ← he, List.take_left]
  · rw [← h11, List.take_left]
theorem pow1 : (256 : Nat) ^ 1 = 256 := rfl
theorem pow2 : (256 : Nat) ^ 2 = 65536 := rfl
theorem pow4 : (256 : Nat) ^ 4 = 4294967296 := rfl
/-- Each valid frame is decoded from its encoding, whatever follows. -/
theorem enc_dec {kd ep tx ix no : Int} {d : List UInt8} (h : Ok kd ep tx ix no d.length) (more : List UInt8) :
    dec ((enc kd ep tx ix no d).2 ++ more) ep = ⟨0, (secs kd).1, kd, ep, tx, ix, no, d⟩ := by
  unfold enc
  rw [if_pos h]
  obtain ⟨he, ht1, ht2, hk⟩ := h
  obtain ⟨K, rfl⟩ : ∃ K : Nat, kd = (K : Int) := ⟨kd.toNat, by omega⟩
  obtain ⟨T, rfl⟩ : ∃ K : Nat, tx = (K : Int) := ⟨tx.toNat, by omega⟩
  obtain ⟨I, rfl⟩ : ∃ K : Nat, ix = (K : Int) := ⟨ix.toNat, by omega⟩
  obtain ⟨N, rfl⟩ : ∃ K : Nat, no = (K : Int) := ⟨no.toNat, by omega⟩
  simp only [Int.toNat_natCast]
  have hK : K = 1 ∨ K = 2 := by omega
  have hL : d.length = dl K := by
    rcases hK with rfl | rfl
    · show _ = 512; omega
    · show _ = 0; omega
  obtain ⟨s1, s2, s3⟩ := secs_of hK
  have hpl := payload_length K T I N d
  have hPe : payload K T I N d = Big.be 1 K ++ Big.be 4 T ++ Big.be 2 I ++ Big.be 4 N ++ (d ++ Crc.be4 (Crc.sum (head K T I N ++ d))) := by
    unfold payload Crc.sealed head; simp only [List.append_assoc]
  have hPo : Crc.opened (payload K T I N d) = (0, head K T I N ++ d) := opened_seal _
  have hhl := head_length K T I N
  have hc5 := fun R => cut5 (R := R) (Big.be_length 1 K) (Big.be_length 4 T) (Big.be_length 2 I) (Big.be_length 4 N)
  have vK := Big.val_be 1 K (by rw [pow1]; omega)
  have vT := Big.val_be 4 T (by rw [pow4]; omega)
  have vI := Big.val_be 2 I (by rw [pow2]; omega)
  have vN := Big.val_be 4 N (by rw [pow4]; omega)
  generalize payload K T I N d = P at *
  generalize hSe : (secs (K : Int)).1 = S at *
  -- the first sector
  obtain ⟨r, hr⟩ := chunks_drop ep P S more 0 (by omega)
  simp only [Nat.mul_zero, List.drop_zero] at hr
  have hu := unst_stamp he (d := P.take 112) (by rw [List.length_take]; omega) r
  rw [← hr] at hu
  have hg := gather_enc he P more S S (Nat.le_refl _)
  have hD : padN P S = P ++ List.replicate (112 * S - P.length) 0 := padN_eq (by omega)
  have hkind : kindOf (P.take 112 ++ List.replicate (112 - (P.take 112).length) 0) = K := by
    have h1 : (P.take 112 ++ List.replicate (112 - (P.take 112).length) 0).take 1 = Big.be 1 K := by
      rw [List.take_append_of_le_length (by rw [List.length_take]; omega), List.take_take, Nat.min_eq_left (by decide), hPe, (hc5 _).1]
    have h2 : ∀ (l : List UInt8), l.take 1 = Big.be 1 K → (l.getD 0 0).toNat = K := fun l h => by
      have h3 : Big.val 0 (l.take 1) = K := by rw [h, vK]
      cases l with
      | nil =>
        have := congrArg List.length h
        rw [Big.be_length] at this; cases this
      | cons c l => simpa [Big.val] using h3
    exact h2 _ h1
  unfold dec
  rw [hu, if_neg (fun h => h rfl)]
  show (if ¬ (kindOf _ = 1 ∨ kindOf _ = 2) then _ else _) = _
  rw [hkind, if_neg (not_not_intro hK), hSe, hg, if_neg (fun h => h rfl)]
  show fin K ep (padN P S) = _
  rw [hD]
  have hPl : P.length = 15 + dl K := by omega
  have ht : (P ++ List.replicate (112 * S - P.length) (0 : UInt8)).take (15 + dl K) = P := by rw [← hPl, List.take_left]
  have hdz : (P ++ List.replicate (112 * S - P.length) (0 : UInt8)).drop (15 + dl K) = List.replicate (112 * S - P.length) 0 := by
    have e : ∀ n, (P ++ List.replicate n (0 : UInt8)).drop P.length = List.replicate n 0 := fun n => List.drop_left
    rw [← hPl]; exact e _
  have hc := hc5 ((d ++ Crc.be4 (Crc.sum (head K T I N ++ d))) ++ List.replicate (112 * S - P.length) 0)
  rw [← List.append_assoc (Big.be 1 K ++ Big.be 4 T ++ Big.be 2 I ++ Big.be 4 N), ← hPe] at hc
  obtain ⟨c1, c2, c3, c4, _⟩ := hc
  have e1 : vk (P ++ List.replicate (112 * S - P.length) 0) = K := by unfold vk; rw [c1, vK]
  have e2 : vt (P ++ List.replicate (112 * S - P.length) 0) = T := by unfold vt; rw [c2, vT]
  have e3 : vi (P ++ List.replicate (112 * S - P.length) 0) = I := by unfold vi; rw [c3, vI]
  have e4 : vn (P ++ List.replicate (112 * S - P.length) 0) = N := by unfold vn; rw [c4, vN]
  have e5 : (head K T I N ++ d).drop 11 = d := by rw [← hhl, List.drop_left]
  unfold fin
  rw [ht, hPo, e1, e2, e3, e4, hdz]
  rw [if_neg (fun h => h rfl)]
  simp only [e5, hSe]
  rw [if_pos]
  refine ⟨fun c hc => (List.mem_replicate.1 hc).2, ?_⟩
  unfold check
  rw [if_pos]
  exact ⟨he, ht1, ht2, hk⟩
theorem dec_other {kd ep tx ix no : Int} {d : List UInt8} (h : Ok kd ep tx ix no d.length) (m : Int) : (dec (enc kd ep tx ix no d).2 m).err = if ¬ Ep m then 2 else if m ≠ ep then 13 else 0 := by
  by_cases hm : Ep m
  · rw [if_neg (not_not_intro hm)]
    by_cases hne : m = ep
    · subst hne
      have := enc_dec h []
      rw [List.append_nil] at this
      rw [this, if_neg (not_not_intro rfl)]
    · rw [if_pos hne]
      unfold enc
      rw [if_pos h]
      obtain ⟨he, _, _, hk⟩ := h
      have hS : 1 ≤ (secs kd).1 := by
        unfold secs
        rcases (show kd = 1 ∨ kd = 2 by omega) with rfl | rfl
        · decide
        · decide
      obtain ⟨r, hr⟩ := chunks_drop ep (payload kd.toNat tx.toNat ix.toNat no.toNat d) (secs kd).1 [] 0 (by omega)
      simp only [Nat.mul_zero, List.drop_zero, List.append_nil] at hr
      have hu := unst_other he hm hne (d := (payload kd.toNat tx.toNat ix.toNat no.toNat d).take 112) (by rw [List.length_take]; omega) r
      rw [← hr] at hu
      unfold dec
      simp only [hu]; rfl
  · rw [if_pos hm]
    unfold dec unst
    rw [if_pos hm]; rfl
theorem torn_short {b : List UInt8} {x : Int} (he : Ep x) (h : b.length < 128) : unst b x = (13, []) := by
  unfold unst; rw [if_neg (not_not_intro he), if_pos (.inl h)]
/-- Without its last byte it is torn. -/
theorem dec_short {kd ep tx ix no : Int} {d : List UInt8} (h : Ok kd ep tx ix no d.length) : (dec ((enc kd ep tx ix no d).2.take ((enc kd ep tx ix no d).2.length - 1)) ep).err = 13 := by
  have hfull := enc_dec h []
  unfold enc at hfull ⊢
  rw [if_pos h] at hfull ⊢
  obtain ⟨he, ht1, ht2, hk⟩ := h
  generalize payload kd.toNat tx.toNat ix.toNat no.toNat d = P at *
  show (dec ((chunks ep P (secs kd).1).take ((chunks ep P (secs kd).1).length - 1)) ep).err = 13
  have hfull : dec (chunks ep P (secs kd).1 ++ []) ep = ⟨0, (secs kd).1, kd, ep, tx, ix, no, d⟩ := hfull
  rw [chunks_length]
  rcases (show kd = 1 ∨ kd = 2 by omega) with rfl | rfl
  · have hs : (secs 1).1 = 5 := rfl
    rw [hs] at hfull ⊢
    have hl4 := chunks_length ep P 4
    have hst : (stamp ep ((P.drop (112 * 4)).take 112)).length = 128 := stamp_length (by rw [List.length_take]; omega)
    have hsplit : (chunks ep P 5).take (128 * 5 - 1) = chunks ep P 4 ++ (stamp ep ((P.drop (112 * 4)).take 112)).take 127 := by
      rw [chunks_succ, List.take_append, List.take_of_length_le (by omega), hl4]
    rw [hsplit]
    obtain ⟨r, hr⟩ := chunks_drop ep P 4 ((stamp ep ((P.drop (112 * 4)).take 112)).take 127) 0 (by decide)
    obtain ⟨r2, hr2⟩ := chunks_drop ep P 5 [] 0 (by decide)
    simp only [Nat.mul_zero, List.drop_zero] at hr hr2
    have hu := unst_stamp he (d := P.take 112) (by rw [List.length_take]; omega) r
    have hu2 := unst_stamp he (d := P.take 112) (by rw [List.length_take]; omega) r2
    rw [← hr] at hu
    rw [← hr2] at hu2
    have hg4 := gather_enc he P ((stamp ep ((P.drop (112 * 4)).take 112)).take 127) 4 4 (Nat.le_refl _)
    have hg5 : gather (chunks ep P 4 ++ (stamp ep ((P.drop (112 * 4)).take 112)).take 127) ep 5 = (13, []) := by
      have ht : unst ((chunks ep P 4 ++ (stamp ep ((P.drop (112 * 4)).take 112)).take 127).drop (128 * 4)) ep = (13, []) :=
        torn_short he (by rw [← hl4, List.drop_left, List.length_take]; omega)
      rw [gather_stop (by rw [hg4]) (by rw [ht]; decide), ht]
    have hkk : kindOf (P.take 112 ++ List.replicate (112 - (P.take 112).length) 0) = 1 := by
      unfold dec at hfull
      rw [hu2, if_neg (fun h => h rfl)] at hfull
      by_cases hq : ¬ (kindOf (P.take 112 ++ List.replicate (112 - (P.take 112).length) 0) = 1 ∨ kindOf (P.take 112 ++ List.replicate (112 - (P.take 112).length) 0) = 2)
      · rw [if_pos hq] at hfull; exact absurd (show (8 : Nat) = 0 from congrArg Out.err hfull) (by decide)
      · rw [if_neg hq] at hfull
        rcases Decidable.not_not.1 hq with h1 | h2
        · exact h1
        · rw [show (secs ((kindOf (P.take 112 ++ List.replicate (112 - (P.take 112).length) 0) : Nat) : Int)).1 = 1 by rw [h2]; rfl] at hfull
          split at hfull
          · exact absurd (show (0 : Nat) = 5 from congrArg Out.sec hfull) (by decide)
          · unfold fin at hfull
            split at hfull
            · exact absurd (show (0 : Nat) = 5 from congrArg Out.sec hfull) (by decide)
            · split at hfull
              · have := congrArg Out.sec hfull
                rw [h2] at this
                exact absurd (show (1 : Nat) = 5 from this) (by decide)
              · exact absurd (show (0 : Nat) = 5 from congrArg Out.sec hfull) (by decide)
    unfold dec
    rw [hu, if_neg (fun h => h rfl)]
    show (if ¬ (kindOf _ = 1 ∨ kindOf _ = 2) then _ else _ : Out).err = _
    rw [hkk, if_neg (fun h => h (.inl rfl)), show (secs ((1 : Nat) : Int)).1 = 5 from rfl, hg5, if_pos (by decide)]; rfl
  · have hs : (secs 2).1 = 1 := rfl
    rw [hs]
    have ht : unst ((chunks ep P 1).take (128 * 1 - 1)) ep = (13, []) := torn_short he (by rw [List.length_take]; omega)
    unfold dec
    rw [ht, if_pos (by decide)]; rfl
end Go.Proofs.YthpkgfpmfnijiaaDoor.Frm
