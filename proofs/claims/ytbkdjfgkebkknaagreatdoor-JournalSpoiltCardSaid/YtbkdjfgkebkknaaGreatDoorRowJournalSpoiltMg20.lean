import Derived.Test.YtbkdjfgkebkknaaGreatDoorRowJournalSpoiltMg19
import Derived.Test.YtbkdjfgkebkknaaGreatDoorRowJournalSpoiltMg7
namespace Go.Proofs.YtbkdjfgkebkknaaGreatDoor.Frm
set_option linter.unusedVariables false
set_option linter.unusedSimpArgs false
def chg (l : List UInt8) (k : Nat) (h : UInt8) : List UInt8 := l.set k (l.getD k 0 ^^^ h)
theorem chg_length (l : List UInt8) (k : Nat) (h : UInt8) : (chg l k h).length = l.length := List.length_set
theorem xor_ne {c h : UInt8} (hh : h ≠ 0) : c ^^^ h ≠ c := fun e => hh (by
  have : c ^^^ (c ^^^ h) = c ^^^ c := by rw [e]
  rwa [← UInt8.xor_assoc, UInt8.xor_self, UInt8.zero_xor] at this)
theorem chg_ne {l : List UInt8} {k : Nat} {h : UInt8} (hk : k < l.length) (hh : h ≠ 0) : chg l k h ≠ l := fun e => by
  have h1 : (chg l k h).getD k 0 = l.getD k 0 ^^^ h := by
    unfold chg
    rw [List.getD_eq_getElem?_getD, List.getElem?_set_self hk]; rfl
  rw [e] at h1
  exact xor_ne hh h1.symm
theorem chg_left {a : List UInt8} (b : List UInt8) {k : Nat} (h : UInt8) (hk : k < a.length) : chg (a ++ b) k h = chg a k h ++ b := by
  unfold chg
  rw [List.set_append_left _ _ hk]
  congr 2
  simp only [List.getD_eq_getElem?_getD, List.getElem?_append_left hk]
theorem chg_right (a : List UInt8) (b : List UInt8) {k : Nat} (h : UInt8) (hk : a.length ≤ k) : chg (a ++ b) k h = a ++ chg b (k - a.length) h := by
  unfold chg
  rw [List.set_append_right _ _ hk]
  congr 2
  simp only [List.getD_eq_getElem?_getD, List.getElem?_append_right hk]
theorem le_set (l : List UInt8) (k : Nat) (h : UInt8) (hk : k < l.length) : Crc.le (chg l k h) = Crc.le l ^^^ h.toNat * 2 ^ (8 * k) := by
  induction l generalizing k with
  | nil => cases hk
  | cons c l ih =>
    cases k with
    | zero =>
      have e : chg (c :: l) 0 h = (c ^^^ h) :: l := rfl
      rw [e]
      have h1 : ∀ d : UInt8, Crc.le (d :: l) = d.toNat + 256 * Crc.le l := fun d => rfl
      rw [h1, h1, UInt8.toNat_xor, Nat.mul_zero, Nat.pow_zero, Nat.mul_one]
      have hc := c.toNat_lt
      have hh := h.toNat_lt
      have hx : c.toNat ^^^ h.toNat < 2 ^ 8 := Nat.xor_lt_two_pow hc hh
      apply Nat.eq_of_testBit_eq
      intro i
      have e1 : ∀ m : Nat, m < 2 ^ 8 → m + 256 * Crc.le l = 2 ^ 8 * Crc.le l + m := fun m _ => by omega
      rw [e1 _ hx, e1 _ hc, Nat.testBit_xor, Nat.testBit_two_pow_mul_add _ hx, Nat.testBit_two_pow_mul_add _ hc, Nat.testBit_xor]
      split
      · rfl
      · rw [Nat.testBit_lt_two_pow (Nat.lt_of_lt_of_le hh (Nat.pow_le_pow_right (by decide) (by omega))), Bool.xor_false]
    | succ k =>
      have e : chg (c :: l) (k + 1) h = c :: chg l k h := rfl
      rw [e]
      have h1 : ∀ m : List UInt8, Crc.le (c :: m) = c.toNat + 256 * Crc.le m := fun m => rfl
      rw [h1, h1, ih k (by simpa using hk)]
      have hc := c.toNat_lt
      apply Nat.eq_of_testBit_eq
      intro i
      have e1 : ∀ m : Nat, c.toNat + 256 * m = 2 ^ 8 * m + c.toNat := fun m => by omega
      have e2 : h.toNat * 2 ^ (8 * (k + 1)) = 2 ^ 8 * (h.toNat * 2 ^ (8 * k)) := by rw [show 8 * (k + 1) = 8 + 8 * k by omega, Nat.pow_add, ← Nat.mul_assoc, Nat.mul_comm h.toNat, Nat.mul_assoc]
      rw [e1, e1, e2, Nat.testBit_xor, Nat.testBit_two_pow_mul_add _ hc, Nat.testBit_two_pow_mul_add _ hc, Nat.testBit_two_pow_mul]
      split
      · rename_i hi; simp [Nat.not_le.2 hi]
      · rename_i hi
        rw [Nat.testBit_xor, decide_eq_true (Nat.le_of_not_lt hi), Bool.true_and]
theorem opened_chg {b : List UInt8} {k : Nat} {h : UInt8} (hk : k < (Crc.sealed b).length) (hh : h ≠ 0) : (Crc.opened (chg (Crc.sealed b) k h)).1 = 12 := by
  have hsl := sealed_length b
  have hcl := chg_length (Crc.sealed b) k h
  have hh0 : h.toNat ≠ 0 := fun e => hh (UInt8.toNat_inj.1 e)
  unfold Crc.opened
  rw [if_neg (by omega), if_neg]
  intro e
  rw [hcl, hsl, Nat.add_sub_cancel] at e
  by_cases hkb : k < b.length
  · have e1 : chg (Crc.sealed b) k h = chg b k h ++ Crc.be4 (Crc.sum b) := by unfold Crc.sealed; exact chg_left _ h hkb
    have e2 : (chg (Crc.sealed b) k h).take b.length = chg b k h := by rw [e1, ← chg_length b k h, List.take_left]
    rw [e2, e1] at e
    unfold Crc.sealed at e
    have e3 := List.append_cancel_left e
    have e4 := Crc.be4_inj (Crc.sum_lt _) (Crc.sum_lt _) e3
    have hm : h.toNat < 4294967296 := Nat.lt_trans h.toNat_lt (by decide)
    have := (Crc.sum_changes (b := b) (c := chg b k h) (chg_length _ _ _) (m := h.toNat) (k := 8 * k) (by omega) hm (le_set b k h hkb)).2 hh0
    exact this e4.symm
  · have e1 : chg (Crc.sealed b) k h = b ++ chg (Crc.be4 (Crc.sum b)) (k - b.length) h := by unfold Crc.sealed; exact chg_right _ _ h (by omega)
    have e2 : (chg (Crc.sealed b) k h).take b.length = b := by rw [e1, List.take_left]
    rw [e2] at e
    exact chg_ne hk hh e.symm
theorem chg_take {l : List UInt8} {k n : Nat} (h : UInt8) (hn : n ≤ k) : (chg l k h).take n = l.take n := by
  unfold chg; rw [List.take_set, List.set_eq_of_length_le]; rw [List.length_take]; omega
theorem chg_take_lt {l : List UInt8} {k n : Nat} (h : UInt8) (hk : k < n) : (chg l k h).take n = chg (l.take n) k h := by
  unfold chg
  rw [List.take_set]
  congr 2
  simp only [List.getD_eq_getElem?_getD, List.getElem?_take, if_pos hk]
theorem chg_getD {l : List UInt8} {k i : Nat} (h : UInt8) (hi : i ≠ k) : (chg l k h).getD i 0 = l.getD i 0 := by
  unfold chg
  simp only [List.getD_eq_getElem?_getD, List.getElem?_set_ne (Ne.symm hi)]
theorem chg_self {l : List UInt8} {k : Nat} (h : UInt8) (hk : k < l.length) : (chg l k h).getD k 0 = l.getD k 0 ^^^ h := by
  unfold chg
  rw [List.getD_eq_getElem?_getD, List.getElem?_set_self hk]; rfl
theorem stamp_chg (n : Int) {m : List UInt8} (hm : m.length = 112) {a : Nat} (h1 : 8 ≤ a) (h2 : a < 120) (h : UInt8) : chg (stamp n m) a h = stamp n (chg m (a - 8) h) := by
  have h8 := Big.be_length 8 n.toNat
  unfold stamp
  rw [chg_length, hm, Nat.sub_self, List.replicate_zero, List.append_nil, List.append_nil]
  rw [List.append_assoc, chg_right _ _ h (by omega), chg_left _ h (by omega), h8, ← List.append_assoc]
theorem chunks_chg (ep : Int) (S : Nat) : ∀ (D : List UInt8), D.length = 112 * S → ∀ (j a : Nat), j < S → 8 ≤ a → a < 120 → ∀ (h : UInt8), chg (chunks ep D S) (128 * j + a) h = chunks ep (chg D (112 * j + (a - 8)) h) S := by
  induction S with
  | zero => intro D _ j a hj; omega
  | succ S ih =>
    intro D hD j a hj h1 h2 h
    have hl := chunks_length ep D S
    have hsp : D = D.take (112 * S) ++ D.drop (112 * S) := (List.take_append_drop _ _).symm
    have htl : (D.take (112 * S)).length = 112 * S := by rw [List.length_take]; omega
    have hdl : (D.drop (112 * S)).length = 112 := by rw [List.length_drop]; omega
    rw [chunks_succ, chunks_succ]
    by_cases e : j = S
    · subst e
      rw [chg_right _ _ h (by omega), hl, Nat.add_sub_cancel_left]
      have e1 : chg D (112 * j + (a - 8)) h = D.take (112 * j) ++ chg (D.drop (112 * j)) (a - 8) h := by
        have e0 := chg_right (D.take (112 * j)) (D.drop (112 * j)) (k := 112 * j + (a - 8)) h (by omega)
        rw [← hsp, htl, Nat.add_sub_cancel_left] at e0
        exact e0
      rw [e1]
      have hc : chunks ep (D.take (112 * j) ++ chg (D.drop (112 * j)) (a - 8) h) j = chunks ep D j := by
        rw [chunks_app _ _ _ _ (by omega)]
        have e2 := chunks_app ep (D.take (112 * j)) (D.drop (112 * j)) j (by omega)
        rw [← hsp] at e2; exact e2.symm
      have hd : ((D.take (112 * j) ++ chg (D.drop (112 * j)) (a - 8) h).drop (112 * j)).take 112 = chg (D.drop (112 * j)) (a - 8) h := by
        have e3 : ∀ q : List UInt8, (D.take (112 * j) ++ q).drop (112 * j) = q := fun q => by
          have := List.drop_left (l₁ := D.take (112 * j)) (l₂ := q)
          rwa [htl] at this
        rw [e3, List.take_of_length_le (by rw [chg_length]; omega)]
      rw [hc, hd, List.take_of_length_le (by omega), stamp_chg ep hdl h1 h2 h]
    · have hlt : 128 * j + a < (chunks ep D S).length := by omega
      rw [chg_left _ h hlt]
      have hDS : chunks ep D S = chunks ep (D.take (112 * S)) S := by
        have e2 := chunks_app ep (D.take (112 * S)) (D.drop (112 * S)) S (by omega)
        rw [← hsp] at e2; exact e2
      have e1 : chg D (112 * j + (a - 8)) h = chg (D.take (112 * S)) (112 * j + (a - 8)) h ++ D.drop (112 * S) := by
        have e0 := chg_left (a := D.take (112 * S)) (D.drop (112 * S)) (k := 112 * j + (a - 8)) h (by omega)
        rw [← hsp] at e0; exact e0
      rw [hDS, ih (D.take (112 * S)) htl j a (by omega) h1 h2 h, e1, chunks_app _ _ _ _ (by rw [chg_length]; omega)]
      congr 2
      have hcl : (chg (D.take (112 * S)) (112 * j + (a - 8)) h).length = 112 * S := by rw [chg_length, htl]
      have e3 := List.drop_left (l₁ := chg (D.take (112 * S)) (112 * j + (a - 8)) h) (l₂ := D.drop (112 * S))
      rw [hcl] at e3
      rw [e3]
theorem chunks_split (ep : Int) (p : List UInt8) (S : Nat) : ∀ j, j < S → ∃ r, chunks ep p S = chunks ep p j ++ (stamp ep ((p.drop (112 * j)).take 112) ++ r) := by
  induction S with
  | zero => intro j h; omega
  | succ S ih =>
    intro j h
    rw [chunks_succ]
    by_cases e : j = S
    · subst e; exact ⟨[], by rw [List.append_nil]⟩
    · obtain ⟨r, hr⟩ := ih j (by omega)
      exact ⟨r ++ stamp ep ((p.drop (112 * S)).take 112), by rw [hr]; simp only [List.append_assoc]⟩
theorem torn_chg {ep : Int} (he : Ep ep) {d : List UInt8} (hd : d.length ≤ 112) {a : Nat} (ha : a < 128) (hs : a < 8 ∨ 120 ≤ a) {h : UInt8} (hh : h ≠ 0) (r : List UInt8) : unst (chg (stamp ep d) a h ++ r) ep = (13, []) := by
  have h8 := Big.be_length 8 ep.toNat
  obtain ⟨m, hm, hst⟩ : ∃ m : List UInt8, m.length = 112 ∧ stamp ep d = Big.be 8 ep.toNat ++ (m ++ Big.be 8 ep.toNat) := ⟨d ++ List.replicate (112 - d.length) 0, by simp; omega, by unfold stamp; simp only [List.append_assoc]⟩
  rw [hst]
  unfold unst
  rw [if_neg (not_not_intro he), if_pos]
  generalize hee : Big.be 8 ep.toNat = e at *
  rcases hs with hs | hs
  · refine .inr (.inl ?_)
    rw [chg_left _ h (by omega), List.append_assoc]
    have h1 := List.take_left (l₁ := chg e a h) (l₂ := (m ++ e) ++ r)
    rw [chg_length, h8] at h1
    rw [h1]
    rw [hee]; exact chg_ne (l := e) (k := a) (by omega) hh
  · refine .inr (.inr ?_)
    have hem : (e ++ m).length = 120 := by rw [List.length_append]; omega
    rw [← List.append_assoc, chg_right _ _ h (by omega), hem, List.append_assoc]
    have h1 := List.drop_left (l₁ := e ++ m) (l₂ := chg e (a - 120) h ++ r)
    rw [hem] at h1
    rw [h1]
    have h2 := List.take_left (l₁ := chg e (a - 120) h) (l₂ := r)
    rw [chg_length, h8] at h2
    rw [h2]
    rw [hee]; exact chg_ne (l := e) (k := a - 120) (by omega) hh
theorem dec_changed {kd ep tx ix no : Int} {d : List UInt8} (hok : Ok kd ep tx ix no d.length) {k : Nat} (hk : k < (enc kd ep tx ix no d).2.length) {h : UInt8} (hh : h ≠ 0) :
    ((k % 128 < 8 ∨ 120 ≤ k % 128) → (dec (chg (enc kd ep tx ix no d).2 k h) ep).err = 13) ∧
    (k = 8 → h = 3 → kd ≠ 1 → (dec (chg (enc kd ep tx ix no d).2 k h) ep).err = 13) ∧
    (k = 8 → h ≠ 3 → (dec (chg (enc kd ep tx ix no d).2 k h) ep).err = 8) ∧
    (k ≠ 8 → 8 ≤ k % 128 → k % 128 < 120 → (dec (chg (enc kd ep tx ix no d).2 k h) ep).err = 8 ∨ (dec (chg (enc kd ep tx ix no d).2 k h) ep).err = 12) := by
  have hE : (enc kd ep tx ix no d).2 = chunks ep (payload kd.toNat tx.toNat ix.toNat no.toNat d) (secs kd).1 := by unfold enc; rw [if_pos hok]
  rw [hE] at hk ⊢
  obtain ⟨he, ht1, ht2, hkk⟩ := hok
  obtain ⟨K, rfl⟩ : ∃ K : Nat, kd = (K : Int) := ⟨kd.toNat, by omega⟩
  simp only [Int.toNat_natCast] at *
  have hK : K = 1 ∨ K = 2 := by omega
  have hL : d.length = dl K := by
    rcases hK with rfl | rfl
    · show _ = 512; omega
    · show _ = 0; omega
  obtain ⟨s1, s2, s3⟩ := secs_of hK
  have hpl := payload_length K tx.toNat ix.toNat no.toNat d
  have hPs : payload K tx.toNat ix.toNat no.toNat d = Crc.sealed (head K tx.toNat ix.toNat no.toNat ++ d) := rfl
  have hP0 : (payload K tx.toNat ix.toNat no.toNat d).getD 0 0 = UInt8.ofNat K := by
    have h1 : Big.be 1 K = [UInt8.ofNat (K / 256 ^ 0)] := rfl
    unfold payload Crc.sealed head
    rw [h1, Nat.pow_zero, Nat.div_one]; rfl
  rw [chunks_length] at hk
  have hK256 : (UInt8.ofNat K).toNat = K := by rw [UInt8.toNat_ofNat', Nat.mod_eq_of_lt]; omega
  generalize hPe : payload K tx.toNat ix.toNat no.toNat d = P at *
  have hS5 : (secs (K : Int)).1 = 5 ∧ K = 1 ∨ (secs (K : Int)).1 = 1 ∧ K = 2 := by
    rcases hK with rfl | rfl
    · exact .inl ⟨rfl, rfl⟩
    · exact .inr ⟨rfl, rfl⟩
  generalize hSe : (secs (K : Int)).1 = S at *
  have hja : k = 128 * (k / 128) + k % 128 := (Nat.div_add_mod k 128).symm
  have ha : k % 128 < 128 := Nat.mod_lt _ (by decide)
  have hj : k / 128 < S := by omega
  generalize hjd : k / 128 = j at *
  generalize hae : k % 128 = a at *
  refine ⟨fun hs => ?_, ?_⟩
  · -- a stamp is changed
    obtain ⟨r, hr⟩ := chunks_split ep P S j hj
    have hcl := chunks_length ep P j
    have hE' : chg (chunks ep P S) k h = chunks ep P j ++ (chg (stamp ep ((P.drop (112 * j)).take 112)) a h ++ r) := by
      have hsl := stamp_length (n := ep) (d := (P.drop (112 * j)).take 112) (by rw [List.length_take]; omega)
      rw [hr, chg_right _ _ h (by omega), hcl, show k - 128 * j = a by omega, chg_left _ h (by omega)]
    rw [hE']
    have ht := torn_chg he (d := (P.drop (112 * j)).take 112) (by rw [List.length_take]; omega) ha hs hh r
    have hg := gather_enc he P (chg (stamp ep ((P.drop (112 * j)).take 112)) a h ++ r) j j (Nat.le_refl _)
    have hdrop : (chunks ep P j ++ (chg (stamp ep ((P.drop (112 * j)).take 112)) a h ++ r)).drop (128 * j) = chg (stamp ep ((P.drop (112 * j)).take 112)) a h ++ r := by
      rw [← hcl, List.drop_left]
    have hg1 : gather (chunks ep P j ++ (chg (stamp ep ((P.drop (112 * j)).take 112)) a h ++ r)) ep (j + 1) = (13, []) := by
      rw [gather_stop (by rw [hg]) (by rw [hdrop, ht]; decide), hdrop, ht]
    have hgS : gather (chunks ep P j ++ (chg (stamp ep ((P.drop (112 * j)).take 112)) a h ++ r)) ep S = (13, []) := by
      rw [← hg1]; exact gather_keep (by rw [hg1]; decide) (by omega)
    by_cases hj0 : j = 0
    · subst hj0
      rw [Nat.mul_zero, List.drop_zero] at hdrop
      have hu : unst (chunks ep P 0 ++ (chg (stamp ep ((P.drop (112 * 0)).take 112)) a h ++ r)) ep = (13, []) := by rw [hdrop]; exact ht
      unfold dec
      rw [hu, if_pos (by decide)]; rfl
    · obtain ⟨r2, hr2⟩ := chunks_drop ep P j (chg (stamp ep ((P.drop (112 * j)).take 112)) a h ++ r) 0 (by omega)
      simp only [Nat.mul_zero, List.drop_zero] at hr2
      have hu := unst_stamp he (d := P.take 112) (by rw [List.length_take]; omega) r2
      rw [← hr2] at hu
      have hkind : kindOf (P.take 112 ++ List.replicate (112 - (P.take 112).length) 0) = K := by
        unfold kindOf
        have : (P.take 112 ++ List.replicate (112 - (P.take 112).length) (0 : UInt8)).getD 0 0 = P.getD 0 0 := by
          simp only [List.getD_eq_getElem?_getD]
          rw [List.getElem?_append_left (by rw [List.length_take]; omega), List.getElem?_take, if_pos (by decide)]
        rw [this, hP0, hK256]
      unfold dec
      rw [hu, if_neg (fun h => h rfl)]
      show (if ¬ (kindOf _ = 1 ∨ kindOf _ = 2) then _ else _ : Out).err = _
      rw [hkind, if_neg (not_not_intro hK), hSe, hgS, if_pos (by decide)]; rfl
  · -- the payload is changed
    have hD := padN_eq (p := P) (k := S) (by omega)
    have hDl := padN_length P S
    have hED : chunks ep P S = chunks ep (padN P S) S := by rw [hD, chunks_pad]
    have hE' : 8 ≤ a → a < 120 → chg (chunks ep P S) k h = chunks ep (chg (padN P S) (112 * j + (a - 8)) h) S := fun h1 h2 => by
      rw [hED, hja, chunks_chg ep S _ hDl j a hj h1 h2 h]
    have hD0 : (padN P S).getD 0 0 = UInt8.ofNat K := by
      rw [hD, ← hP0]
      simp only [List.getD_eq_getElem?_getD]
      rw [List.getElem?_append_left (by omega)]
    -- what the first sector and all of them give
    have hfirst : ∀ D' : List UInt8, D'.length = 112 * S → unst (chunks ep D' S) ep = (0, D'.take 112) ∧ gather (chunks ep D' S) ep S = (0, D') := fun D' hD' => by
      obtain ⟨r, hr⟩ := chunks_drop ep D' S [] 0 (by omega)
      simp only [Nat.mul_zero, List.drop_zero, List.append_nil] at hr
      have hu := unst_stamp he (d := D'.take 112) (by rw [List.length_take]; omega) r
      rw [← hr] at hu
      have h112 : (D'.take 112).length = 112 := by rw [List.length_take]; omega
      rw [h112, Nat.sub_self, List.replicate_zero, List.append_nil] at hu
      have hg := gather_enc he D' [] S S (Nat.le_refl _)
      rw [List.append_nil] at hg
      have hp : padN D' S = D' := by rw [padN_eq (by omega), hD', Nat.sub_self, List.replicate_zero, List.append_nil]
      exact ⟨hu, by rw [hg, hp]⟩
    have hkind0 : ∀ D' : List UInt8, kindOf (D'.take 112) = (D'.getD 0 0).toNat := fun D' => by
      unfold kindOf
      simp only [List.getD_eq_getElem?_getD, List.getElem?_take]
      rw [if_pos (by decide)]
    have hq0 : ∀ q, (chg (padN P S) q h).length = 112 * S := fun q => by rw [chg_length, hDl]
    refine ⟨fun h8 h3 hne => ?_, fun h8 h3 => ?_, fun h8 h1 h2 => ?_⟩
    · have hj0 : j = 0 ∧ a = 8 := by omega
      obtain ⟨rfl, rfl⟩ := hj0
      have hK2 : K = 2 := by
        rcases hK with rfl | rfl
        · exact absurd rfl hne
        · rfl
      subst hK2
      have hS1 : S = 1 := by omega
      subst hS1
      rw [hE' (by decide) (by decide)]
      obtain ⟨f1, f2⟩ := hfirst _ (hq0 (112 * 0 + (8 - 8)))
      have hk1 : kindOf ((chg (padN P 1) (112 * 0 + (8 - 8)) h).take 112) = 1 := by
        rw [hkind0, chg_self h (by rw [hDl]; decide), hD0, h3]; rfl
      have hlen := chunks_length ep (chg (padN P 1) (112 * 0 + (8 - 8)) h) 1
      have hg2 : gather (chunks ep (chg (padN P 1) (112 * 0 + (8 - 8)) h) 1) ep 2 = (13, []) := by
        have ht : unst ((chunks ep (chg (padN P 1) (112 * 0 + (8 - 8)) h) 1).drop (128 * 1)) ep = (13, []) := torn_short he (by rw [List.length_drop]; omega)
        rw [gather_stop (by rw [f2]) (by rw [ht]; decide), ht]
      have hg5 : gather (chunks ep (chg (padN P 1) (112 * 0 + (8 - 8)) h) 1) ep 5 = (13, []) := by
        rw [← hg2]; exact gather_keep (by rw [hg2]; decide) (by decide)
      unfold dec
      rw [f1, if_neg (fun h => h rfl)]
      show (if ¬ (kindOf _ = 1 ∨ kindOf _ = 2) then _ else _ : Out).err = _
      rw [hk1, if_neg (fun h => h (.inl rfl)), show (secs ((1 : Nat) : Int)).1 = 5 from rfl, hg5, if_pos (by decide)]; rfl
    · have hj0 : j = 0 ∧ a = 8 := by omega
      obtain ⟨rfl, rfl⟩ := hj0
      rw [hE' (by decide) (by decide)]
      obtain ⟨f1, f2⟩ := hfirst _ (hq0 (112 * 0 + (8 - 8)))
      have hk1 : kindOf ((chg (padN P S) (112 * 0 + (8 - 8)) h).take 112) = (UInt8.ofNat K ^^^ h).toNat := by
        rw [hkind0, chg_self h (by rw [hDl]; omega), hD0]
      have hx : ∀ c h : UInt8, (c ^^^ h).toNat = c.toNat → h = 0 := fun c h e => by
        have e1 := UInt8.toNat_inj.1 e
        exact Decidable.not_not.1 fun hh => xor_ne hh e1
      have hnot : ¬ ((UInt8.ofNat K ^^^ h).toNat = 1 ∨ (UInt8.ofNat K ^^^ h).toNat = 2) := by
        have hback : ∀ c m : UInt8, c ^^^ h = m → h = c ^^^ m := fun c m e => by rw [← e, ← UInt8.xor_assoc, UInt8.xor_self, UInt8.zero_xor]
        rcases hK with rfl | rfl
        · rintro (e | e)
          · have := hback (UInt8.ofNat 1) 1 (UInt8.toNat_inj.1 e); exact hh this
          · have := hback (UInt8.ofNat 1) 2 (UInt8.toNat_inj.1 e); exact h3 this
        · rintro (e | e)
          · have := hback (UInt8.ofNat 2) 1 (UInt8.toNat_inj.1 e); exact h3 this
          · have := hback (UInt8.ofNat 2) 2 (UInt8.toNat_inj.1 e); exact hh this
      unfold dec
      rw [f1, if_neg (fun h => h rfl)]
      show (if ¬ (kindOf _ = 1 ∨ kindOf _ = 2) then _ else _ : Out).err = _
      rw [hk1, if_pos hnot]; rfl
    · rw [hE' h1 h2]
      have hq : 112 * j + (a - 8) ≠ 0 := by omega
      have hqS : 112 * j + (a - 8) < 112 * S := by omega
      generalize 112 * j + (a - 8) = q at *
      obtain ⟨f1, f2⟩ := hfirst _ (hq0 q)
      have hk1 : kindOf ((chg (padN P S) q h).take 112) = K := by
        rw [hkind0, chg_getD h (Ne.symm hq), hD0, hK256]
      unfold dec
      rw [f1, if_neg (fun h => h rfl)]
      show (if ¬ (kindOf _ = 1 ∨ kindOf _ = 2) then _ else _ : Out).err = 8 ∨ (if ¬ (kindOf _ = 1 ∨ kindOf _ = 2) then _ else _ : Out).err = 12
      rw [hk1, if_neg (not_not_intro hK), hSe, f2, if_neg (fun h => h rfl)]
      show (fin K ep (chg (padN P S) q h)).err = 8 ∨ (fin K ep (chg (padN P S) q h)).err = 12
      have hPl : P.length = 15 + dl K := by omega
      have htP : (padN P S).take (15 + dl K) = P := by rw [hD, ← hPl, List.take_left]
      unfold fin
      by_cases hqP : q < 15 + dl K
      · right
        have h5 : (Crc.opened ((chg (padN P S) q h).take (15 + dl K))).1 = 12 := by
          rw [chg_take_lt h hqP, htP, hPs]
          exact opened_chg (by rw [← hPs]; omega) hh
        rw [if_pos (by rw [h5]; decide)]; rfl
      · left
        have h5 : (chg (padN P S) q h).take (15 + dl K) = P := by rw [chg_take h (by omega), htP]
        have h6 : (Crc.opened P).1 = 0 := by rw [hPs, opened_seal]
        rw [h5, if_neg (not_not_intro h6), if_neg]
        · rfl
        · rintro ⟨hz, _⟩
          have hz1 : (padN P S).getD q 0 = 0 := by
            rw [hD, List.getD_eq_getElem?_getD, List.getElem?_append_right (by omega), List.getElem?_replicate, if_pos (by omega)]; rfl
          have hv : (chg (padN P S) q h).getD q 0 = h := by rw [chg_self h (by rw [hDl]; exact hqS), hz1, UInt8.zero_xor]
          have hmem : (chg (padN P S) q h).getD q 0 ∈ (chg (padN P S) q h).drop (15 + dl K) := by
            have hql : q < (chg (padN P S) q h).length := by rw [hq0]; exact hqS
            rw [List.getD_eq_getElem?_getD, List.getElem?_eq_getElem hql, Option.getD_some]
            refine List.mem_iff_getElem.2 ⟨q - (15 + dl K), by rw [List.length_drop]; omega, ?_⟩
            rw [List.getElem_drop]; congr 1; omega
          have := hz _ hmem
          rw [hv] at this
          exact hh this
end Go.Proofs.YtbkdjfgkebkknaaGreatDoor.Frm
namespace Go.Proofs.YtbkdjfgkebkknaaGreatDoor.Frm
set_option linter.unusedVariables false
set_option linter.unusedSimpArgs false
theorem rep_ne {n : Int} (hn : Ep n) (c : UInt8) : List.replicate 8 c ≠ Big.be 8 n.toNat := fun e => by
  have h0 : (Big.be 8 n.toNat).getD 0 0 = UInt8.ofNat (n.toNat / 256 ^ (8 - 1 - 0)) := Big.be_get _ _ _ (by decide)
  have hz : n.toNat / 256 ^ (8 - 1 - 0) = 0 := Nat.div_eq_of_lt (by have : (256 : Nat) ^ (8 - 1 - 0) = 72057594037927936 := by decide
                                                                    omega)
  rw [hz, ← e] at h0
  have hc : c = 0 := h0
  subst hc
  have h1 := Big.val_be 8 n.toNat (ep_lt hn)
  rw [← e] at h1
  have h2 : Big.val 0 (List.replicate 8 (0 : UInt8)) = 0 := by decide
  omega
end Go.Proofs.YtbkdjfgkebkknaaGreatDoor.Frm
namespace Go.Proofs.YtbkdjfgkebkknaaGreatDoor
set_option linter.unusedVariables false
set_option linter.unusedSimpArgs false
open Go Go.RowKit
set_option maxRecDepth 100000
theorem cf_atK (K : List Int) (d : List (List UInt8)) (F : Nat → Option (List UInt8)) : ∀ m, m ≤ d.length →
    (cfold K (d, F) (dpre F m)).1.length = d.length ∧
    (∀ j, m ≤ j → (cfold K (d, F) (dpre F m)).2 j = F j ∧ (cfold K (d, F) (dpre F m)).1.getD j [] = d.getD j []) ∧
    (∀ j, j < m → (cfold K (d, F) (dpre F m)).2 j = none ∧ (F j = none → (cfold K (d, F) (dpre F m)).1.getD j [] = d.getD j []) ∧ ∀ u, F j = some u → (cfold K (d, F) (dpre F m)).1.getD j [] = u.take (keepAt K (dpre F j).length) ++ (d.getD j []).drop (keepAt K (dpre F j).length)) := by
  intro m
  induction m with
  | zero => intro _; exact ⟨rfl, fun j _ => ⟨rfl, rfl⟩, fun j hj => by omega⟩
  | succ m ih =>
    intro hm
    obtain ⟨h1, h2, h3⟩ := ih (by omega)
    cases e : F m with
    | none =>
      rw [dpre_none e]
      refine ⟨h1, fun j hj => h2 j (by omega), fun j hj => ?_⟩
      by_cases ej : j = m
      · subst ej
        have := h2 j (Nat.le_refl _)
        exact ⟨by rw [this.1, e], fun _ => this.2, fun u hu => by rw [e] at hu; cases hu⟩
      · exact h3 j (by omega)
    | some u =>
      rw [dpre_some e, cfold_snoc]
      have hm2 := h2 m (Nat.le_refl _)
      generalize cfold K (d, F) (dpre F m) = s at *
      have hl : m < s.1.length := by omega
      have hset : ∀ j, (cstep K s (dpre F m).length m).1.getD j [] = if j = m then u.take (keepAt K (dpre F m).length) ++ (d.getD m []).drop (keepAt K (dpre F m).length) else s.1.getD j [] := fun j => by
        by_cases ej : j = m
        · subst ej
          rw [if_pos rfl]
          simp only [cstep, hm2.1, e, hm2.2]
          simp [List.getD, hl]
        · rw [if_neg ej]
          simp [cstep, List.getD, List.getElem?_set_ne (Ne.symm ej)]
      have hsf : ∀ j, (cstep K s (dpre F m).length m).2 j = if j = m then none else s.2 j := fun j => rfl
      refine ⟨by rw [cstep_len]; exact h1, fun j hj => ?_, fun j hj => ?_⟩
      · rw [hset, hsf, if_neg (by omega), if_neg (by omega)]
        exact h2 j (by omega)
      · rw [hset, hsf]
        by_cases ej : j = m
        · subst ej
          rw [if_pos rfl, if_pos rfl]
          exact ⟨rfl, fun h => (by rw [e] at h; cases h), fun u' hu => by rw [e] at hu; cases hu; rfl⟩
        · rw [if_neg ej, if_neg ej]
          exact h3 j (by omega)
theorem crashK {K : List Int} (hK : keepOk K) (d : List (List UInt8)) (F : Nat → Option (List UInt8)) : (crashR K d F).1.1.length = d.length ∧ ∀ i, i < d.length →
    (crashR K d F).1.2 i = none ∧ (F i = none → (crashR K d F).1.1.getD i [] = d.getD i []) ∧ ∀ u, F i = some u → (crashR K d F).1.1.getD i [] = u.take (keepAt K (dpre F i).length) ++ (d.getD i []).drop (keepAt K (dpre F i).length) := by
  rw [crashR, if_pos hK]
  obtain ⟨h1, _, h3⟩ := cf_atK K d F d.length (Nat.le_refl _)
  rw [dpre_all] at h1 h3
  exact ⟨h1, h3⟩
end Go.Proofs.YtbkdjfgkebkknaaGreatDoor
namespace Go.Proofs.YtbkdjfgkebkknaaGreatDoor
set_option linter.unusedVariables false
set_option linter.unusedSimpArgs false
open Go Go.RowKit
set_option maxRecDepth 100000
theorem getD_l {α : Type} {X Y : List α} {k : Nat} {d : α} (h : k < X.length) : (X ++ Y).getD k d = X.getD k d := by simp [List.getD, List.getElem?_append_left h]
theorem getD_r {α : Type} {X Y : List α} {k : Nat} {d : α} (h : X.length ≤ k) : (X ++ Y).getD k d = Y.getD (k - X.length) d := by simp [List.getD, List.getElem?_append_right h]
def secV (v : DV) (k : Nat) : List UInt8 := (v.F k).getD (v.d.getD k [])
theorem secV_len {v : DV} (hw : BkWf v.d v.F) {k : Nat} (h : k < v.d.length) : (secV v k).length = 128 := by
  have := readR_at hw h
  rw [this.1] at this
  exact this.2.2
theorem rowB_sec {v : DV} (hw : BkWf v.d v.F) {a k : Nat} (h : a + k < v.d.length) : (readR v.d v.F ((a + k : Nat) : Int)).1 = secV v (a + k) := (readR_at hw h).1
theorem rowB_add {v : DV} (a k : Nat) : ∀ m, rowB v a (k + m) = rowB v a k ++ rowB v (a + k) m
  | 0 => by simp [rowB]
  | m + 1 => by rw [← Nat.add_assoc, rowB_succ, rowB_add a k m, rowB_succ, List.append_assoc, Nat.add_assoc]
def Has_ (v : DV) (a : Nat) (X : List (List UInt8)) : Prop := ∀ k, k < X.length → secV v (a + k) = X.getD k []
theorem Has_.nil (v : DV) (a : Nat) : Has_ v a [] := fun k h => by simp at h
theorem Has_.app {v : DV} {a : Nat} {X Y : List (List UInt8)} : Has_ v a (X ++ Y) ↔ Has_ v a X ∧ Has_ v (a + X.length) Y := by
  constructor
  · intro h
    refine ⟨fun k hk => ?_, fun k hk => ?_⟩
    · rw [h k (by rw [List.length_append]; omega), getD_l hk]
    · have := h (X.length + k) (by rw [List.length_append]; omega)
      rw [getD_r (by omega), Nat.add_sub_cancel_left] at this
      rw [Nat.add_assoc]; exact this
  · rintro ⟨h1, h2⟩ k hk
    rw [List.length_append] at hk
    by_cases h : k < X.length
    · rw [h1 k h, getD_l h]
    · have := h2 (k - X.length) (by omega)
      rw [getD_r (by omega), ← this]
      congr 1; omega
theorem Has_.keep {v v' : DV} {a : Nat} {X : List (List UInt8)} (h : Has_ v a X) (hk : ∀ k, a ≤ k → k < a + X.length → secV v' k = secV v k) : Has_ v' a X := fun k hl => by
  rw [hk (a + k) (by omega) (by omega)]; exact h k hl
theorem rowB_has {v : DV} (hw : BkWf v.d v.F) {a : Nat} {X : List (List UInt8)} (h : Has_ v a X) (hl : a + X.length ≤ v.d.length) : rowB v a X.length = X.flatten := by
  have key : ∀ m, m ≤ X.length → rowB v a m = (X.take m).flatten := fun m => by
    induction m with
    | zero => intro _; rfl
    | succ m ih =>
      intro hm
      have hx : X[m]? = some (X.getD m []) := by
        have : X[m]? = some (X[m]'hm) := List.getElem?_eq_getElem hm
        rw [this]; simp [List.getD, this]
      rw [rowB_succ, ih (by omega), rowB_sec hw (by omega), h m hm, List.take_add_one, hx]
      simp
  have := key X.length (Nat.le_refl _)
  rwa [List.take_length] at this
theorem pieces_flatten (b : List UInt8) : ∀ k, (pieces b k).flatten = b.take (128 * k)
  | 0 => by simp [pieces, pcl]
  | k + 1 => by
    rw [pieces_succ, List.flatten_append, pieces_flatten b k, List.flatten_singleton, ← List.take_add]
    congr 1
theorem frameP_flatten {ep : Int} {tx : Nat} {kd ix no : Int} {dt : List UInt8} (h : Frm.Ok kd ep (tx : Int) ix no dt.length) : (frameP ep tx kd ix no dt).flatten = (Frm.enc kd ep (tx : Int) ix no dt).2 := by
  rw [frameP, pieces_flatten, ← enc_len h, List.take_length]
theorem frA_at {v : DV} (hw : BkWf v.d v.F) {first n at_ : Nat} {ep : Int} {tx : Nat} {kd ix no : Int} {dt : List UInt8} (h : Frm.Ok kd ep (tx : Int) ix no dt.length) (hl : first + n ≤ v.d.length) (hf : at_ + (Frm.secs kd).1 ≤ n) (hh : Has_ v (first + at_) (frameP ep tx kd ix no dt)) :
    frA v first n ep at_ = ⟨0, (Frm.secs kd).1, kd, ep, (tx : Int), ix, no, dt⟩ := by
  have h5 := secs_le kd
  have e : min (at_ + 5) n - at_ = (Frm.secs kd).1 + (min (at_ + 5) n - at_ - (Frm.secs kd).1) := by omega
  have h1 := rowB_has hw hh (by rw [frameP_len]; omega)
  rw [frameP_len, frameP_flatten h] at h1
  rw [frA, e, rowB_add, h1]
  exact Frm.enc_dec h _
theorem unst_app {X : List UInt8} (hX : X.length = 128) (r : List UInt8) (n : Int) : (Frm.unst (X ++ r) n).1 = (Frm.unst X n).1 := by
  have h1 : (X ++ r).take 8 = X.take 8 := List.take_append_of_le_length (by omega)
  have h2 : ((X ++ r).drop 120).take 8 = (X.drop 120).take 8 := by rw [List.drop_append_of_le_length (by omega), List.take_append_of_le_length (by rw [List.length_drop]; omega)]
  have ht : Frm.Torn (X ++ r) n ↔ Frm.Torn X n := by
    unfold Frm.Torn
    rw [h1, h2, List.length_append]
    constructor
    · rintro (h | h)
      · omega
      · exact .inr h
    · rintro (h | h)
      · omega
      · exact .inr h
  rw [Frm.unst_err, Frm.unst_err]
  by_cases he : Frm.Ep n
  · rw [if_neg (not_not_intro he), if_neg (not_not_intro he)]
    by_cases h : Frm.Torn X n
    · rw [if_pos h, if_pos (ht.2 h)]
    · rw [if_neg h, if_neg (fun k => h (ht.1 k))]
  · rw [if_pos he, if_pos he]
theorem dec_unst {b : List UInt8} {n : Int} (h : (Frm.unst b n).1 ≠ 0) : (Frm.dec b n).err ≠ 0 := by
  rw [Frm.dec, if_pos h]; exact h
theorem frA_no {v : DV} (hw : BkWf v.d v.F) {first n at_ : Nat} {ep : Int} (hl : first + n ≤ v.d.length) (h : at_ < n → (Frm.unst (secV v (first + at_)) ep).1 ≠ 0) : (frA v first n ep at_).err ≠ 0 := by
  refine dec_unst ?_
  by_cases hn : at_ < n
  · have e : min (at_ + 5) n - at_ = 1 + (min (at_ + 5) n - at_ - 1) := by omega
    have e1 : rowB v (first + at_) 1 = secV v (first + at_) := by
      have := rowB_sec hw (a := first + at_) (k := 0) (by omega)
      rw [show (1 : Nat) = 0 + 1 from rfl, rowB_succ, this]; rfl
    rw [e, rowB_add, e1, unst_app (secV_len hw (by omega))]
    exact h hn
  · rw [show min (at_ + 5) n - at_ = 0 by omega]
    show (Frm.unst [] ep).1 ≠ 0
    rw [Frm.unst_err]
    split
    · decide
    · rw [if_pos (.inl (by decide))]; decide
def Clean (v : DV) (first n : Nat) (ep : Int) (a : Nat) : Prop := ∀ k, a ≤ k → k < n → (Frm.unst (secV v (first + k)) ep).1 ≠ 0
def JV.add (j : JV) (T : List Pg) : JV := j.commit (plT j.used (j.tx + 1) T) (j.used + 5 * T.length + 1)
def JV.adds (j : JV) (Ts : List (List Pg)) : JV := Ts.foldl JV.add j
def SS.of (j : JV) : SS := ⟨j.used, j.tx, j.used, j.F, -1, noG, 0⟩
def JV.new (first n : Nat) (ep : Int) : JV := ⟨first, n, ep, 0, 0, noG⟩
theorem add_first (j : JV) (T : List Pg) : (j.add T).first = j.first ∧ (j.add T).n = j.n ∧ (j.add T).ep = j.ep ∧ (j.add T).used = j.used + 5 * T.length + 1 ∧ (j.add T).tx = j.tx + 1 := ⟨rfl, rfl, rfl, rfl, rfl⟩
theorem adds_snoc (j : JV) (Ts : List (List Pg)) (T : List Pg) : j.adds (Ts ++ [T]) = (j.adds Ts).add T := by simp [JV.adds]
theorem adds_same : ∀ (Ts : List (List Pg)) (j : JV), (j.adds Ts).first = j.first ∧ (j.adds Ts).n = j.n ∧ (j.adds Ts).ep = j.ep ∧ j.used ≤ (j.adds Ts).used ∧ (j.adds Ts).tx = j.tx + Ts.length
  | [], j => ⟨rfl, rfl, rfl, Nat.le_refl _, rfl⟩
  | T :: Ts, j => by
    obtain ⟨h1, h2, h3, h4, h5⟩ := adds_same Ts (j.add T)
    obtain ⟨k1, k2, k3, k4, k5⟩ := add_first j T
    refine ⟨h1.trans k1, h2.trans k2, h3.trans k3, ?_, ?_⟩
    · show j.used ≤ ((j.add T).adds Ts).used; omega
    · show ((j.add T).adds Ts).tx = _; rw [h5, k5, List.length_cons]; omega
structure TxOk (v : DV) (j : JV) (T : List Pg) : Prop where
  ne : T ≠ []
  ok : PgOk T
  fit : j.used + 5 * T.length + 1 ≤ j.n
  has : Has_ v (j.first + j.used) (trP j.ep (j.tx + 1) T)
def LaidT (v : DV) : JV → List (List Pg) → Prop
  | _, [] => True
  | j, T :: Ts => TxOk v j T ∧ LaidT v (j.add T) Ts
theorem laid_snoc {v : DV} : ∀ {Ts : List (List Pg)} {j : JV} {T : List Pg}, LaidT v j (Ts ++ [T]) ↔ LaidT v j Ts ∧ TxOk v (j.adds Ts) T
  | [], j, T => by simp [LaidT, JV.adds]
  | U :: Ts, j, T => by
    rw [List.cons_append, LaidT, LaidT, laid_snoc, and_assoc]; rfl
theorem trP_len (ep : Int) (tx : Nat) (L : List Pg) : (trP ep tx L).length = 5 * L.length + 1 := by
  rw [trP, List.length_append, trF_len, frameP_len]; rfl
theorem LaidT.keep {v v' : DV} : ∀ {Ts : List (List Pg)} {j : JV}, LaidT v j Ts → (∀ k, j.first + j.used ≤ k → k < j.first + (j.adds Ts).used → secV v' k = secV v k) → LaidT v' j Ts
  | [], _, _, _ => trivial
  | T :: Ts, j, h, hk => by
    obtain ⟨h1, h2⟩ := h
    have ha := adds_same Ts (j.add T)
    refine ⟨⟨h1.ne, h1.ok, h1.fit, h1.has.keep fun k k1 k2 => hk k k1 ?_⟩, LaidT.keep h2 fun k k1 k2 => hk k ?_ k2⟩
    · rw [trP_len] at k2
      show k < j.first + ((j.add T).adds Ts).used
      have := (add_first j T).2.2.2.1
      omega
    · have k1' : j.first + (j.used + 5 * T.length + 1) ≤ k := k1
      omega
section
variable {v : DV} {first n : Nat} {ep : Int}
theorem scan_pages (hw : BkWf v.d v.F) (he : Frm.Ep ep) (hl : first + n ≤ v.d.length) {u tx us : Nat} {F : Nat → Option Pc} (htx : tx < 4294967295) : ∀ (M : List Pg) (i : Nat) (last : Int) (G : Nat → Option Pc) (t : SS),
    PgOk M → (∀ q ∈ M, last < q.no) → i + M.length ≤ 4096 → u + 5 * (i + M.length) ≤ n → Has_ v (first + (u + 5 * i)) (trF ep (tx + 1) i M) → Scan (frA v first n ep) ⟨u + 5 * (i + M.length), tx, us, F, M.foldl (fun _ q => q.no) last, plG u (tx + 1) i M G, i + M.length⟩ t → Scan (frA v first n ep) ⟨u + 5 * i, tx, us, F, last, G, i⟩ t
  | [], i, last, G, t, _, _, _, _, _, hs => hs
  | q :: M, i, last, G, t, hp, hlo, hi, hu, hh, hs => by
    rw [List.length_cons] at hi hu
    rw [trF] at hh
    obtain ⟨hh1, hh2⟩ := Has_.app.1 hh
    rw [frameP_len, show (Frm.secs 1).1 = 5 from rfl] at hh2
    have q0 := hp.low q (.head _)
    have q1 := hp.high q (.head _)
    have q2 := hp.len q (.head _)
    have hinc := List.pairwise_cons.1 hp.inc
    have hok : Frm.Ok 1 ep ((tx + 1 : Nat) : Int) (i : Int) q.no q.s.l.length := ⟨he, by omega, by omega, .inl ⟨rfl, by omega, by omega, q0, by omega, q2⟩⟩
    have hf := frA_at hw hok hl (at_ := u + 5 * i) (by show u + 5 * i + 5 ≤ n; omega) hh1
    refine .page _ _ ?_ ?_ ?_
    · show (frA v first n ep (u + 5 * i)).err = 0 ∧ (frA v first n ep (u + 5 * i)).tx = _
      rw [hf]; exact ⟨rfl, rfl⟩
    · show (frA v first n ep (u + 5 * i)).kd = 1 ∧ (frA v first n ep (u + 5 * i)).ix = _ ∧ last < (frA v first n ep (u + 5 * i)).no
      rw [hf]; exact ⟨rfl, rfl, hlo q (.head _)⟩
    · rw [show (SS.mk (u + 5 * i) tx us F last G i).page (frA v first n ep (SS.mk (u + 5 * i) tx us F last G i).at_) = ⟨u + 5 * (i + 1), tx, us, F, q.no, setF G q.no.toNat (some ⟨u + 5 * i, tx + 1, i⟩), i + 1⟩ by
        show (SS.mk (u + 5 * i) tx us F last G i).page (frA v first n ep (u + 5 * i)) = _
        rw [hf]; rfl]
      refine scan_pages hw he hl htx M (i + 1) q.no _ t ⟨fun x hx => hp.low x (.tail _ hx), fun x hx => hp.high x (.tail _ hx), fun x hx => hp.len x (.tail _ hx), hinc.2⟩ hinc.1 (by omega) (by omega) ?_ ?_
      · rw [show first + (u + 5 * (i + 1)) = first + (u + 5 * i) + 5 by omega]; exact hh2
      · rw [List.length_cons, List.foldl_cons, plG, show i + (M.length + 1) = i + 1 + M.length by omega] at hs
        exact hs
theorem scan_tx (hw : BkWf v.d v.F) {j : JV} (he : Frm.Ep j.ep) (hl : j.first + j.n ≤ v.d.length) (hn : j.n ≤ 4096) (htx : j.tx < 4294967295) {T : List Pg} (h : TxOk v j T) {t : SS} (hs : Scan (frA v j.first j.n j.ep) (SS.of (j.add T)) t) : Scan (frA v j.first j.n j.ep) (SS.of j) t := by
  have hf := h.fit
  obtain ⟨hh1, hh2⟩ := Has_.app.1 h.has
  rw [trF_len] at hh2
  have hpos : 0 < T.length := List.length_pos_iff.2 h.ne
  have := scan_pages hw he hl (u := j.used) (tx := j.tx) (us := j.used) (F := j.F) htx T 0 (-1) noG t h.ok (fun q hq => by have := h.ok.low q hq; omega) (by omega) (by omega) (by simpa using hh1)
  refine this ?_
  rw [Nat.zero_add]
  have hok : Frm.Ok 2 j.ep ((j.tx + 1 : Nat) : Int) 0 (T.length : Int) ([] : List UInt8).length := ⟨he, by omega, by omega, .inr ⟨rfl, rfl, by omega, by omega, rfl⟩⟩
  have hc := frA_at hw hok hl (at_ := j.used + 5 * T.length) (by show j.used + 5 * T.length + 1 ≤ j.n; omega) (by rw [← Nat.add_assoc]; exact hh2)
  refine .comm _ _ ?_ ?_ ?_
  · show (frA v j.first j.n j.ep (j.used + 5 * T.length)).err = 0 ∧ (frA v j.first j.n j.ep (j.used + 5 * T.length)).tx = _
    rw [hc]; exact ⟨rfl, rfl⟩
  · show (frA v j.first j.n j.ep (j.used + 5 * T.length)).kd = 2 ∧ 0 < T.length ∧ (frA v j.first j.n j.ep (j.used + 5 * T.length)).no = _
    rw [hc]; exact ⟨rfl, hpos, rfl⟩
  · show Scan _ (SS.comm _ (frA v j.first j.n j.ep (j.used + 5 * T.length))) t
    rw [hc]; exact hs
theorem scan_all (hw : BkWf v.d v.F) : ∀ {Ts : List (List Pg)} {j : JV} (_ : Frm.Ep j.ep) (_ : j.first + j.n ≤ v.d.length) (_ : j.n ≤ 4096) (_ : j.tx ≤ j.used) (_ : j.used ≤ j.n), LaidT v j Ts → ∀ {t : SS}, Scan (frA v j.first j.n j.ep) (SS.of (j.adds Ts)) t → Scan (frA v j.first j.n j.ep) (SS.of j) t
  | [], _, _, _, _, _, _, _, _, hs => hs
  | T :: Ts, j, he, hl, hn, h1, h2, h, t, hs => by
    have hf := h.1.fit
    refine scan_tx hw he hl hn (by omega) h.1 ?_
    exact scan_all hw (j := j.add T) he hl hn (by show j.tx + 1 ≤ j.used + 5 * T.length + 1; omega) hf h.2 hs
theorem scan_end (hw : BkWf v.d v.F) {j : JV} (hl : j.first + j.n ≤ v.d.length) (hc : Clean v j.first j.n j.ep j.used) : Scan (frA v j.first j.n j.ep) (SS.of j) (SS.of j) :=
  .stop _ fun h => frA_no hw hl (fun hn => hc j.used (Nat.le_refl _) hn) h.1.1
end
abbrev CM := Nat → Option (List UInt8)
def noC : CM := fun _ => none
def byNo (T : List Pg) (C : CM) : CM := T.foldl (fun C q => setF C q.no.toNat (some q.s.l)) C
def CM.add (C : CM) (T : List Pg) : CM := byNo T C
def CM.adds (C : CM) (Ts : List (List Pg)) : CM := Ts.foldl CM.add C
def FC (v : DV) (j : JV) (F : Nat → Option Pc) (C : CM) : Prop := ∀ k, (F k = none ∧ C k = none) ∨ ∃ q b, F k = some q ∧ C k = some b ∧ q.at_ ≤ j.n ∧ frA v j.first j.n j.ep q.at_ = ⟨0, 5, 1, j.ep, (q.tx : Int), (q.ix : Int), (k : Int), b⟩
theorem FC.zero (v : DV) (j : JV) : FC v j noG noC := fun _ => .inl ⟨rfl, rfl⟩
theorem FC.pages {v : DV} (hw : BkWf v.d v.F) {j : JV} (he : Frm.Ep j.ep) (hl : j.first + j.n ≤ v.d.length) {u tx : Nat} (htx : tx < 4294967295) : ∀ (M : List Pg) (i : Nat) (G : Nat → Option Pc) (C : CM),
    PgOk M → i + M.length ≤ 4096 → u + 5 * (i + M.length) ≤ j.n → Has_ v (j.first + (u + 5 * i)) (trF j.ep (tx + 1) i M) → FC v j G C → FC v j (plG u (tx + 1) i M G) (byNo M C)
  | [], i, G, C, _, _, _, _, h => h
  | q :: M, i, G, C, hp, hi, hu, hh, h => by
    rw [List.length_cons] at hi hu
    rw [trF] at hh
    obtain ⟨hh1, hh2⟩ := Has_.app.1 hh
    rw [frameP_len, show (Frm.secs 1).1 = 5 from rfl] at hh2
    have q0 := hp.low q (.head _)
    have q1 := hp.high q (.head _)
    have q2 := hp.len q (.head _)
    have hok : Frm.Ok 1 j.ep ((tx + 1 : Nat) : Int) (i : Int) q.no q.s.l.length := ⟨he, by omega, by omega, .inl ⟨rfl, by omega, by omega, q0, by omega, q2⟩⟩
    have hf := frA_at hw hok hl (at_ := u + 5 * i) (by show u + 5 * i + 5 ≤ j.n; omega) hh1
    refine FC.pages hw he hl htx M (i + 1) _ _ ⟨fun x hx => hp.low x (.tail _ hx), fun x hx => hp.high x (.tail _ hx), fun x hx => hp.len x (.tail _ hx), (List.pairwise_cons.1 hp.inc).2⟩ (by omega) (by omega) (by rw [show j.first + (u + 5 * (i + 1)) = j.first + (u + 5 * i) + 5 by omega]; exact hh2) fun k => ?_
    by_cases e : k = q.no.toNat
    · subst e
      refine .inr ⟨⟨u + 5 * i, tx + 1, i⟩, q.s.l, by simp [setF], by simp [setF], by show u + 5 * i ≤ j.n; omega, ?_⟩
      show frA v j.first j.n j.ep (u + 5 * i) = _
      rw [hf, show (q.no.toNat : Int) = q.no by omega]
      rfl
    · simp only [setF, if_neg e]; exact h k
theorem byNo_two (k : Nat) : ∀ (T : List Pg) (C D : CM), (∃ b, byNo T C k = some b ∧ byNo T D k = some b) ∨ (byNo T C k = C k ∧ byNo T D k = D k)
  | [], _, _ => .inr ⟨rfl, rfl⟩
  | q :: T, C, D => by
    rcases byNo_two k T (setF C q.no.toNat (some q.s.l)) (setF D q.no.toNat (some q.s.l)) with h | ⟨h1, h2⟩
    · exact .inl h
    · by_cases e : k = q.no.toNat
      · refine .inl ⟨q.s.l, ?_, ?_⟩
        · show byNo T (setF C q.no.toNat (some q.s.l)) k = _
          rw [h1, setF, if_pos e]
        · show byNo T (setF D q.no.toNat (some q.s.l)) k = _
          rw [h2, setF, if_pos e]
      · refine .inr ⟨?_, ?_⟩
        · show byNo T (setF C q.no.toNat (some q.s.l)) k = _
          rw [h1, setF, if_neg e]
        · show byNo T (setF D q.no.toNat (some q.s.l)) k = _
          rw [h2, setF, if_neg e]
theorem FC.over {v : DV} {j : JV} {F G : Nat → Option Pc} {C : CM} {T : List Pg} (h : FC v j F C) (hG : FC v j G (byNo T noC)) : FC v j (ovr F G) (byNo T C) := fun k => by
  rcases hG k with ⟨h1, h2⟩ | ⟨q, b, h1, h2, h3, h4⟩
  · rcases byNo_two k T C noC with ⟨b, _, h5⟩ | ⟨h5, _⟩
    · rw [h2] at h5; cases h5
    · rw [h5, ovr, h1]; exact h k
  · rcases byNo_two k T C noC with ⟨b', h5, h6⟩ | ⟨_, h6⟩
    · rw [h2] at h6; cases h6
      exact .inr ⟨q, b, by rw [ovr, h1], h5, h3, h4⟩
    · rw [h2] at h6; cases h6
theorem FC.all {v : DV} (hw : BkWf v.d v.F) : ∀ {Ts : List (List Pg)} {j : JV} {C : CM} (_ : Frm.Ep j.ep) (_ : j.first + j.n ≤ v.d.length) (_ : j.n ≤ 4096) (_ : j.tx ≤ j.used) (_ : j.used ≤ j.n), LaidT v j Ts → FC v j j.F C → FC v (j.adds Ts) (j.adds Ts).F (C.adds Ts)
  | [], _, _, _, _, _, _, _, _, h => h
  | T :: Ts, j, C, he, hl, hn, h1, h2, h, hc => by
    have hf := h.1.fit
    obtain ⟨hh1, _⟩ := Has_.app.1 h.1.has
    have hG : FC v j (plT j.used (j.tx + 1) T) (byNo T noC) := FC.pages hw he hl (by omega) T 0 noG noC h.1.ok (by omega) (by omega) (by simpa using hh1) (FC.zero v j)
    exact FC.all hw (j := j.add T) (C := C.add T) he hl hn (by show j.tx + 1 ≤ j.used + 5 * T.length + 1; omega) hf h.2 (hc.over hG)
theorem jget_spec {v : DV} {j : JV} {C : CM} (hd : v.down = false) (h : FC v j j.F C) (no : Int) : jget v j no = if no < 0 ∨ 4096 ≤ no then ([], false, 3) else match C no.toNat with | none => ([], false, 0) | some b => (b, true, 0) := by
  unfold jget
  by_cases hn : no < 0 ∨ 4096 ≤ no
  · rw [if_pos hn, if_pos hn]
  · rw [if_neg hn, if_neg hn, if_neg (by rw [hd]; decide)]
    rcases h no.toNat with ⟨h1, h2⟩ | ⟨q, b, h1, h2, _, h4⟩
    · simp only [h1, h2]
    · have hno : ((no.toNat : Nat) : Int) = no := by omega
      simp [h1, h2, h4, hno]
theorem FC.le {v : DV} {j : JV} {C : CM} (h : FC v j j.F C) : ∀ k q, j.F k = some q → q.at_ ≤ j.n := fun k q hk => by
  rcases h k with ⟨h1, _⟩ | ⟨q', b, h1, _, h3, _⟩
  · rw [h1] at hk; cases hk
  · rw [h1] at hk; cases hk; exact h3
theorem FC.dirty {v : DV} {j : JV} {F : Nat → Option Pc} {C : CM} (h : FC v j F C) (n : Nat) : dirtyOf n F = dirtyOf n C := by
  simp only [dirtyOf]
  congr 1
  funext k
  rcases h k with ⟨h1, h2⟩ | ⟨q, b, h1, h2, _⟩
  · rw [h1, h2]; rfl
  · rw [h1, h2]; rfl
end Go.Proofs.YtbkdjfgkebkknaaGreatDoor
namespace Go.Proofs.YtbkdjfgkebkknaaGreatDoor
set_option linter.unusedVariables false
set_option linter.unusedSimpArgs false
open Go Go.RowKit
set_option maxRecDepth 100000
structure Calm (v : DV) : Prop where
  up : v.down = false
  pl : v.pl = none
theorem jwrite_in {n i : Nat} {F : Nat → Option (List UInt8)} {x : List UInt8} (hi : i < n) (hx : x.length = 128) : writeF n F (i : Int) x = setF F i (some x) := by
  rw [writeF, if_pos ⟨bchk_lt hi, hx⟩]; rfl
theorem calm_write {v : DV} (h : Calm v) {k : Nat} (hk : k < v.d.length) {x : List UInt8} (hx : x.length = 128) : v.write (k : Int) x = ({ v with F := setF v.F k (some x), ops := v.ops + 1 }, 0) := by
  rw [write_ok h.up (writeE_ok hk hx), DV.op]
  simp only [h.pl, jwrite_in hk hx, id]
theorem BkWf.setF {d : List (List UInt8)} {F : Nat → Option (List UInt8)} (h : BkWf d F) (k : Nat) {x : List UInt8} (hx : x.length = 128) : BkWf d (setF F k (some x)) :=
  ⟨h.pos, h.le, h.len, fun j v hv => by
    unfold Go.Proofs.YtbkdjfgkebkknaaGreatDoor.setF at hv
    split at hv
    · cases hv; exact hx
    · exact h.val j v hv⟩
theorem wseq_calm : ∀ (X : List (List UInt8)) {v : DV} (a : Nat), Calm v → BkWf v.d v.F → (∀ x ∈ X, x.length = 128) → a + X.length ≤ v.d.length →
    ∃ v', wseq v a X = (v', 0) ∧ Calm v' ∧ BkWf v'.d v'.F ∧ v'.d = v.d ∧ v'.ops = v.ops + X.length ∧ v'.rd = v.rd ∧ Has_ v' a X ∧ ∀ k, (k < a ∨ a + X.length ≤ k) → v'.F k = v.F k
  | [], v, a, h, hw, _, _ => ⟨v, rfl, h, hw, rfl, rfl, rfl, Has_.nil _ _, fun _ _ => rfl⟩
  | x :: X, v, a, h, hw, hx, hl => by
    rw [List.length_cons] at hl
    have hx0 := hx x (.head _)
    have e := calm_write h (k := a) (by omega) hx0
    obtain ⟨v', h1, h2, h3, h4, h5, h6, h7, h8⟩ := wseq_calm X (v := { v with F := Go.Proofs.YtbkdjfgkebkknaaGreatDoor.setF v.F a (some x), ops := v.ops + 1 }) (a + 1) ⟨h.up, h.pl⟩ (hw.setF a hx0) (fun y hy => hx y (.tail _ hy)) (by show _ ≤ v.d.length; omega)
    refine ⟨v', ?_, h2, h3, h4, ?_, h6, fun k hk => ?_, fun k hk => ?_⟩
    · rw [wseq, e, if_pos rfl]; exact h1
    · rw [h5, List.length_cons]; show v.ops + 1 + X.length = _; omega
    · cases k with
      | zero =>
        have := h8 a (.inl (by omega))
        rw [secV, Nat.add_zero, this]
        simp [Go.Proofs.YtbkdjfgkebkknaaGreatDoor.setF]
      | succ k =>
        rw [List.length_cons] at hk
        have := h7 k (by omega)
        rw [show a + (k + 1) = a + 1 + k by omega, this]
        simp [List.getD]
    · rw [List.length_cons] at hk
      rw [h8 k (by omega)]
      show Go.Proofs.YtbkdjfgkebkknaaGreatDoor.setF v.F a (some x) k = _
      rw [Go.Proofs.YtbkdjfgkebkknaaGreatDoor.setF, if_neg (by omega)]
theorem sync_calm {v : DV} (h : Calm v) (hw : BkWf v.d v.F) : ∃ v', v.sync = (v', 0) ∧ Calm v' ∧ BkWf v'.d v'.F ∧ v'.d.length = v.d.length ∧ v'.ops = v.ops + 1 ∧ v'.rd = v.rd ∧ ∀ k, k < v.d.length → v'.F k = none ∧ v'.d.getD k [] = secV v k ∧ secV v' k = secV v k := by
  have e : v.sync = v.op DV.done := by rw [DV.sync, if_neg (by rw [h.up]; decide)]
  have e2 : v.sync = (({ v with ops := v.ops + 1 } : DV).done, 0) := by rw [e, DV.op, h.pl]
  have hc := crash_wf [128] hw
  refine ⟨_, e2, ⟨h.up, h.pl⟩, hc.1, hc.2, rfl, rfl, fun k hk => ?_⟩
  obtain ⟨c1, c2, c3⟩ := (crashK keepOne v.d v.F).2 k hk
  have hka : keepAt [128] (dpre v.F k).length = 128 := by simp [keepAt, Nat.mod_one]
  have hd2 : (crashR [128] v.d v.F).1.1.getD k [] = secV v k := by
    cases e9 : v.F k with
    | none => rw [c2 e9, secV, e9]; rfl
    | some u =>
      have hu := hw.val k u e9
      have hd := hw.len _ (blk_mem hk)
      rw [c3 u e9, hka, secV, e9, List.take_of_length_le (by omega), List.drop_eq_nil_of_le (by omega), List.append_nil]
      rfl
  refine ⟨c1, hd2, ?_⟩
  show ((crashR [128] v.d v.F).1.2 k).getD ((crashR [128] v.d v.F).1.1.getD k []) = _
  rw [c1, hd2]; rfl
theorem frameP_stamp {ep : Int} {tx : Nat} {kd ix no : Int} {dt : List UInt8} (h : Frm.Ok kd ep (tx : Int) ix no dt.length) : ∀ x ∈ frameP ep tx kd ix no dt, ∃ d : List UInt8, d.length ≤ 112 ∧ x = Frm.stamp ep d := by
  intro x hx
  simp only [frameP, pieces, pcl, List.mem_map, List.mem_range] at hx
  obtain ⟨j, hj, rfl⟩ := hx
  rw [enc_ok h]
  obtain ⟨r, hr⟩ := Frm.chunks_drop ep (Frm.payload kd.toNat (tx : Int).toNat ix.toNat no.toNat dt) (Frm.secs kd).1 [] j hj
  rw [List.append_nil] at hr
  have hd : (((Frm.payload kd.toNat (tx : Int).toNat ix.toNat no.toNat dt).drop (112 * j)).take 112).length ≤ 112 := by rw [List.length_take]; omega
  refine ⟨_, hd, ?_⟩
  simp only
  rw [hr, List.take_append_of_le_length (by rw [Frm.stamp_length hd]; exact Nat.le_refl _), List.take_of_length_le (by rw [Frm.stamp_length hd]; exact Nat.le_refl _)]
theorem trF_stamp {ep : Int} {tx : Nat} (he : Frm.Ep ep) (htx : 1 ≤ tx) (htx2 : tx ≤ 4294967295) : ∀ (M : List Pg) (i : Nat), PgOk M → i + M.length ≤ 4096 → ∀ x ∈ trF ep tx i M, ∃ d : List UInt8, d.length ≤ 112 ∧ x = Frm.stamp ep d
  | [], i, _, _, x, hx => by cases hx
  | q :: M, i, hp, hi, x, hx => by
    rw [List.length_cons] at hi
    have q0 := hp.low q (.head _)
    have q1 := hp.high q (.head _)
    have q2 := hp.len q (.head _)
    rw [trF, List.mem_append] at hx
    rcases hx with hx | hx
    · exact frameP_stamp ⟨he, by omega, by omega, .inl ⟨rfl, by omega, by omega, q0, by omega, q2⟩⟩ x hx
    · exact trF_stamp he htx htx2 M (i + 1) ⟨fun x hx => hp.low x (.tail _ hx), fun x hx => hp.high x (.tail _ hx), fun x hx => hp.len x (.tail _ hx), (List.pairwise_cons.1 hp.inc).2⟩ (by omega) x hx
theorem trP_stamp {ep : Int} {tx : Nat} (he : Frm.Ep ep) (htx : 1 ≤ tx) (htx2 : tx ≤ 4294967295) {T : List Pg} (h0 : T ≠ []) (hp : PgOk T) (hl : T.length ≤ 4096) : ∀ x ∈ trP ep tx T, ∃ d : List UInt8, d.length ≤ 112 ∧ x = Frm.stamp ep d := by
  intro x hx
  have hpos : 0 < T.length := List.length_pos_iff.2 h0
  rw [trP, List.mem_append] at hx
  rcases hx with hx | hx
  · exact trF_stamp he htx htx2 T 0 hp (by omega) x hx
  · exact frameP_stamp ⟨he, by omega, by omega, .inr ⟨rfl, rfl, by omega, by omega, rfl⟩⟩ x hx
theorem stamp_other {ep m : Int} (he : Frm.Ep ep) (hm : Frm.Ep m) (hne : m ≠ ep) {d : List UInt8} (hd : d.length ≤ 112) : (Frm.unst (Frm.stamp ep d) m).1 ≠ 0 := by
  have := Frm.unst_other he hm hne hd []
  rw [List.append_nil] at this
  rw [this]; decide
theorem getD_mem {α : Type} {X : List α} {k : Nat} {d : α} (h : k < X.length) : X.getD k d ∈ X := by
  have : X[k]? = some (X.getD k d) := by simp [List.getD, h]
  exact List.mem_of_getElem? this
structure Jok (v : DV) (j0 : JV) (Ts : List (List Pg)) : Prop where
  calm : Calm v
  wf : BkWf v.d v.F
  row : j0.first + j0.n ≤ v.d.length
  n1 : 1 ≤ j0.n
  ep : Frm.Ep j0.ep
  new : j0 = JV.new j0.first j0.n j0.ep
  laid : LaidT v j0 Ts
  fit : (j0.adds Ts).used ≤ j0.n
  tx : (j0.adds Ts).tx ≤ (j0.adds Ts).used
  clean : Clean v j0.first j0.n j0.ep (j0.adds Ts).used
theorem Jok.n_le {v : DV} {j0 : JV} {Ts : List (List Pg)} (h : Jok v j0 Ts) : j0.n ≤ 4096 := by have := h.wf.le; have := h.row; omega
theorem Jok.rd {v : DV} {j0 : JV} {Ts : List (List Pg)} (h : Jok v j0 Ts) (r : Nat) : Jok { v with rd := r } j0 Ts :=
  ⟨⟨h.calm.up, h.calm.pl⟩, h.wf, h.row, h.n1, h.ep, h.new, h.laid.keep fun _ _ _ => rfl, h.fit, h.tx, h.clean⟩
theorem Jok.scan {v : DV} {j0 : JV} {Ts : List (List Pg)} (h : Jok v j0 Ts) : Scan (frA v j0.first j0.n j0.ep) SS.start (SS.of (j0.adds Ts)) := by
  have hs := adds_same Ts j0
  have h0 : SS.of j0 = SS.start := by rw [h.new]; rfl
  have u0 : j0.used = 0 := by rw [h.new]; rfl
  have t0 : j0.tx = 0 := by rw [h.new]; rfl
  rw [← h0]
  refine scan_all h.wf h.ep h.row h.n_le (by omega) (by omega) h.laid ?_
  have := scan_end h.wf (j := j0.adds Ts) (by rw [hs.1, hs.2.1]; exact h.row) (by rw [hs.1, hs.2.1, hs.2.2.1]; exact h.clean)
  rwa [hs.1, hs.2.1, hs.2.2.1] at this
theorem Jok.fc {v : DV} {j0 : JV} {Ts : List (List Pg)} (h : Jok v j0 Ts) : FC v (j0.adds Ts) (j0.adds Ts).F (noC.adds Ts) := by
  have u0 : j0.used = 0 := by rw [h.new]; rfl
  have t0 : j0.tx = 0 := by rw [h.new]; rfl
  refine FC.all h.wf h.ep h.row h.n_le (by omega) (by omega) h.laid ?_
  have : j0.F = noG := by rw [h.new]; rfl
  rw [this]; exact FC.zero _ _
theorem japp_arg {v : DV} {j : JV} {T : List Pg} (h : pchk T ≠ 0) : japp v j T = (v, j, 2) := by rw [japp, if_pos h]
theorem japp_full {v : DV} {j : JV} {T : List Pg} (h : pchk T = 0) (hf : ¬ fitN j (T.length : Int)) : japp v j T = (v, j, 4) := by rw [japp, if_neg (not_not_intro h), if_pos hf]
theorem fitN_iff {j : JV} {k : Nat} (h : 1 ≤ k) : fitN j (k : Int) ↔ j.used + 5 * k + 1 ≤ j.n := by
  unfold fitN
  omega
theorem japp_calm {v : DV} {j : JV} {T : List Pg} (h : Calm v) (hw : BkWf v.d v.F) (he : Frm.Ep j.ep) (hl : j.first + j.n ≤ v.d.length) (htx : j.tx < 4294967295) (hc : pchk T = 0) (hf : j.used + 5 * T.length + 1 ≤ j.n) :
    ∃ v', japp v j T = (v', j.add T, 0) ∧ Calm v' ∧ BkWf v'.d v'.F ∧ v'.d.length = v.d.length ∧ v'.ops = v.ops + (5 * T.length + 2) ∧ v'.rd = v.rd ∧ Has_ v' (j.first + j.used) (trP j.ep (j.tx + 1) T) ∧
      (∀ k, k < v.d.length → (k < j.first + j.used ∨ j.first + (j.used + 5 * T.length + 1) ≤ k) → secV v' k = secV v k) ∧ ∀ k, k < v.d.length → v'.F k = none := by
  obtain ⟨h0, hp⟩ := pchk_ok hc
  have hpos : 0 < T.length := List.length_pos_iff.2 h0
  have hle := hw.le
  have htl := trP_len j.ep (j.tx + 1) T
  have hst := trP_stamp (tx := j.tx + 1) he (by omega) (by omega) h0 hp (by omega)
  obtain ⟨v1, a1, a2, a3, a4, a5, a6, a7, a8⟩ := wseq_calm (trP j.ep (j.tx + 1) T) (j.first + j.used) h hw (fun x hx => by obtain ⟨d, hd, rfl⟩ := hst x hx; exact Frm.stamp_length hd) (by rw [htl]; omega)
  obtain ⟨v2, b1, b2, b3, b4, b5, b6, b7⟩ := sync_calm a2 a3
  rw [a4] at b4 b7
  have hs : ∀ k, k < v.d.length → secV v2 k = secV v1 k := fun k hk => (b7 k hk).2.2
  refine ⟨v2, ?_, b2, b3, b4, by rw [b5, a5, htl]; omega, b6.trans a6, fun k hk => ?_, fun k hk hk2 => ?_, fun k hk => (b7 k hk).1⟩
  · rw [japp, if_neg (not_not_intro hc), if_neg (not_not_intro ((fitN_iff hpos).2 hf))]
    simp only [a1, b1]
    rw [if_neg (by simp), if_neg (by simp)]
    rfl
  · rw [htl] at hk
    rw [hs _ (by omega)]
    exact a7 k (by rw [htl]; exact hk)
  · rw [hs k hk, secV, secV, a8 k (by rw [htl]; omega), a4]
theorem Jok.append {v : DV} {j0 : JV} {Ts : List (List Pg)} (h : Jok v j0 Ts) {T : List Pg} (hc : pchk T = 0) (hf : (j0.adds Ts).used + 5 * T.length + 1 ≤ j0.n) :
    ∃ v', japp v (j0.adds Ts) T = (v', j0.adds (Ts ++ [T]), 0) ∧ Jok v' j0 (Ts ++ [T]) ∧ v'.d.length = v.d.length ∧ v'.ops = v.ops + (5 * T.length + 2) ∧ v'.rd = v.rd ∧ Has_ v' (j0.first + (j0.adds Ts).used) (trP j0.ep ((j0.adds Ts).tx + 1) T) ∧
      (∀ k, k < v.d.length → (k < j0.first + (j0.adds Ts).used ∨ j0.first + ((j0.adds Ts).used + 5 * T.length + 1) ≤ k) → secV v' k = secV v k) ∧ ∀ k, k < v.d.length → v'.F k = none := by
  obtain ⟨s1, s2, s3, s4, s5⟩ := adds_same Ts j0
  obtain ⟨h0, hp⟩ := pchk_ok hc
  have hn := h.n_le
  have htx := h.tx
  have hfit := h.fit
  obtain ⟨v', a1, a2, a3, a4, a5, a6, a7, a8, a9⟩ := japp_calm (j := j0.adds Ts) h.calm h.wf (by rw [s3]; exact h.ep) (by rw [s1, s2]; exact h.row) (by omega) hc (by rw [s2]; exact hf)
  rw [s1, s3] at a7
  rw [s1] at a8
  have hrow := h.row
  refine ⟨v', by rw [a1, adds_snoc], ?_, a4, a5, a6, a7, a8, a9⟩
  have hk : LaidT v' j0 Ts := h.laid.keep fun k k1 k2 => a8 k (by omega) (.inl k2)
  refine ⟨a2, a3, by rw [a4]; exact h.row, h.n1, h.ep, h.new, laid_snoc.2 ⟨hk, h0, hp, by rw [s2]; exact hf, by rw [s1, s3]; exact a7⟩, ?_, ?_, ?_⟩
  · rw [adds_snoc]; show (j0.adds Ts).used + 5 * T.length + 1 ≤ _; exact hf
  · rw [adds_snoc]; show (j0.adds Ts).tx + 1 ≤ (j0.adds Ts).used + 5 * T.length + 1; omega
  · intro k k1 k2
    rw [adds_snoc] at k1
    have k1' : (j0.adds Ts).used + 5 * T.length + 1 ≤ k := k1
    rw [a8 (j0.first + k) (by omega) (.inr (by omega))]
    exact h.clean k (by omega) k2
theorem Clean.over {v v' : DV} {first n : Nat} {ep m : Int} {T : List Pg} {u tx : Nat} (he : Frm.Ep ep) (hm : Frm.Ep m) (hne : m ≠ ep) (h1 : 1 ≤ tx) (h2 : tx ≤ 4294967295) (h0 : T ≠ []) (hp : PgOk T) (hl : T.length ≤ 4096) (h : Clean v first n m 0)
    (hh : Has_ v' (first + u) (trP ep tx T)) (hk : ∀ k, k < n → (k < u ∨ u + 5 * T.length + 1 ≤ k) → secV v' (first + k) = secV v (first + k)) : Clean v' first n m 0 := fun k _ kn => by
  by_cases hk2 : k < u ∨ u + 5 * T.length + 1 ≤ k
  · rw [hk k kn hk2]; exact h k (Nat.zero_le _) kn
  · have htl := trP_len ep tx T
    have := hh (k - u) (by omega)
    rw [show first + u + (k - u) = first + k by omega] at this
    rw [this]
    obtain ⟨d, hd, e⟩ := trP_stamp he h1 h2 h0 hp hl _ (getD_mem (d := []) (by omega : k - u < (trP ep tx T).length))
    rw [e]
    exact stamp_other he hm hne hd
theorem jok_new {v : DV} {first n : Nat} {ep : Int} (hc : Calm v) (hw : BkWf v.d v.F) (hr : first + n ≤ v.d.length) (hn : 1 ≤ n) (he : Frm.Ep ep) (hcl : Clean v first n ep 0) : Jok v (JV.new first n ep) [] :=
  ⟨hc, hw, hr, hn, he, rfl, trivial, Nat.zero_le _, Nat.le_refl _, hcl⟩
def zeroV (n : Nat) : DV := ⟨List.replicate n zblk, fun _ => none, false, none, 0, 0⟩
theorem zeroV_clean {n first m : Nat} {ep : Int} (he : Frm.Ep ep) (h : first + m ≤ n) : Clean (zeroV n) first m ep 0 := fun k _ kn => by
  have e : secV (zeroV n) (first + k) = zblk := by
    show (List.replicate n zblk).getD (first + k) [] = zblk
    simp [List.getD, show first + k < n by omega]
  have ht : Frm.Torn zblk ep := .inr (.inl (by
    have : zblk.take 8 = List.replicate 8 0 := by decide
    rw [this]; exact Frm.rep_ne he 0))
  rw [e, Frm.unst_err, if_neg (not_not_intro he), if_pos ht]
  decide
end Go.Proofs.YtbkdjfgkebkknaaGreatDoor
