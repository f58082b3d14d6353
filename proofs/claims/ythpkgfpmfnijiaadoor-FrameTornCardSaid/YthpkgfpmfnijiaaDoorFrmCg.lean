/- One byte of an encoding is changed: the plain law; no Go in it. -/
import Derived.Test.YthpkgfpmfnijiaaDoorFrmBk
import Derived.Test.YthpkgfpmfnijiaaDoorCrcFlip
namespace Go.Proofs.YthpkgfpmfnijiaaDoor.Frm
/-- A list whose byte k is changed. -/
def chg (l : List UInt8) (k : Nat) (h : UInt8) : List UInt8 := l.set k (l.getD k 0 ^^^ h)
theorem chg_length (l : List UInt8) (k : Nat) (h : UInt8) : (chg l k h).length = l.length := List.length_set
theorem xor_ne {c h : UInt8} (hh : h ≠ 0) : c ^^^ h ≠ c := fun e => hh (by
  have : c ^^^ (c ^^^ h) = c ^^^ c := by rw [e]
  rwa [← UInt8.xor_assoc, UInt8.xor_self, UInt8.zero_xor] at this)
theorem chg_ne {l : List UInt8} {k : Nat} {h : UInt8} (hk : k < l.length) (hh : h ≠ 0) : chg l k h ≠ l := fun e => by
  have h1 : (chg l k h).getD k 0 = l.getD k 0 ^^^ h := by
    unfold chg
    rw [List.getD_eq_getElem?_getD, List.getElem?_set_self hk]; rfl
  rw [e] at h1
  exact xor_ne hh h1.symm
theorem chg_left {a : List UInt8} (b : List UInt8) {k : Nat} (h : UInt8) (hk : k < a.length) : chg (a ++ b) k h = chg a k h ++ b := by
  unfold chg
  rw [List.set_append_left _ _ hk]
  congr 2
  simp only [List.getD_eq_getElem?_getD, List.getElem?_append_left hk]
theorem chg_right (a : List UInt8) (b : List UInt8) {k : Nat} (h : UInt8) (hk : a.length ≤ k) : chg (a ++ b) k h = a ++ chg b (k - a.length) h := by
  unfold chg
  rw [List.set_append_right _ _ hk]
  congr 2
  simp only [List.getD_eq_getElem?_getD, List.getElem?_append_right hk]
theorem le_set (l : List UInt8) (k : Nat) (h : UInt8) (hk : k < l.length) : Crc.le (chg l k h) = Crc.le l ^^^ h.toNat * 2 ^ (8 * k) := by
  induction l generalizing k with
  | nil => cases hk
  | cons c l ih =>
    cases k with
    | zero =>
      have e : chg (c :: l) 0 h = (c ^^^ h) :: l := rfl
      rw [e]
      have h1 : ∀ d : UInt8, Crc.le (d :: l) = d.toNat + 256 * Crc.le l := fun d => rfl
      rw [h1, h1, UInt8.toNat_xor, Nat.mul_zero, Nat.pow_zero, Nat.mul_one]
      have hc := c.toNat_lt
      have hh := h.toNat_lt
      have hx : c.toNat ^^^ h.toNat < 2 ^ 8 := Nat.xor_lt_two_pow hc hh
      apply Nat.eq_of_testBit_eq
      intro i
      have e1 : ∀ m : Nat, m < 2 ^ 8 → m + 256 * Crc.le l = 2 ^ 8 * Crc.le l + m := fun m _ => by omega
      rw [e1 _ hx, e1 _ hc, Nat.testBit_xor, Nat.testBit_two_pow_mul_add _ hx, Nat.testBit_two_pow_mul_add _ hc, Nat.testBit_xor]
      split
      · rfl
      · rw [Nat.testBit_lt_two_pow (Nat.lt_of_lt_of_le hh (Nat.pow_le_pow_right (by decide) (by omega))), Bool.xor_false]
    | succ k =>
      have e : chg (c :: l) (k + 1) h = c :: chg l k h := rfl
      rw [e]
      have h1 : ∀ m : List UInt8, Crc.le (c :: m) = c.toNat + 256 * Crc.le m := fun m => rfl
      rw [h1, h1, ih k (by simpa using hk)]
      have hc := c.toNat_lt
      apply Nat.eq_of_testBit_eq
      intro i
      have e1 : ∀ m : Nat, c.toNat + 256 * m = 2 ^ 8 * m + c.toNat := fun m => by omega
      have e2 : h.toNat * 2 ^ (8 * (k + 1)) = 2 ^ 8 * (h.toNat * 2 ^ (8 * k)) := by rw [show 8 * (k + 1) = 8 + 8 * k by omega, Nat.pow_add, ← Nat.mul_assoc, Nat.mul_comm h.toNat, Nat.mul_assoc]
      rw [e1, e1, e2, Nat.testBit_xor, Nat.testBit_two_pow_mul_add _ hc, Nat.testBit_two_pow_mul_add _ hc, Nat.testBit_two_pow_mul]
      split
      · rename_i hi; simp [Nat.not_le.2 hi]
      · rename_i hi
        rw [Nat.testBit_xor, decide_eq_true (Nat.le_of_not_lt hi), Bool.true_and]
/-- Sealed bytes of which one is changed are not opened. -/
theorem opened_chg {b : List UInt8} {k : Nat} {h : UInt8} (hk : k < (Crc.sealed b).length) (hh : h ≠ 0) : (Crc.opened (chg (Crc.sealed b) k h)).1 = 12 := by
  have hsl := sealed_length b
  have hcl := chg_length (Crc.sealed b) k h
  have hh0 : h.toNat ≠ 0 := fun e => hh (UInt8.toNat_inj.1 e)
  unfold Crc.opened
  rw [if_neg (by omega), if_neg]
  intro e
  rw [hcl, hsl, Nat.add_sub_cancel] at e
  by_cases hkb : k < b.length
  · have e1 : chg (Crc.sealed b) k h = chg b k h ++ Crc.be4 (Crc.sum b) := by unfold Crc.sealed; exact chg_left _ h hkb
    have e2 : (chg (Crc.sealed b) k h).take b.length = chg b k h := by rw [e1, ← chg_length b k h, List.take_left]
    rw [e2, e1] at e
    unfold Crc.sealed at e
    have e3 := List.append_cancel_left e
    have e4 := Crc.be4_inj (Crc.sum_lt _) (Crc.sum_lt _) e3
    have hm : h.toNat < 4294967296 := Nat.lt_trans h.toNat_lt (by decide)
    have := (Crc.sum_changes (b := b) (c := chg b k h) (chg_length _ _ _) (m := h.toNat) (k := 8 * k) (by omega) hm (le_set b k h hkb)).2 hh0
    exact this e4.symm
  · have e1 : chg (Crc.sealed b) k h = b ++ chg (Crc.be4 (Crc.sum b)) (k - b.length) h := by unfold Crc.sealed; exact chg_right _ _ h (by omega)
    have e2 : (chg (Crc.sealed b) k h).take b.length = b := by rw [e1, List.take_left]
    rw [e2] at e
    exact chg_ne hk hh e.symm
theorem chg_take {l : List UInt8} {k n : Nat} (h : UInt8) (hn : n ≤ k) : (chg l k h).take n = l.take n := by
  unfold chg; rw [List.take_set, List.set_eq_of_length_le]; rw [List.length_take]; omega
theorem chg_take_lt {l : List UInt8} {k n : Nat} (h : UInt8) (hk : k < n) : (chg l k h).take n = chg (l.take n) k h := by
  unfold chg
  rw [List.take_set]
  congr 2
  simp only [List.getD_eq_getElem?_getD, List.getElem?_take, if_pos hk]
theorem chg_getD {l : List UInt8} {k i : Nat} (h : UInt8) (hi : i ≠ k) : (chg l k h).getD i 0 = l.getD i 0 := by
  unfold chg
  simp only [List.getD_eq_getElem?_getD, List.getElem?_set_ne (Ne.symm hi)]
theorem chg_self {l : List UInt8} {k : Nat} (h : UInt8) (hk : k < l.length) : (chg l k h).getD k 0 = l.getD k 0 ^^^ h := by
  unfold chg
  rw [List.getD_eq_getElem?_getD, List.getElem?_set_self hk]; rfl
/-- Between the stamps. -/
theorem stamp_chg (n : Int) {m : List UInt8} (hm : m.length = 112) {a : Nat} (h1 : 8 ≤ a) (h2 : a < 120) (h : UInt8) : chg (stamp n m) a h = stamp n (chg m (a - 8) h) := by
  have h8 := Big.be_length 8 n.toNat
  unfold stamp
  rw [chg_length, hm, Nat.sub_self, List.replicate_zero, List.append_nil, List.append_nil]
  rw [List.append_assoc, chg_right _ _ h (by omega), chg_left _ h (by omega), h8, ← List.append_assoc]
theorem chunks_chg (ep : Int) (S : Nat) : ∀ (D : List UInt8), D.length = 112 * S → ∀ (j a : Nat), j < S → 8 ≤ a → a < 120 → ∀ (h : UInt8), chg (chunks ep D S) (128 * j + a) h = chunks ep (chg D (112 * j + (a - 8)) h) S := by
  induction S with
  | zero => intro D _ j a hj; omega
  | succ S ih =>
    intro D hD j a hj h1 h2 h
    have hl := chunks_length ep D S
    have hsp : D = D.take (112 * S) ++ D.drop (112 * S) := (List.take_append_drop _ _).symm
    have htl : (D.take (112 * S)).length = 112 * S := by rw [List.length_take]; omega
    have hdl : (D.drop (112 * S)).length = 112 := by rw [List.length_drop]; omega
    rw [chunks_succ, chunks_succ]
    by_cases e : j = S
    · subst e
      rw [chg_right _ _ h (by omega), hl, Nat.add_sub_cancel_left]
      have e1 : chg D (112 * j + (a - 8)) h = D.take (112 * j) ++ chg (D.drop (112 * j)) (a - 8) h := by
        have e0 := chg_right (D.take (112 * j)) (D.drop (112 * j)) (k := 112 * j + (a - 8)) h (by omega)
        rw [← hsp, htl, Nat.add_sub_cancel_left] at e0
        exact e0
      rw [e1]
      have hc : chunks ep (D.take (112 * j) ++ chg (D.drop (112 * j)) (a - 8) h) j = chunks ep D j := by
        rw [chunks_app _ _ _ _ (by omega)]
        have e2 := chunks_app ep (D.take (112 * j)) (D.drop (112 * j)) j (by omega)
        rw [← hsp] at e2; exact e2.symm
      have hd : ((D.take (112 * j) ++ chg (D.drop (112 * j)) (a - 8) h).drop (112 * j)).take 112 = chg (D.drop (112 * j)) (a - 8) h := by
        have e3 : ∀ q : List UInt8, (D.take (112 * j) ++ q).drop (112 * j) = q := fun q => by
          have := List.drop_left (l₁ := D.take (112 * j)) (l₂ := q)
          rwa [htl] at this
        rw [e3, List.take_of_length_le (by rw [chg_length]; omega)]
      rw [hc, hd, List.take_of_length_le (by omega), stamp_chg ep hdl h1 h2 h]
    · have hlt : 128 * j + a < (chunks ep D S).length := by omega
      rw [chg_left _ h hlt]
      have hDS : chunks ep D S = chunks ep (D.take (112 * S)) S := by
        have e2 := chunks_app ep (D.take (112 * S)) (D.drop (112 * S)) S (by omega)
        rw [← hsp] at e2; exact e2
      have e1 : chg D (112 * j + (a - 8)) h = chg (D.take (112 * S)) (112 * j + (a - 8)) h ++ D.drop (112 * S) := by
        have e0 := chg_left (a := D.take (112 * S)) (D.drop (112 * S)) (k := 112 * j + (a - 8)) h (by omega)
        rw [← hsp] at e0; exact e0
      rw [hDS, ih (D.take (112 * S)) htl j a (by omega) h1 h2 h, e1, chunks_app _ _ _ _ (by rw [chg_length]; omega)]
      congr 2
      have hcl : (chg (D.take (112 * S)) (112 * j + (a - 8)) h).length = 112 * S := by rw [chg_length, htl]
      have e3 := List.drop_left (l₁ := chg (D.take (112 * S)) (112 * j + (a - 8)) h) (l₂ := D.drop (112 * S))
      rw [hcl] at e3
      rw [e3]
theorem chunks_split (ep : Int) (p : List UInt8) (S : Nat) : ∀ j, j < S → ∃ r, chunks ep p S = chunks ep p j ++ (stamp ep ((p.drop (112 * j)).take 112) ++ r) := by
  induction S with
  | zero => intro j h; omega
  | succ S ih =>
    intro j h
    rw [chunks_succ]
    by_cases e : j = S
    · subst e; exact ⟨[], by rw [List.append_nil]⟩
    · obtain ⟨r, hr⟩ := ih j (by omega)
      exact ⟨r ++ stamp ep ((p.drop (112 * S)).take 112), by rw [hr]; simp only [List.append_assoc]⟩
theorem torn_chg {ep : Int} (he : Ep ep) {d : List UInt8} (hd : d.length ≤ 112) {a : Nat} (ha : a < 128) (hs : a < 8 ∨ 120 ≤ a) {h : UInt8} (hh : h ≠ 0) (r : List UInt8) : unst (chg (stamp ep d) a h ++ r) ep = (13, []) := by
  have h8 := Big.be_length 8 ep.toNat
  obtain ⟨m, hm, hst⟩ : ∃ m : List UInt8, m.length = 112 ∧ stamp ep d = Big.be 8 ep.toNat ++ (m ++ Big.be 8 ep.toNat) := ⟨d ++ List.replicate (112 - d.length) 0, by simp; omega, by unfold stamp; simp only [List.append_assoc]⟩
  rw [hst]
  unfold unst
  rw [if_neg (not_not_intro he), if_pos]
  generalize hee : Big.be 8 ep.toNat = e at *
  rcases hs with hs | hs
  · refine .inr (.inl ?_)
    rw [chg_left _ h (by omega), List.append_assoc]
    have h1 := List.take_left (l₁ := chg e a h) (l₂ := (m ++ e) ++ r)
    rw [chg_length, h8] at h1
    rw [h1]
    rw [hee]; exact chg_ne (l := e) (k := a) (by omega) hh
  · refine .inr (.inr ?_)
    have hem : (e ++ m).length = 120 := by rw [List.length_append]; omega
    rw [← List.append_assoc, chg_right _ _ h (by omega), hem, List.append_assoc]
    have h1 := List.drop_left (l₁ := e ++ m) (l₂ := chg e (a - 120) h ++ r)
    rw [hem] at h1
    rw [h1]
    have h2 := List.take_left (l₁ := chg e (a - 120) h) (l₂ := r)
    rw [chg_length, h8] at h2
    rw [h2]
    rw [hee]; exact chg_ne (l := e) (k := a - 120) (by omega) hh
/-- What an encoding is whose byte k is changed: torn where a stamp is; of a wrong form, or with a wrong sum, elsewhere. -/
theorem dec_changed {kd ep tx ix no : Int} {d : List UInt8} (hok : Ok kd ep tx ix no d.length) {k : Nat} (hk : k < (enc kd ep tx ix no d).2.length) {h : UInt8} (hh : h ≠ 0) :
    ((k % 128 < 8 ∨ 120 ≤ k % 128) → (dec (chg (enc kd ep tx ix no d).2 k h) ep).err = 13) ∧
    (k = 8 → h = 3 → kd ≠ 1 → (dec (chg (enc kd ep tx ix no d).2 k h) ep).err = 13) ∧
    (k = 8 → h ≠ 3 → (dec (chg (enc kd ep tx ix no d).2 k h) ep).err = 8) ∧
    (k ≠ 8 → 8 ≤ k % 128 → k % 128 < 120 → (dec (chg (enc kd ep tx ix no d).2 k h) ep).err = 8 ∨ (dec (chg (enc kd ep tx ix no d).2 k h) ep).err = 12) := by
  have hE : (enc kd ep tx ix no d).2 = chunks ep (payload kd.toNat tx.toNat ix.toNat no.toNat d) (secs kd).1 := by unfold enc; rw [if_pos hok]
  rw [hE] at hk ⊢
  obtain ⟨he, ht1, ht2, hkk⟩ := hok
  obtain ⟨K, rfl⟩ : ∃ K : Nat, kd = (K : Int) := ⟨kd.toNat, by omega⟩
  simp only [Int.toNat_natCast] at *
  have hK : K = 1 ∨ K = 2 := by omega
  have hL : d.length = dl K := by
    rcases hK with rfl | rfl
    · show _ = 512; omega
    · show _ = 0; omega
  obtain ⟨s1, s2, s3⟩ := secs_of hK
  have hpl := payload_length K tx.toNat ix.toNat no.toNat d
  have hPs : payload K tx.toNat ix.toNat no.toNat d = Crc.sealed (head K tx.toNat ix.toNat no.toNat ++ d) := rfl
  have hP0 : (payload K tx.toNat ix.toNat no.toNat d).getD 0 0 = UInt8.ofNat K := by
    have h1 : Big.be 1 K = [UInt8.ofNat (K / 256 ^ 0)] := rfl
    unfold payload Crc.sealed head
    rw [h1, Nat.pow_zero, Nat.div_one]; rfl
  rw [chunks_length] at hk
  have hK256 : (UInt8.ofNat K).toNat = K := by rw [UInt8.toNat_ofNat', Nat.mod_eq_of_lt]; omega
  generalize hPe : payload K tx.toNat ix.toNat no.toNat d = P at *
  have hS5 : (secs (K : Int)).1 = 5 ∧ K = 1 ∨ (secs (K : Int)).1 = 1 ∧ K = 2 := by
    rcases hK with rfl | rfl
    · exact .inl ⟨rfl, rfl⟩
    · exact .inr ⟨rfl, rfl⟩
  generalize hSe : (secs (K : Int)).1 = S at *
  have hja : k = 128 * (k / 128) + k % 128 := (Nat.div_add_mod k 128).symm
  have ha : k % 128 < 128 := Nat.mod_lt _ (by decide)
  have hj : k / 128 < S := by omega
  generalize hjd : k / 128 = j at *
  generalize hae : k % 128 = a at *
  refine ⟨fun hs => ?_, ?_⟩
  · -- a stamp is changed
    obtain ⟨r, hr⟩ := chunks_split ep P S j hj
    have hcl := chunks_length ep P j
    have hE' : chg (chunks ep P S) k h = chunks ep P j ++ (chg (stamp ep ((P.drop (112 * j)).take 112)) a h ++ r) := by
      have hsl := stamp_length (n := ep) (d := (P.drop (112 * j)).take 112) (by rw [List.length_take]; omega)
      rw [hr, chg_right _ _ h (by omega), hcl, show k - 128 * j = a by omega, chg_left _ h (by omega)]
    rw [hE']
    have ht := torn_chg he (d := (P.drop (112 * j)).take 112) (by rw [List.length_take]; omega) ha hs hh r
    have hg := gather_enc he P (chg (stamp ep ((P.drop (112 * j)).take 112)) a h ++ r) j j (Nat.le_refl _)
    have hdrop : (chunks ep P j ++ (chg (stamp ep ((P.drop (112 * j)).take 112)) a h ++ r)).drop (128 * j) = chg (stamp ep ((P.drop (112 * j)).take 112)) a h ++ r := by
      rw [← hcl, List.drop_left]
    have hg1 : gather (chunks ep P j ++ (chg (stamp ep ((P.drop (112 * j)).take 112)) a h ++ r)) ep (j + 1) = (13, []) := by
      rw [gather_stop (by rw [hg]) (by rw [hdrop, ht]; decide), hdrop, ht]
    have hgS : gather (chunks ep P j ++ (chg (stamp ep ((P.drop (112 * j)).take 112)) a h ++ r)) ep S = (13, []) := by
      rw [← hg1]; exact gather_keep (by rw [hg1]; decide) (by omega)
    by_cases hj0 : j = 0
    · subst hj0
      rw [Nat.mul_zero, List.drop_zero] at hdrop
      have hu : unst (chunks ep P 0 ++ (chg (stamp ep ((P.drop (112 * 0)).take 112)) a h ++ r)) ep = (13, []) := by rw [hdrop]; exact ht
      unfold dec
      rw [hu, if_pos (by decide)]; rfl
    · obtain ⟨r2, hr2⟩ := chunks_drop ep P j (chg (stamp ep ((P.drop (112 * j)).take 112)) a h ++ r) 0 (by omega)
      simp only [Nat.mul_zero, List.drop_zero] at hr2
      have hu := unst_stamp he (d := P.take 112) (by rw [List.length_take]; omega) r2
      rw [← hr2] at hu
      have hkind : kindOf (P.take 112 ++ List.replicate (112 - (P.take 112).length) 0) = K := by
        unfold kindOf
        have : (P.take 112 ++ List.replicate (112 - (P.take 112).length) (0 : UInt8)).getD 0 0 = P.getD 0 0 := by
          simp only [List.getD_eq_getElem?_getD]
          rw [List.getElem?_append_left (by rw [List.length_take]; omega), List.getElem?_take, if_pos (by decide)]
        rw [this, hP0, hK256]
      unfold dec
      rw [hu, if_neg (fun h => h rfl)]
      show (if ¬ (kindOf _ = 1 ∨ kindOf _ = 2) then _ else _ : Out).err = _
      rw [hkind, if_neg (not_not_intro hK), hSe, hgS, if_pos (by decide)]; rfl
  · -- the payload is changed
    have hD := padN_eq (p := P) (k := S) (by omega)
    have hDl := padN_length P S
    have hED : chunks ep P S = chunks ep (padN P S) S := by rw [hD, chunks_pad]
    have hE' : 8 ≤ a → a < 120 → chg (chunks ep P S) k h = chunks ep (chg (padN P S) (112 * j + (a - 8)) h) S := fun h1 h2 => by
      rw [hED, hja, chunks_chg ep S _ hDl j a hj h1 h2 h]
    have hD0 : (padN P S).getD 0 0 = UInt8.ofNat K := by
      rw [hD, ← hP0]
      simp only [List.getD_eq_getElem?_getD]
      rw [List.getElem?_append_left (by omega)]
    -- what the first sector and all of them give
    have hfirst : ∀ D' : List UInt8, D'.length = 112 * S → unst (chunks ep D' S) ep = (0, D'.take 112) ∧ gather (chunks ep D' S) ep S = (0, D') := fun D' hD' => by
      obtain ⟨r, hr⟩ := chunks_drop ep D' S [] 0 (by omega)
      simp only [Nat.mul_zero, List.drop_zero, List.append_nil] at hr
      have hu := unst_stamp he (d := D'.take 112) (by rw [List.length_take]; omega) r
      rw [← hr] at hu
      have h112 : (D'.take 112).length = 112 := by rw [List.length_take]; omega
      rw [h112, Nat.sub_self, List.replicate_zero, List.append_nil] at hu
      have hg := gather_enc he D' [] S S (Nat.le_refl _)
      rw [List.append_nil] at hg
      have hp : padN D' S = D' := by rw [padN_eq (by omega), hD', Nat.sub_self, List.replicate_zero, List.append_nil]
      exact ⟨hu, by rw [hg, hp]⟩
    have hkind0 : ∀ D' : List UInt8, kindOf (D'.take 112) = (D'.getD 0 0).toNat := fun D' => by
      unfold kindOf
      simp only [List.getD_eq_getElem?_getD, List.getElem?_take]
      rw [if_pos (by decide)]
    have hq0 : ∀ q, (chg (padN P S) q h).length = 112 * S := fun q => by rw [chg_length, hDl]
    refine ⟨fun h8 h3 hne => ?_, fun h8 h3 => ?_, fun h8 h1 h2 => ?_⟩
    · have hj0 : j = 0 ∧ a = 8 := by omega
      obtain ⟨rfl, rfl⟩ := hj0
      have hK2 : K = 2 := by
        rcases hK with rfl | rfl
        · exact absurd rfl hne
        · rfl
      subst hK2
      have hS1 : S = 1 := by omega
      subst hS1
      rw [hE' (by decide) (by decide)]
      obtain ⟨f1, f2⟩ := hfirst _ (hq0 (112 * 0 + (8 - 8)))
      have hk1 : kindOf ((chg (padN P 1) (112 * 0 + (8 - 8)) h).take 112) = 1 := by
        rw [hkind0, chg_self h (by rw [hDl]; decide), hD0, h3]; rfl
      have hlen := chunks_length ep (chg (padN P 1) (112 * 0 + (8 - 8)) h) 1
      have hg2 : gather (chunks ep (chg (padN P 1) (112 * 0 + (8 - 8)) h) 1) ep 2 = (13, []) := by
        have ht : unst ((chunks ep (chg (padN P 1) (112 * 0 + (8 - 8)) h) 1).drop (128 * 1)) ep = (13, []) := torn_short he (by rw [List.length_drop]; omega)
        rw [gather_stop (by rw [f2]) (by rw [ht]; decide), ht]
      have hg5 : gather (chunks ep (chg (padN P 1) (112 * 0 + (8 - 8)) h) 1) ep 5 = (13, []) := by
        rw [← hg2]; exact gather_keep (by rw [hg2]; decide) (by decide)
      unfold dec
      rw [f1, if_neg (fun h => h rfl)]
      show (if ¬ (kindOf _ = 1 ∨ kindOf _ = 2) then _ else _ : Out).err = _
      rw [hk1, if_neg (fun h => h (.inl rfl)), show (secs ((1 : Nat) : Int)).1 = 5 from rfl, hg5, if_pos (by decide)]; rfl
    · have hj0 : j = 0 ∧ a = 8 := by omega
      obtain ⟨rfl, rfl⟩ := hj0
      rw [hE' (by decide) (by decide)]
      obtain ⟨f1, f2⟩ := hfirst _ (hq0 (112 * 0 + (8 - 8)))
      have hk1 : kindOf ((chg (padN P S) (112 * 0 + (8 - 8)) h).take 112) = (UInt8.ofNat K ^^^ h).toNat := by
        rw [hkind0, chg_self h (by rw [hDl]; omega), hD0]
      have hx : ∀ c h : UInt8, (c ^^^ h).toNat = c.toNat → h = 0 := fun c h e => by
        have e1 := UInt8.toNat_inj.1 e
        exact Decidable.not_not.1 fun hh => xor_ne hh e1
      have hnot : ¬ ((UInt8.ofNat K ^^^ h).toNat = 1 ∨ (UInt8.ofNat K ^^^ h).toNat = 2) := by
        have hback : ∀ c m : UInt8, c ^^^ h = m → h = c ^^^ m := fun c m e => by rw [← e, ← UInt8.xor_assoc, UInt8.xor_self, UInt8.zero_xor]
        rcases hK with rfl | rfl
        · rintro (e | e)
          · have := hback (UInt8.ofNat 1) 1 (UInt8.toNat_inj.1 e); exact hh this
          · have := hback (UInt8.ofNat 1) 2 (UInt8.toNat_inj.1 e); exact h3 this
        · rintro (e | e)
          · have := hback (UInt8.ofNat 2) 1 (UInt8.toNat_inj.1 e); exact h3 this
          · have := hback (UInt8.ofNat 2) 2 (UInt8.toNat_inj.1 e); exact hh this
      unfold dec
      rw [f1, if_neg (fun h => h rfl)]
      show (if ¬ (kindOf _ = 1 ∨ kindOf _ = 2) then _ else _ : Out).err = _
      rw [hk1, if_pos hnot]; rfl
    · rw [hE' h1 h2]
      have hq : 112 * j + (a - 8) ≠ 0 := by omega
      have hqS : 112 * j + (a - 8) < 112 * S := by omega
      generalize 112 * j + (a - 8) = q at *
      obtain ⟨f1, f2⟩ := hfirst _ (hq0 q)
      have hk1 : kindOf ((chg (padN P S) q h).take 112) = K := by
        rw [hkind0, chg_getD h (Ne.symm hq), hD0, hK256]
      unfold dec
      rw [f1, if_neg (fun h => h rfl)]
      show (if ¬ (kindOf _ = 1 ∨ kindOf _ = 2) then _ else _ : Out).err = 8 ∨ (if ¬ (kindOf _ = 1 ∨ kindOf _ = 2) then _ else _ : Out).err = 12
      rw [hk1, if_neg (not_not_intro hK), hSe, f2, if_neg (fun h => h rfl)]
      show (fin K ep (chg (padN P S) q h)).err = 8 ∨ (fin K ep (chg (padN P S) q h)).err = 12
      have hPl : P.length = 15 + dl K := by omega
      have htP : (padN P S).take (15 + dl K) = P := by rw [hD, ← hPl, List.take_left]
      unfold fin
      by_cases hqP : q < 15 + dl K
      · right
        have h5 : (Crc.opened ((chg (padN P S) q h).take (15 + dl K))).1 = 12 := by
          rw [chg_take_lt h hqP, htP, hPs]
          exact opened_chg (by rw [← hPs]; omega) hh
        rw [if_pos (by rw [h5]; decide)]; rfl
      · left
        have h5 : (chg (padN P S) q h).take (15 + dl K) = P := by rw [chg_take h (by omega), htP]
        have h6 : (Crc.opened P).1 = 0 := by rw [hPs, opened_seal]
        rw [h5, if_neg (not_not_intro h6), if_neg]
        · rfl
        · rintro ⟨hz, _⟩
          have hz1 : (padN P S).getD q 0 = 0 := by
            rw [hD, List.getD_eq_getElem?_getD, List.getElem?_append_right (by omega), List.getElem?_replicate, if_pos (by omega)]; rfl
          have hv : (chg (padN P S) q h).getD q 0 = h := by rw [chg_self h (by rw [hDl]; exact hqS), hz1, UInt8.zero_xor]
          have hmem : (chg (padN P S) q h).getD q 0 ∈ (chg (padN P S) q h).drop (15 + dl K) := by
            have hql : q < (chg (padN P S) q h).length := by rw [hq0]; exact hqS
            rw [List.getD_eq_getElem?_getD, List.getElem?_eq_getElem hql, Option.getD_some]
            refine List.mem_iff_getElem.2 ⟨q - (15 + dl K), by rw [List.length_drop]; omega, ?_⟩
            rw [List.getElem_drop]; congr 1; omega
          have := hz _ hmem
          rw [hv] at this
          exact hh this
end Go.Proofs.YthpkgfpmfnijiaaDoor.Frm
