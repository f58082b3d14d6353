/- A sector that was not written completely: the plain law; no Go in it. -/
import Derived.Test.YthpkgfpmfnijiaaDoorFrmCg
namespace Go.Proofs.YthpkgfpmfnijiaaDoor.Frm
/-- An encoding of which sector j is torn is torn. -/
theorem dec_torn_at {kd ep tx ix no : Int} {d : List UInt8} (hok : Ok kd ep tx ix no d.length) {j : Nat} (hj : j < (secs kd).1) {X r : List UInt8} (hX : unst (X ++ r) ep = (13, [])) :
    (dec ((enc kd ep tx ix no d).2.take (128 * j) ++ (X ++ r)) ep).err = 13 := by
  have hE : (enc kd ep tx ix no d).2 = chunks ep (payload kd.toNat tx.toNat ix.toNat no.toNat d) (secs kd).1 := by unfold enc; rw [if_pos hok]
  rw [hE]
  obtain ⟨he, ht1, ht2, hkk⟩ := hok
  obtain ⟨K, rfl⟩ : ∃ K : Nat, kd = (K : Int) := ⟨kd.toNat, by omega⟩
  simp only [Int.toNat_natCast] at *
  have hK : K = 1 ∨ K = 2 := by omega
  have hL : d.length = dl K := by
    rcases hK with rfl | rfl
    · show _ = 512; omega
    · show _ = 0; omega
  obtain ⟨s1, s2, s3⟩ := secs_of hK
  have hpl := payload_length K tx.toNat ix.toNat no.toNat d
  have hP0 : (payload K tx.toNat ix.toNat no.toNat d).getD 0 0 = UInt8.ofNat K := by
    have h1 : Big.be 1 K = [UInt8.ofNat (K / 256 ^ 0)] := rfl
    unfold payload Crc.sealed head
    rw [h1, Nat.pow_zero, Nat.div_one]; rfl
  have hK256 : (UInt8.ofNat K).toNat = K := by rw [UInt8.toNat_ofNat', Nat.mod_eq_of_lt]; omega
  generalize payload K tx.toNat ix.toNat no.toNat d = P at *
  generalize hSe : (secs (K : Int)).1 = S at *
  obtain ⟨r0, hr0⟩ := chunks_split ep P S j hj
  have hcl := chunks_length ep P j
  have htk : (chunks ep P S).take (128 * j) = chunks ep P j := by rw [hr0, ← hcl, List.take_left]
  rw [htk]
  have hg := gather_enc he P (X ++ r) j j (Nat.le_refl _)
  have hdrop : (chunks ep P j ++ (X ++ r)).drop (128 * j) = X ++ r := by rw [← hcl, List.drop_left]
  have hg1 : gather (chunks ep P j ++ (X ++ r)) ep (j + 1) = (13, []) := by
    rw [gather_stop (by rw [hg]) (by rw [hdrop, hX]; decide), hdrop, hX]
  have hgS : gather (chunks ep P j ++ (X ++ r)) ep S = (13, []) := by
    rw [← hg1]; exact gather_keep (by rw [hg1]; decide) (by omega)
  by_cases hj0 : j = 0
  · subst hj0
    rw [Nat.mul_zero, List.drop_zero] at hdrop
    have hu : unst (chunks ep P 0 ++ (X ++ r)) ep = (13, []) := by rw [hdrop]; exact hX
    unfold dec
    rw [hu, if_pos (by decide)]; rfl
  · obtain ⟨r2, hr2⟩ := chunks_drop ep P j (X ++ r) 0 (by omega)
    simp only [Nat.mul_zero, List.drop_zero] at hr2
    have hu := unst_stamp he (d := P.take 112) (by rw [List.length_take]; omega) r2
    rw [← hr2] at hu
    have hkind : kindOf (P.take 112 ++ List.replicate (112 - (P.take 112).length) 0) = K := by
      unfold kindOf
      have : (P.take 112 ++ List.replicate (112 - (P.take 112).length) (0 : UInt8)).getD 0 0 = P.getD 0 0 := by
        simp only [List.getD_eq_getElem?_getD]
        rw [List.getElem?_append_left (by rw [List.length_take]; omega), List.getElem?_take, if_pos (by decide)]
      rw [this, hP0, hK256]
    unfold dec
    rw [hu, if_neg (fun h => h rfl)]
    show (if ¬ (kindOf _ = 1 ∨ kindOf _ = 2) then _ else _ : Out).err = _
    rw [hkind, if_neg (not_not_intro hK), hSe, hgS, if_pos (by decide)]; rfl
theorem be_ne {n m : Int} (hn : Ep n) (hm : Ep m) (h : n ≠ m) : Big.be 8 n.toNat ≠ Big.be 8 m.toNat := fun e => by
  have h1 := Big.val_be 8 n.toNat (ep_lt hn)
  rw [e, Big.val_be 8 m.toNat (ep_lt hm)] at h1
  omega
theorem rep_ne {n : Int} (hn : Ep n) (c : UInt8) : List.replicate 8 c ≠ Big.be 8 n.toNat := fun e => by
  have h0 : (Big.be 8 n.toNat).getD 0 0 = UInt8.ofNat (n.toNat / 256 ^ (8 - 1 - 0)) := Big.be_get _ _ _ (by decide)
  have hz : n.toNat / 256 ^ (8 - 1 - 0) = 0 := Nat.div_eq_of_lt (by have : (256 : Nat) ^ (8 - 1 - 0) = 72057594037927936 := by decide
                                                                    omega)
  rw [hz, ← e] at h0
  have hc : c = 0 := h0
  subst hc
  have h1 := Big.val_be 8 n.toNat (ep_lt hn)
  rw [← e] at h1
  have h2 : Big.val 0 (List.replicate 8 (0 : UInt8)) = 0 := by decide
  omega
/-- What stands there when only keep bytes were written. -/
def tear (old now : List UInt8) (keep : Nat) : List UInt8 := now.take keep ++ old.drop keep
theorem tear_length {old now : List UInt8} {keep : Nat} (ho : old.length = 128) (hn : now.length = 128) (hk : keep ≤ 128) : (tear old now keep).length = 128 := by
  unfold tear; rw [List.length_append, List.length_take, List.length_drop]; omega
/-- A torn sector is torn, unless it is the new one. -/
theorem tear_unst {ep : Int} (he : Ep ep) {old d : List UInt8} {keep : Nat} (ho : old.length = 128) (hd : d.length ≤ 112) (hk : keep ≤ 128) (hW : old.drop 120 ≠ Big.be 8 ep.toNat) (hne : tear old (stamp ep d) keep ≠ stamp ep d) (r : List UInt8) :
    unst (tear old (stamp ep d) keep ++ r) ep = (13, []) := by
  have hsl := stamp_length (n := ep) hd
  have htl := tear_length ho hsl hk
  have h8 := Big.be_length 8 ep.toNat
  obtain ⟨p1, _, p3⟩ := stamp_parts ep d [] hd
  rw [List.append_nil] at p1 p3
  unfold unst
  rw [if_neg (not_not_intro he), if_pos]
  refine .inr (.inr ?_)
  have e0 : ((tear old (stamp ep d) keep ++ r).drop 120).take 8 = (tear old (stamp ep d) keep).drop 120 := by
    rw [List.drop_append_of_le_length (by omega), List.take_append_of_le_length (by rw [List.length_drop]; omega), List.take_of_length_le (by rw [List.length_drop]; omega)]
  rw [e0]
  intro h
  by_cases hk2 : keep ≤ 120
  · apply hW
    rw [← h]
    unfold tear
    have hz : ((stamp ep d).take keep).drop 120 = [] := List.drop_eq_nil_of_le (by rw [List.length_take]; omega)
    rw [List.drop_append, hz, List.nil_append, List.length_take, List.drop_drop]
    congr 1; omega
  · apply hne
    have e1 : (tear old (stamp ep d) keep).take 120 = (stamp ep d).take 120 := by
      unfold tear
      rw [List.take_append_of_le_length (by rw [List.length_take]; omega), List.take_take, Nat.min_eq_left (by omega)]
    have e2 : (stamp ep d).drop 120 = Big.be 8 ep.toNat := by rw [← p3, List.take_of_length_le (by rw [List.length_drop]; omega)]
    rw [← List.take_append_drop 120 (tear old (stamp ep d) keep), e1, h, ← e2, List.take_append_drop]
end Go.Proofs.YthpkgfpmfnijiaaDoor.Frm
