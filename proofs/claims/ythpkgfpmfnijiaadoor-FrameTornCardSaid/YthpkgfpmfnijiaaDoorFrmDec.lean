/- The plain law of what bytes are decoded to. -/
import Derived.Test.YthpkgfpmfnijiaaDoorFrmEnc
namespace Go.Proofs.YthpkgfpmfnijiaaDoor.Frm
/-- The payload of the first k sectors. -/
def gather (b : List UInt8) (n : Int) : Nat → Nat × List UInt8
  | 0 => (0, [])
  | k + 1 => if (gather b n k).1 ≠ 0 then gather b n k else if (unst (b.drop (128 * k)) n).1 ≠ 0 then ((unst (b.drop (128 * k)) n).1, []) else (0, (gather b n k).2 ++ (unst (b.drop (128 * k)) n).2)
structure Out where
  err : Nat
  sec : Nat
  kd : Int
  ep : Int
  tx : Int
  ix : Int
  no : Int
  data : List UInt8
def bad (e : Nat) : Out := ⟨e, 0, 0, 0, 0, 0, 0, []⟩
def dl (K : Nat) : Nat := if K = 1 then 512 else 0
def vk (D : List UInt8) : Nat := Big.val 0 (D.take 1)
def vt (D : List UInt8) : Nat := Big.val 0 ((D.drop 1).take 4)
def vi (D : List UInt8) : Nat := Big.val 0 ((D.drop 5).take 2)
def vn (D : List UInt8) : Nat := Big.val 0 ((D.drop 7).take 4)
def fin (K : Nat) (n : Int) (D : List UInt8) : Out :=
  if (Crc.opened (D.take (15 + dl K))).1 ≠ 0 then bad 12
  else if (∀ c ∈ D.drop (15 + dl K), c = 0) ∧ check (vk D) n (vt D) (vi D) (vn D) ((Crc.opened (D.take (15 + dl K))).2.drop 11).length = 0
    then ⟨0, (secs K).1, vk D, n, vt D, vi D, vn D, (Crc.opened (D.take (15 + dl K))).2.drop 11⟩ else bad 8
def kindOf (d : List UInt8) : Nat := (d.getD 0 0).toNat
def dec (b : List UInt8) (n : Int) : Out :=
  if (unst b n).1 ≠ 0 then bad (unst b n).1
  else if ¬ (kindOf (unst b n).2 = 1 ∨ kindOf (unst b n).2 = 2) then bad 8
  else if (gather b n (secs (kindOf (unst b n).2)).1).1 ≠ 0 then bad (gather b n (secs (kindOf (unst b n).2)).1).1
  else fin (kindOf (unst b n).2) n (gather b n (secs (kindOf (unst b n).2)).1).2
theorem unst_zero {b : List UInt8} {n : Int} (h : (unst b n).1 = 0) : Ep n ∧ 128 ≤ b.length ∧ unst b n = (0, (b.drop 8).take 112) ∧ (unst b n).2.length = 112 := by
  unfold unst at h ⊢
  by_cases he : Ep n
  · rw [if_neg (not_not_intro he)] at h ⊢
    by_cases ht : Torn b n
    · rw [if_pos ht] at h; cases h
    · have hl : 128 ≤ b.length := by
        by_cases hb : b.length < 128
        · exact absurd (.inl hb) ht
        · omega
      rw [if_neg ht]
      exact ⟨he, hl, rfl, by simp only [List.length_take, List.length_drop]; omega⟩
  · rw [if_pos he] at h; cases h
theorem gather_zero (b : List UInt8) (n : Int) : gather b n 0 = (0, []) := rfl
theorem gather_bad {b : List UInt8} {n : Int} {k : Nat} (h : (gather b n k).1 ≠ 0) : gather b n (k + 1) = gather b n k := by rw [gather, if_pos h]
theorem gather_stop {b : List UInt8} {n : Int} {k : Nat} (h : (gather b n k).1 = 0) (h2 : (unst (b.drop (128 * k)) n).1 ≠ 0) : gather b n (k + 1) = ((unst (b.drop (128 * k)) n).1, []) := by
  rw [gather, if_neg (not_not_intro h), if_pos h2]
theorem gather_step {b : List UInt8} {n : Int} {k : Nat} (h : (gather b n k).1 = 0) (h2 : (unst (b.drop (128 * k)) n).1 = 0) : gather b n (k + 1) = (0, (gather b n k).2 ++ (unst (b.drop (128 * k)) n).2) := by
  rw [gather, if_neg (not_not_intro h), if_neg (not_not_intro h2)]
theorem gather_keep {b : List UInt8} {n : Int} {k m : Nat} (h : (gather b n k).1 ≠ 0) (hm : k ≤ m) : gather b n m = gather b n k := by
  induction m with
  | zero => obtain rfl : k = 0 := by omega
            rfl
  | succ m ih =>
    by_cases e : k = m + 1
    · rw [e]
    · have := ih (by omega)
      rw [gather_bad (by rw [this]; exact h), this]
theorem dec_le (b : List UInt8) (n : Int) : (dec b n).data.length ≤ 512 := by
  unfold dec
  split
  · exact Nat.zero_le _
  · split
    · exact Nat.zero_le _
    · split
      · exact Nat.zero_le _
      · unfold fin
        split
        · exact Nat.zero_le _
        · split
          · rename_i h
            have h2 := h.2
            unfold check at h2
            split at h2
            · rename_i hk
              obtain ⟨_, _, _, hk⟩ := hk
              show (((Crc.opened _).2.drop 11).length) ≤ 512
              omega
            · cases h2
          · exact Nat.zero_le _
theorem secs_of {K : Nat} (h : K = 1 ∨ K = 2) : 1 ≤ (secs (K : Int)).1 ∧ (secs (K : Int)).1 ≤ 5 ∧ 15 + dl K ≤ 112 * (secs (K : Int)).1 := by
  rcases h with rfl | rfl <;> decide
end Go.Proofs.YthpkgfpmfnijiaaDoor.Frm
