/- What a number decodes to is a float of the format, and is encoded as that number, where it is not NaN: the plain law. -/
import Derived.Test.YtplnaajoeoiieaaDoorS6
import Derived.Test.YtplnaajoeoiieaaDoorF9
set_option linter.unusedVariables false
set_option linter.unusedSimpArgs false
namespace Go.Proofs.YtplnaajoeoiieaaDoor
open Go.RowKit

theorem two_gr {k : Int} (h1 : 2 ≤ k) (h2 : k ≤ 15) : 2 * gr k + 2 = ((2 ^ k.toNat : Nat) : Int) := by
  unfold gr
  have h : k.toNat - 1 + 1 = k.toNat := by omega
  rw [← h, Nat.pow_succ]
  have e : ((2 : Int)) ^ (k.toNat - 1) = ((2 ^ (k.toNat - 1) : Nat) : Int) := by rw [Int.natCast_pow]; rfl
  rw [show k.toNat - 1 + 1 - 1 = k.toNat - 1 by omega, e]
  omega
/-- The parts of a number. -/
theorem num_parts {k p : Int} {n : Nat} (hR : Rgt k p) (hn : (bl n : Int) ≤ k + p) : n = dB k p n * 2 ^ (p.toNat - 1) + dL p n + if dN k p n = true then 2 ^ (k.toNat + p.toNat - 1) else 0 := by
  obtain ⟨h1, h2, h3, h4⟩ := hR
  have hlt : n < 2 ^ (k.toNat + p.toNat) := (bl_le _ _).1 (by omega)
  have e1 : k.toNat + p.toNat - 1 = p.toNat - 1 + k.toNat := by omega
  have e2 : 2 ^ (k.toNat + p.toNat) = 2 * (2 ^ (p.toNat - 1) * 2 ^ k.toNat) := by rw [← Nat.pow_add, ← Nat.pow_succ']; congr 1; omega
  have hd : n / 2 ^ (p.toNat - 1 + k.toNat) = n / 2 ^ (p.toNat - 1) / 2 ^ k.toNat := by rw [Nat.pow_add, Nat.div_div_eq_div_mul]
  unfold dB dL dN
  rw [Nat.testBit_eq_decide_div_mod_eq, e1, hd, Nat.pow_add]
  rw [e2] at hlt
  have hP := Nat.two_pow_pos (p.toNat - 1)
  have hQ := Nat.two_pow_pos k.toNat
  generalize 2 ^ (p.toNat - 1) = P at *
  generalize 2 ^ k.toNat = Q at *
  have a1 := Nat.div_add_mod n P
  have a2 := Nat.div_add_mod (n / P) Q
  have hq : n / P / Q < 2 := by
    rw [Nat.div_div_eq_div_mul]
    exact Nat.div_lt_of_lt_mul (by rw [Nat.mul_comm]; omega)
  generalize n / P / Q = s at *
  generalize n / P % Q = b at *
  generalize n % P = l at *
  rcases (show s = 0 ∨ s = 1 by omega) with rfl | rfl
  · rw [if_neg (by simp)]
    rw [← a1, ← a2]
    simp [Nat.mul_comm]
  · rw [if_pos (by simp)]
    rw [← a1, ← a2]
    rw [Nat.mul_one, Nat.mul_add, Nat.mul_comm P b]
    omega
theorem bl_div_tz {n : Nat} (h : 0 < n) : bl (n / 2 ^ tz n) + tz n = bl n := by
  have h1 := tz_div n h
  have h2 : 0 < n / 2 ^ tz n := by
    have := h1.2
    generalize n / 2 ^ tz n = q at *
    omega
  have h3 := bl_mul_pow (n / 2 ^ tz n) (tz n) h2
  rw [h1.1] at h3
  omega
/-- The finite float of a number: its bits. -/
theorem dec_bits {k p : Int} {n : Nat} (hR : Rgt k p) (hb : dB k p n ≠ 2 ^ k.toNat - 1) (hz : ¬ (dB k p n = 0 ∧ dL p n = 0)) :
    InF k p (decF k p n) ∧ bitB k (decF k p n) = dB k p n ∧ bitT k p (decF k p n) = dL p n := by
  obtain ⟨h1, h2, h3, h4⟩ := hR
  have hg := gr_bd h1 h2
  have hgg := two_gr h1 h2
  have hB : dB k p n < 2 ^ k.toNat := Nat.mod_lt _ (Nat.two_pow_pos _)
  have hL : dL p n < 2 ^ (p.toNat - 1) := Nat.mod_lt _ (Nat.two_pow_pos _)
  obtain ⟨-, -, hM, hblM, -, -, -, -⟩ := dec_can h1 h2 h3 h4 hb hz
  have hF : decF k p n = ⟨1, dN k p n, dE k p n + tz (dM k p n), dM k p n / 2 ^ tz (dM k p n)⟩ := by unfold decF; rw [if_neg hb, if_neg hz]
  rw [hF]
  have hbm := bl_div_tz hM
  have hmm := (tz_div _ hM).1
  have hti : ti k p = 1 - gr k - (p - 1) := rfl
  have hle : le k = 1 - gr k := rfl
  have ht := tz_lt_bl _ hM
  unfold InF bitB bitT
  simp only
  by_cases h0 : dB k p n = 0
  · have eM : dM k p n = dL p n := by unfold dM; rw [if_pos h0]
    have eE : dE k p n = ti k p := by unfold dE; rw [if_pos h0]
    rw [eM] at hM hblM hbm hmm ht ⊢
    rw [eE]
    have hb1 : bl (dL p n) ≤ p.toNat - 1 := (bl_le _ _).2 hL
    have hs : ti k p + (tz (dL p n) : Int) + (bl (dL p n / 2 ^ tz (dL p n)) : Int) - 1 < le k := by omega
    refine ⟨fun _ => ⟨by omega, by omega, by omega⟩, ?_, ?_⟩
    · rw [if_neg (by omega), if_pos trivial, if_pos hs, h0]
    · rw [if_neg (by omega), if_pos trivial, if_pos hs, show (ti k p + (tz (dL p n) : Int) - ti k p).toNat = tz (dL p n) by omega, hmm]
  · have eM : dM k p n = dL p n + 2 ^ (p.toNat - 1) := by unfold dM; rw [if_neg h0]
    have eE : dE k p n = dB k p n - gr k - p + 1 := by unfold dE; rw [if_neg h0]
    have hbl : bl (dM k p n) = p.toNat - 1 + 1 := bl_unique (by omega) (by rw [Nat.pow_succ]; omega)
    have hs : ¬ (dE k p n + (tz (dM k p n) : Int) + (bl (dM k p n / 2 ^ tz (dM k p n)) : Int) - 1 < le k) := by omega
    refine ⟨fun _ => ⟨by omega, by omega, by omega⟩, ?_, ?_⟩
    · rw [if_neg (by omega), if_pos trivial, if_neg hs]
      omega
    · rw [if_neg (by omega), if_pos trivial, if_neg hs, show (p - (bl (dM k p n / 2 ^ tz (dM k p n)) : Int)).toNat = tz (dM k p n) by omega, hmm, show (p - 1).toNat = p.toNat - 1 by omega, eM, Nat.add_mod_right, Nat.mod_eq_of_lt hL]
theorem dec_in {k p : Int} {n : Nat} (hR : Rgt k p) : InF k p (decF k p n) := by
  by_cases hb : dB k p n = 2 ^ k.toNat - 1
  · intro h1
    unfold decF at h1
    rw [if_pos hb] at h1
    split at h1 <;> simp at h1
  · by_cases hz : dB k p n = 0 ∧ dL p n = 0
    · intro h1
      unfold decF at h1
      rw [if_neg hb, if_pos hz] at h1
      simp at h1
    · exact (dec_bits hR hb hz).1
/-- A number that is not NaN's is encoded back. -/
theorem dec_enc {k p : Int} {n : Nat} (hR : Rgt k p) (hok : (decF k p n).Ok) (hn : (bl n : Int) ≤ k + p) (h3 : (decF k p n).kind ≠ 3) : encS k p (decF k p n) = n := by
  have hin := dec_in (n := n) hR
  have hpt := num_parts hR hn
  have hneg : (decF k p n).neg = dN k p n := by
    unfold decF at h3 ⊢
    split at h3
    · split at h3
      · rename_i a b; rw [if_pos a, if_pos b]
      · simp at h3
    · rename_i a
      rw [if_neg a]
      split <;> rfl
  have hbt : bitB k (decF k p n) = dB k p n ∧ bitT k p (decF k p n) = dL p n := by
    by_cases hb : dB k p n = 2 ^ k.toNat - 1
    · unfold decF at h3 ⊢
      rw [if_pos hb] at h3 ⊢
      by_cases hl : dL p n = 0
      · rw [if_pos hl]
        exact ⟨hb.symm, hl.symm⟩
      · rw [if_neg hl] at h3
        simp at h3
    · by_cases hz : dB k p n = 0 ∧ dL p n = 0
      · unfold decF
        rw [if_neg hb, if_pos hz]
        exact ⟨hz.1.symm, hz.2.symm⟩
      · exact (dec_bits hR hb hz).2
  have hp : (p - 1).toNat = p.toNat - 1 := by omega
  unfold encS
  rw [← enc_bits hR hok hin, hbt.1, hbt.2, hneg, hp]
  exact hpt.symm
/-- The number of NaN. -/
theorem nan_enc {k p : Int} (hR : Rgt k p) : decF k p (encS k p ⟨3, false, 0, 0⟩) = ⟨3, false, 0, 0⟩ ∧ (bl (encS k p ⟨3, false, 0, 0⟩) : Int) ≤ k + p := by
  obtain ⟨h1, h2, h3, h4⟩ := hR
  have e : encS k p ⟨3, false, 0, 0⟩ = (2 ^ k.toNat - 1) * 2 ^ (p.toNat - 1) + 2 ^ (p.toNat - 2) := by
    unfold encS encM; simp
  have e1 : 2 ^ (p.toNat - 1) = 2 * 2 ^ (p.toNat - 2) := by rw [← Nat.pow_succ']; congr 1; omega
  have hQ := Nat.two_pow_pos (p.toNat - 2)
  have hK := Nat.two_pow_pos k.toNat
  rw [e]
  constructor
  · have hB : dB k p ((2 ^ k.toNat - 1) * 2 ^ (p.toNat - 1) + 2 ^ (p.toNat - 2)) = 2 ^ k.toNat - 1 := by
      unfold dB
      rw [Nat.mul_comm, Nat.mul_add_div (Nat.two_pow_pos _), Nat.div_eq_of_lt (by omega), Nat.add_zero, Nat.mod_eq_of_lt (by omega)]
    have hL : dL p ((2 ^ k.toNat - 1) * 2 ^ (p.toNat - 1) + 2 ^ (p.toNat - 2)) = 2 ^ (p.toNat - 2) := by
      unfold dL
      rw [Nat.mul_add_mod', Nat.mod_eq_of_lt (by omega)]
    unfold decF
    rw [if_pos hB, if_neg (by rw [hL]; omega)]
  · have : bl ((2 ^ k.toNat - 1) * 2 ^ (p.toNat - 1) + 2 ^ (p.toNat - 2)) ≤ k.toNat + p.toNat - 1 := (bl_le _ _).2 (by
      have e2 : 2 ^ (k.toNat + p.toNat - 1) = 2 ^ k.toNat * 2 ^ (p.toNat - 1) := by rw [← Nat.pow_add]; congr 1; omega
      rw [e2]
      obtain ⟨K, hKe⟩ : ∃ K, 2 ^ k.toNat = K + 1 := ⟨2 ^ k.toNat - 1, by omega⟩
      rw [hKe, Nat.add_sub_cancel, Nat.add_mul]
      omega)
    omega
theorem dec_nan {k p : Int} {n : Nat} (h3 : (decF k p n).kind = 3) : decF k p n = ⟨3, false, 0, 0⟩ := by
  unfold decF at h3 ⊢
  split
  · rename_i a
    rw [if_pos a] at h3
    split
    · rename_i b; rw [if_pos b] at h3; simp at h3
    · rfl
  · rename_i a
    rw [if_neg a] at h3
    split at h3 <;> simp at h3
end Go.Proofs.YtplnaajoeoiieaaDoor
