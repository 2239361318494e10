/- The bits of a float: the exponent's and the rest. What a number decodes to is a float of the format, and is encoded as that number, where it is not NaN: the plain law. -/
import Derived.Test.YtlnfmngginihfaaGreatDoorT8
set_option linter.unusedVariables false
set_option linter.unusedSimpArgs false
namespace Go.Proofs.YtlnfmngginihfaaGreatDoor
open Go.RowKit

def bitB (k : Int) (f : Fl) : Nat := if f.kind = 0 then 0 else if f.kind = 1 then (if f.exp + bl f.mag - 1 < le k then 0 else (f.exp + bl f.mag - 1 + gr k).toNat) else 2 ^ k.toNat - 1
def bitT (k p : Int) (f : Fl) : Nat := if f.kind = 0 then 0 else if f.kind = 1 then (if f.exp + bl f.mag - 1 < le k then f.mag * 2 ^ (f.exp - ti k p).toNat else f.mag * 2 ^ (p - bl f.mag).toNat % 2 ^ (p - 1).toNat) else if f.kind = 3 then 2 ^ (p - 2).toNat else 0
theorem odd_pos {f : Fl} (hf : f.Ok) (h1 : f.kind = 1) : 0 < f.mag := by have := hf.odd h1; omega
theorem enc_bits {k p : Int} {f : Fl} (hR : Rgt k p) (hf : f.Ok) (hin : InF k p f) : bitB k f * 2 ^ (p - 1).toNat + bitT k p f = encM k p f := by
  obtain ⟨hk1, hk2, hp1, hp2⟩ := hR
  have e1 : (p - 1).toNat = p.toNat - 1 := by omega
  have e2 : (p - 2).toNat = p.toNat - 2 := by omega
  unfold bitB bitT encM
  rw [e1, e2]
  by_cases h0 : f.kind = 0
  · rw [if_pos h0, if_pos h0, if_pos h0]; simp
  rw [if_neg h0, if_neg h0, if_neg h0]
  by_cases h1 : f.kind = 1
  · rw [if_pos h1, if_pos h1, if_pos h1]
    obtain ⟨i1, i2, i3⟩ := hin h1
    have hm := odd_pos hf h1
    by_cases hs : f.exp + bl f.mag - 1 < le k
    · rw [if_pos hs, if_pos hs, if_pos hs]; simp
    · rw [if_neg hs, if_neg hs, if_neg hs]
      have hb1 := bl_ge hm
      have hb2 := bl_lt (n := f.mag)
      have hb3 := bl_pos hm
      have hle : le k = 1 - gr k := rfl
      have hE : (f.exp + bl f.mag - 1 + gr k).toNat = (f.exp + bl f.mag - 1 + gr k - 1).toNat + 1 := by omega
      rw [hE]
      have x1 : 2 ^ (p.toNat - 1) ≤ f.mag * 2 ^ (p - bl f.mag).toNat := by
        have : 2 ^ (p.toNat - 1) = 2 ^ (bl f.mag - 1) * 2 ^ (p - bl f.mag).toNat := by rw [← Nat.pow_add]; congr 1; omega
        rw [this]; exact Nat.mul_le_mul_right _ hb1
      have x2 : f.mag * 2 ^ (p - bl f.mag).toNat < 2 * 2 ^ (p.toNat - 1) := by
        have : 2 * 2 ^ (p.toNat - 1) = 2 ^ bl f.mag * 2 ^ (p - bl f.mag).toNat := by rw [← Nat.pow_succ', ← Nat.pow_add]; congr 1; omega
        rw [this]; exact Nat.mul_lt_mul_of_pos_right hb2 (Nat.pow_pos (by omega))
      generalize f.mag * 2 ^ (p - bl f.mag).toNat = x at *
      generalize 2 ^ (p.toNat - 1) = q at *
      have : x % q = x - q := by rw [Nat.mod_eq_sub_mod x1, Nat.mod_eq_of_lt (by omega)]
      rw [this, Nat.add_mul]
      omega
  · rw [if_neg h1, if_neg h1, if_neg h1]
theorem bitB_lt {k p : Int} {f : Fl} (hR : Rgt k p) (hf : f.Ok) (hin : InF k p f) : bitB k f < 65536 := by
  obtain ⟨hk1, hk2, hp1, hp2⟩ := hR
  have hg := gr_bd hk1 hk2
  have hlt : 2 ^ k.toNat ≤ 2 ^ 15 := Nat.pow_le_pow_right (by omega) (by omega)
  unfold bitB
  split
  · omega
  · split
    · rename_i h1
      obtain ⟨i1, i2, i3⟩ := hin h1
      split <;> omega
    · omega
theorem bitT_len {k p : Int} {f : Fl} (hR : Rgt k p) (hf : f.Ok) (hin : InF k p f) : (cn (bitT k p f)).length ≤ 5 :=
  Nat.le_trans (cn_len_mono (by rw [← enc_bits hR hf hin]; exact Nat.le_add_left _ _)) (encM_len hR hf hin)
end Go.Proofs.YtlnfmngginihfaaGreatDoor
namespace Go.Proofs.YtlnfmngginihfaaGreatDoor
open Go.RowKit

/-- The finite float of a number: its bits. -/
theorem dec_bits {k p : Int} {n : Nat} (hR : Rgt k p) (hb : dB k p n ≠ 2 ^ k.toNat - 1) (hz : ¬ (dB k p n = 0 ∧ dL p n = 0)) :
    InF k p (decF k p n) ∧ bitB k (decF k p n) = dB k p n ∧ bitT k p (decF k p n) = dL p n := by
  obtain ⟨h1, h2, h3, h4⟩ := hR
  have hg := gr_bd h1 h2
  have hgg := two_gr h1 h2
  have hB : dB k p n < 2 ^ k.toNat := Nat.mod_lt _ (Nat.two_pow_pos _)
  have hL : dL p n < 2 ^ (p.toNat - 1) := Nat.mod_lt _ (Nat.two_pow_pos _)
  obtain ⟨-, -, hM, hblM, -, -, -, -⟩ := dec_can h1 h2 h3 h4 hb hz
  have hF : decF k p n = ⟨1, dN k p n, dE k p n + tz (dM k p n), dM k p n / 2 ^ tz (dM k p n)⟩ := by unfold decF; rw [if_neg hb, if_neg hz]
  rw [hF]
  have hbm := bl_div_tz hM
  have hmm := (tz_div _ hM).1
  have hti : ti k p = 1 - gr k - (p - 1) := rfl
  have hle : le k = 1 - gr k := rfl
  have ht := tz_lt_bl _ hM
  unfold InF bitB bitT
  simp only
  by_cases h0 : dB k p n = 0
  · have eM : dM k p n = dL p n := by unfold dM; rw [if_pos h0]
    have eE : dE k p n = ti k p := by unfold dE; rw [if_pos h0]
    rw [eM] at hM hblM hbm hmm ht ⊢
    rw [eE]
    have hb1 : bl (dL p n) ≤ p.toNat - 1 := (bl_le _ _).2 hL
    have hs : ti k p + (tz (dL p n) : Int) + (bl (dL p n / 2 ^ tz (dL p n)) : Int) - 1 < le k := by omega
    refine ⟨fun _ => ⟨by omega, by omega, by omega⟩, ?_, ?_⟩
    · rw [if_neg (by omega), if_pos trivial, if_pos hs, h0]
    · rw [if_neg (by omega), if_pos trivial, if_pos hs, show (ti k p + (tz (dL p n) : Int) - ti k p).toNat = tz (dL p n) by omega, hmm]
  · have eM : dM k p n = dL p n + 2 ^ (p.toNat - 1) := by unfold dM; rw [if_neg h0]
    have eE : dE k p n = dB k p n - gr k - p + 1 := by unfold dE; rw [if_neg h0]
    have hbl : bl (dM k p n) = p.toNat - 1 + 1 := bl_unique (by omega) (by rw [Nat.pow_succ]; omega)
    have hs : ¬ (dE k p n + (tz (dM k p n) : Int) + (bl (dM k p n / 2 ^ tz (dM k p n)) : Int) - 1 < le k) := by omega
    refine ⟨fun _ => ⟨by omega, by omega, by omega⟩, ?_, ?_⟩
    · rw [if_neg (by omega), if_pos trivial, if_neg hs]
      omega
    · rw [if_neg (by omega), if_pos trivial, if_neg hs, show (p - (bl (dM k p n / 2 ^ tz (dM k p n)) : Int)).toNat = tz (dM k p n) by omega, hmm, show (p - 1).toNat = p.toNat - 1 by omega, eM, Nat.add_mod_right, Nat.mod_eq_of_lt hL]
theorem dec_in {k p : Int} {n : Nat} (hR : Rgt k p) : InF k p (decF k p n) := by
  by_cases hb : dB k p n = 2 ^ k.toNat - 1
  · intro h1
    unfold decF at h1
    rw [if_pos hb] at h1
    split at h1 <;> simp at h1
  · by_cases hz : dB k p n = 0 ∧ dL p n = 0
    · intro h1
      unfold decF at h1
      rw [if_neg hb, if_pos hz] at h1
      simp at h1
    · exact (dec_bits hR hb hz).1
/-- A number that is not NaN's is encoded back. -/
theorem dec_enc {k p : Int} {n : Nat} (hR : Rgt k p) (hok : (decF k p n).Ok) (hn : (bl n : Int) ≤ k + p) (h3 : (decF k p n).kind ≠ 3) : encS k p (decF k p n) = n := by
  have hin := dec_in (n := n) hR
  have hpt := num_parts hR hn
  have hneg : (decF k p n).neg = dN k p n := by
    unfold decF at h3 ⊢
    split at h3
    · split at h3
      · rename_i a b; rw [if_pos a, if_pos b]
      · simp at h3
    · rename_i a
      rw [if_neg a]
      split <;> rfl
  have hbt : bitB k (decF k p n) = dB k p n ∧ bitT k p (decF k p n) = dL p n := by
    by_cases hb : dB k p n = 2 ^ k.toNat - 1
    · unfold decF at h3 ⊢
      rw [if_pos hb] at h3 ⊢
      by_cases hl : dL p n = 0
      · rw [if_pos hl]
        exact ⟨hb.symm, hl.symm⟩
      · rw [if_neg hl] at h3
        simp at h3
    · by_cases hz : dB k p n = 0 ∧ dL p n = 0
      · unfold decF
        rw [if_neg hb, if_pos hz]
        exact ⟨hz.1.symm, hz.2.symm⟩
      · exact (dec_bits hR hb hz).2
  have hp : (p - 1).toNat = p.toNat - 1 := by omega
  unfold encS
  rw [← enc_bits hR hok hin, hbt.1, hbt.2, hneg, hp]
  exact hpt.symm
/-- The number of NaN. -/
theorem nan_enc {k p : Int} (hR : Rgt k p) : decF k p (encS k p ⟨3, false, 0, 0⟩) = ⟨3, false, 0, 0⟩ ∧ (bl (encS k p ⟨3, false, 0, 0⟩) : Int) ≤ k + p := by
  obtain ⟨h1, h2, h3, h4⟩ := hR
  have e : encS k p ⟨3, false, 0, 0⟩ = (2 ^ k.toNat - 1) * 2 ^ (p.toNat - 1) + 2 ^ (p.toNat - 2) := by
    unfold encS encM; simp
  have e1 : 2 ^ (p.toNat - 1) = 2 * 2 ^ (p.toNat - 2) := by rw [← Nat.pow_succ']; congr 1; omega
  have hQ := Nat.two_pow_pos (p.toNat - 2)
  have hK := Nat.two_pow_pos k.toNat
  rw [e]
  constructor
  · have hB : dB k p ((2 ^ k.toNat - 1) * 2 ^ (p.toNat - 1) + 2 ^ (p.toNat - 2)) = 2 ^ k.toNat - 1 := by
      unfold dB
      rw [Nat.mul_comm, Nat.mul_add_div (Nat.two_pow_pos _), Nat.div_eq_of_lt (by omega), Nat.add_zero, Nat.mod_eq_of_lt (by omega)]
    have hL : dL p ((2 ^ k.toNat - 1) * 2 ^ (p.toNat - 1) + 2 ^ (p.toNat - 2)) = 2 ^ (p.toNat - 2) := by
      unfold dL
      rw [Nat.mul_add_mod', Nat.mod_eq_of_lt (by omega)]
    unfold decF
    rw [if_pos hB, if_neg (by rw [hL]; omega)]
  · have : bl ((2 ^ k.toNat - 1) * 2 ^ (p.toNat - 1) + 2 ^ (p.toNat - 2)) ≤ k.toNat + p.toNat - 1 := (bl_le _ _).2 (by
      have e2 : 2 ^ (k.toNat + p.toNat - 1) = 2 ^ k.toNat * 2 ^ (p.toNat - 1) := by rw [← Nat.pow_add]; congr 1; omega
      rw [e2]
      obtain ⟨K, hKe⟩ : ∃ K, 2 ^ k.toNat = K + 1 := ⟨2 ^ k.toNat - 1, by omega⟩
      rw [hKe, Nat.add_sub_cancel, Nat.add_mul]
      omega)
    omega
theorem dec_nan {k p : Int} {n : Nat} (h3 : (decF k p n).kind = 3) : decF k p n = ⟨3, false, 0, 0⟩ := by
  unfold decF at h3 ⊢
  split
  · rename_i a
    rw [if_pos a] at h3
    split
    · rename_i b; rw [if_pos b] at h3; simp at h3
    · rfl
  · rename_i a
    rw [if_neg a] at h3
    split at h3 <;> simp at h3
end Go.Proofs.YtlnfmngginihfaaGreatDoor
