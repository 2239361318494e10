/- Floats that numbers decode to: right, canonical, short; the parts of a number. -/
import Derived.Test.YtlnfmngginihfaaGreatDoorF9
set_option linter.unusedVariables false
set_option linter.unusedSimpArgs false
namespace Go.Proofs.YtlnfmngginihfaaGreatDoor
open Go.RowKit

theorem two_gr {k : Int} (h1 : 2 ≤ k) (h2 : k ≤ 15) : 2 * gr k + 2 = ((2 ^ k.toNat : Nat) : Int) := by
  unfold gr
  have h : k.toNat - 1 + 1 = k.toNat := by omega
  rw [← h, Nat.pow_succ]
  have e : ((2 : Int)) ^ (k.toNat - 1) = ((2 ^ (k.toNat - 1) : Nat) : Int) := by rw [Int.natCast_pow]; rfl
  rw [show k.toNat - 1 + 1 - 1 = k.toNat - 1 by omega, e]
  omega
/-- The parts of a number. -/
theorem num_parts {k p : Int} {n : Nat} (hR : Rgt k p) (hn : (bl n : Int) ≤ k + p) : n = dB k p n * 2 ^ (p.toNat - 1) + dL p n + if dN k p n = true then 2 ^ (k.toNat + p.toNat - 1) else 0 := by
  obtain ⟨h1, h2, h3, h4⟩ := hR
  have hlt : n < 2 ^ (k.toNat + p.toNat) := (bl_le _ _).1 (by omega)
  have e1 : k.toNat + p.toNat - 1 = p.toNat - 1 + k.toNat := by omega
  have e2 : 2 ^ (k.toNat + p.toNat) = 2 * (2 ^ (p.toNat - 1) * 2 ^ k.toNat) := by rw [← Nat.pow_add, ← Nat.pow_succ']; congr 1; omega
  have hd : n / 2 ^ (p.toNat - 1 + k.toNat) = n / 2 ^ (p.toNat - 1) / 2 ^ k.toNat := by rw [Nat.pow_add, Nat.div_div_eq_div_mul]
  unfold dB dL dN
  rw [Nat.testBit_eq_decide_div_mod_eq, e1, hd, Nat.pow_add]
  rw [e2] at hlt
  have hP := Nat.two_pow_pos (p.toNat - 1)
  have hQ := Nat.two_pow_pos k.toNat
  generalize 2 ^ (p.toNat - 1) = P at *
  generalize 2 ^ k.toNat = Q at *
  have a1 := Nat.div_add_mod n P
  have a2 := Nat.div_add_mod (n / P) Q
  have hq : n / P / Q < 2 := by
    rw [Nat.div_div_eq_div_mul]
    exact Nat.div_lt_of_lt_mul (by rw [Nat.mul_comm]; omega)
  generalize n / P / Q = s at *
  generalize n / P % Q = b at *
  generalize n % P = l at *
  rcases (show s = 0 ∨ s = 1 by omega) with rfl | rfl
  · rw [if_neg (by simp)]
    rw [← a1, ← a2]
    simp [Nat.mul_comm]
  · rw [if_pos (by simp)]
    rw [← a1, ← a2]
    rw [Nat.mul_one, Nat.mul_add, Nat.mul_comm P b]
    omega
theorem bl_div_tz {n : Nat} (h : 0 < n) : bl (n / 2 ^ tz n) + tz n = bl n := by
  have h1 := tz_div n h
  have h2 : 0 < n / 2 ^ tz n := by
    have := h1.2
    generalize n / 2 ^ tz n = q at *
    omega
  have h3 := bl_mul_pow (n / 2 ^ tz n) (tz n) h2
  rw [h1.1] at h3
  omega
theorem canon_self {f : Fl} (h : f.Ok) : canon f.kind f.neg f.exp f.mag = some f := by
  obtain ⟨k, n, e, m⟩ := f
  have hk := h.kind
  have hlo := h.lo
  have hhi := h.hi
  have hz := h.zero
  have ho := h.odd
  have hn := h.nan
  simp only at hk hlo hhi hz ho hn ⊢
  unfold canon
  by_cases h1 : k = 1
  · subst h1
    have hm := ho rfl
    rw [if_neg (by omega), if_neg (by omega), if_pos rfl, if_neg (by omega), tz_odd hm, if_pos (by simpa using hhi)]
    simp
  · obtain ⟨rfl, rfl⟩ := hz h1
    by_cases h02 : k = 0 ∨ k = 2
    · rw [if_pos h02, if_pos ⟨rfl, rfl⟩]
    · obtain rfl : k = 3 := by omega
      rw [if_neg h02, if_pos rfl, if_pos ⟨hn rfl, rfl, rfl⟩, hn rfl]
theorem decF_ok {k p : Int} {n : Nat} (hR : Rgt k p) : (decF k p n).Ok := by
  obtain ⟨h1, h2, h3, h4⟩ := hR
  by_cases hb : dB k p n = 2 ^ k.toNat - 1
  · unfold decF
    rw [if_pos hb]
    split
    · exact ⟨by simp, by simp, by simp, fun h => by simp at h, fun _ => ⟨rfl, rfl⟩, fun h => by simp at h⟩
    · exact ⟨by simp, by simp, by simp, fun h => by simp at h, fun _ => ⟨rfl, rfl⟩, fun _ => rfl⟩
  · by_cases hz : dB k p n = 0 ∧ dL p n = 0
    · unfold decF
      rw [if_neg hb, if_pos hz]
      exact ⟨by simp, by simp, by simp, fun h => by simp at h, fun _ => ⟨rfl, rfl⟩, fun h => by simp at h⟩
    · obtain ⟨-, -, -, -, h5, -⟩ := dec_can h1 h2 h3 h4 hb hz
      exact canon_ok h5
theorem decF_len {k p : Int} {n : Nat} (hR : Rgt k p) : (cn (decF k p n).mag).length ≤ 5 := by
  have hz : ∀ m, m = 0 → (cn m).length ≤ 5 := by rintro m rfl; rw [show cn 0 = [] from digs_zero B]; simp
  obtain ⟨h1, h2, h3, h4⟩ := hR
  by_cases hb : dB k p n = 2 ^ k.toNat - 1
  · refine hz _ ?_
    unfold decF
    rw [if_pos hb]
    split <;> rfl
  · by_cases hzz : dB k p n = 0 ∧ dL p n = 0
    · refine hz _ ?_
      unfold decF
      rw [if_neg hb, if_pos hzz]
    · obtain ⟨-, -, -, h5, h6, -⟩ := dec_can h1 h2 h3 h4 hb hzz
      refine Nat.le_trans (cn_len_mono (canon_mag h6)) ?_
      exact cn_len_pow ((bl_le _ _).1 (Nat.le_refl _)) (by omega)
theorem can_self {F : Fl} (hok : F.Ok) (A : Option Addr) (c : Nat) : FA.can ⟨F.kind, F.neg, F.exp, A, c, cn F.mag⟩ = some F := by
  show canon F.kind F.neg F.exp (val (cn F.mag)) = some F
  rw [val_cn]; exact canon_self hok
end Go.Proofs.YtlnfmngginihfaaGreatDoor
