/- FormatRises: the value of a float that a number decodes to; the infinite ones beyond all others. -/
import Derived.Test.YtgkojhhodncpbaaDoorT6
import Derived.Test.YtgkojhhodncpbaaDoorT4
import Derived.Test.YtgkojhhodncpbaaDoorG2
set_option linter.unusedVariables false
set_option linter.unusedSimpArgs false
namespace Go.Proofs.YtgkojhhodncpbaaDoor
open Go.RowKit

/-- Value of a float that is a zero or small. -/
theorem value_dec {F : Fl} (hok : F.Ok) (hk : F.kind = 0 ∨ F.kind = 1) (hn : F.neg = false) (he : -20000 ≤ F.exp ∧ F.exp ≤ 41000) (hb : bl F.mag ≤ 256) (hl : (cn F.mag).length ≤ 5) (A : Option Addr) (c : Nat) (w : World) (hT : Tab w) (h : Rd w A c (cn F.mag)) :
    Calls Tryd.prog 27 #[flV F.kind F.neg F.exp (.slice A (cn F.mag).length c)] w (RatR w 0 false (numF F) (denF F)) := by
  have hc := can_self hok A c
  have h0 : capE ⟨F.kind, F.neg, F.exp, A, c, cn F.mag⟩ = 0 := by
    unfold capE
    rw [if_neg (by simp only; omega), hc]
    rfl
  have h1 : capF ⟨F.kind, F.neg, F.exp, A, c, cn F.mag⟩ = F := by
    unfold capF
    rw [if_neg (by simp only; omega), hc]
    rfl
  rcases hk with hk | hk
  · have := value_zero ⟨F.kind, F.neg, F.exp, A, c, cn F.mag⟩ F w hT h (by simp only; omega) h0 h1 hk
    rw [show numF F = 0 from if_pos hk, show denF F = 1 from if_pos hk]
    exact this
  · have := value_fin ⟨F.kind, F.neg, F.exp, A, c, cn F.mag⟩ F w hT h (by simp only; omega) h0 h1 hk ⟨by omega, by omega, by omega, by omega⟩ (by rw [decide_eq_false_iff_not]; omega) (by rw [decide_eq_false_iff_not]; omega)
    rw [show numF F = F.mag * 2 ^ F.exp.toNat from if_neg (by omega), show denF F = 2 ^ (-F.exp).toNat from if_neg (by omega), ← hn]
    exact this
theorem dec_small {k p : Int} {n : Nat} (hR : Rgt k p) : -20000 ≤ (decF k p n).exp ∧ (decF k p n).exp ≤ 41000 ∧ bl (decF k p n).mag ≤ 256 := by
  obtain ⟨h1, h2, h3, h4⟩ := hR
  by_cases hb : dB k p n = 2 ^ k.toNat - 1
  · unfold decF
    rw [if_pos hb]
    split <;> exact ⟨by simp, by simp, by simp [bl_zero]⟩
  · by_cases hz : dB k p n = 0 ∧ dL p n = 0
    · unfold decF
      rw [if_neg hb, if_pos hz]
      exact ⟨by simp, by simp, by simp [bl_zero]⟩
    · obtain ⟨-, -, hM, hbl, -, -, e1, e2⟩ := dec_can h1 h2 h3 h4 hb hz
      have hF : decF k p n = ⟨1, dN k p n, dE k p n + tz (dM k p n), dM k p n / 2 ^ tz (dM k p n)⟩ := by unfold decF; rw [if_neg hb, if_neg hz]
      have hbm := bl_div_tz hM
      have ht := tz_lt_bl _ hM
      rw [hF]
      exact ⟨by simp only; omega, by simp only; omega, by simp only; omega⟩
/-- The kind of a float that a number without sign decodes to, where it is not NaN. -/
theorem dec_inf {k p : Int} {n : Nat} (hR : Rgt k p) (hn : (bl n : Int) ≤ k + p) (sn : (decF k p n).neg = false) (h3 : (decF k p n).kind ≠ 3) :
    dN k p n = false ∧ (((decF k p n).kind = 2 ∧ n = (2 ^ k.toNat - 1) * 2 ^ (p.toNat - 1)) ∨ (((decF k p n).kind = 0 ∨ (decF k p n).kind = 1) ∧ n < (2 ^ k.toNat - 1) * 2 ^ (p.toNat - 1))) := by
  have hpt := num_parts hR hn
  have hB : dB k p n < 2 ^ k.toNat := Nat.mod_lt _ (Nat.two_pow_pos _)
  have hL : dL p n < 2 ^ (p.toNat - 1) := Nat.mod_lt _ (Nat.two_pow_pos _)
  by_cases hb : dB k p n = 2 ^ k.toNat - 1
  · unfold decF at sn h3 ⊢
    rw [if_pos hb] at sn h3 ⊢
    by_cases hl : dL p n = 0
    · rw [if_pos hl] at sn ⊢
      simp only at sn
      refine ⟨sn, .inl ⟨rfl, ?_⟩⟩
      rw [sn, if_neg (by simp), hl, hb] at hpt
      simpa using hpt
    · rw [if_neg hl] at h3
      simp at h3
  · have hlt : dB k p n * 2 ^ (p.toNat - 1) + dL p n < (2 ^ k.toNat - 1) * 2 ^ (p.toNat - 1) := by
      have : (dB k p n + 1) * 2 ^ (p.toNat - 1) ≤ (2 ^ k.toNat - 1) * 2 ^ (p.toNat - 1) := Nat.mul_le_mul_right _ (by omega)
      rw [Nat.add_mul] at this
      omega
    by_cases hz : dB k p n = 0 ∧ dL p n = 0
    · unfold decF at sn ⊢
      rw [if_neg hb, if_pos hz] at sn ⊢
      simp only at sn
      rw [sn, if_neg (by simp)] at hpt
      exact ⟨sn, .inr ⟨.inl rfl, by omega⟩⟩
    · unfold decF at sn ⊢
      rw [if_neg hb, if_neg hz] at sn ⊢
      simp only at sn
      rw [sn, if_neg (by simp)] at hpt
      exact ⟨sn, .inr ⟨.inr rfl, by omega⟩⟩
end Go.Proofs.YtgkojhhodncpbaaDoor
