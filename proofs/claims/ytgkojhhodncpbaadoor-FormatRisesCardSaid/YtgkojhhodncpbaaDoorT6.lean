/- Of numbers that decode to floats without sign, not NaN and not infinite, the greater one has the greater value: the plain law. -/
import Derived.Test.YtgkojhhodncpbaaDoorT8
import Derived.Test.YtgkojhhodncpbaaDoorU2
set_option linter.unusedVariables false
set_option linter.unusedSimpArgs false
namespace Go.Proofs.YtgkojhhodncpbaaDoor
open Go.RowKit

/-- The numerator and the denominator of a float. -/
def numF (f : Fl) : Nat := if f.kind = 0 then 0 else f.mag * 2 ^ f.exp.toNat
def denF (f : Fl) : Nat := if f.kind = 0 then 1 else 2 ^ (-f.exp).toNat
theorem step_mono {P b l b' l' : Nat} (hl : l < P) (hl' : l' < P) (h : b * P + l < b' * P + l') :
    (if b = 0 then l else (l + P) * 2 ^ (b - 1)) < (if b' = 0 then l' else (l' + P) * 2 ^ (b' - 1)) := by
  have hbb : b ≤ b' := by
    rcases Nat.lt_or_ge b' b with hh | hh
    · have : (b' + 1) * P ≤ b * P := Nat.mul_le_mul_right _ hh
      rw [Nat.add_mul] at this
      omega
    · exact hh
  rcases Nat.eq_or_lt_of_le hbb with rfl | hlt
  · have hll : l < l' := by omega
    split
    · exact hll
    · exact Nat.mul_lt_mul_of_pos_right (by omega) (Nat.two_pow_pos _)
  · rw [if_neg (show ¬ b' = 0 by omega)]
    have h2 : P * 2 ^ (b' - 1) ≤ (l' + P) * 2 ^ (b' - 1) := Nat.mul_le_mul_right _ (by omega)
    refine Nat.lt_of_lt_of_le ?_ h2
    split
    · have := Nat.mul_le_mul_left P (Nat.two_pow_pos (b' - 1))
      omega
    · have e1 : (l + P) * 2 ^ (b - 1) < 2 * P * 2 ^ (b - 1) := Nat.mul_lt_mul_of_pos_right (by omega) (Nat.two_pow_pos _)
      have e2 : 2 * P * 2 ^ (b - 1) = P * 2 ^ b := by
        rw [show 2 ^ b = 2 * 2 ^ (b - 1) by rw [← Nat.pow_succ']; congr 1; omega, Nat.mul_comm 2 P, Nat.mul_assoc]
      have e3 : P * 2 ^ b ≤ P * 2 ^ (b' - 1) := Nat.mul_le_mul_left _ (Nat.pow_le_pow_right (by omega) (by omega))
      omega
/-- A float's value, so many times the least one. -/
def vS (k p : Int) (n : Nat) : Nat := if dB k p n = 0 then dL p n else (dL p n + 2 ^ (p.toNat - 1)) * 2 ^ (dB k p n - 1)
theorem vS_mono {k p : Int} {n m : Nat} (hR : Rgt k p) (hn : (bl n : Int) ≤ k + p) (hm : (bl m : Int) ≤ k + p) (sn : dN k p n = false) (sm : dN k p m = false) (h : n < m) : vS k p n < vS k p m := by
  have e1 := num_parts hR hn
  have e2 := num_parts hR hm
  rw [sn, if_neg (by simp), Nat.add_zero] at e1
  rw [sm, if_neg (by simp), Nat.add_zero] at e2
  have l1 : dL p n < 2 ^ (p.toNat - 1) := Nat.mod_lt _ (Nat.two_pow_pos _)
  have l2 : dL p m < 2 ^ (p.toNat - 1) := Nat.mod_lt _ (Nat.two_pow_pos _)
  unfold vS
  refine step_mono l1 l2 ?_
  rw [← e1, ← e2]
  exact h
/-- The value of a finite float or a zero, out of its number. -/
theorem vS_val {k p : Int} {n : Nat} (hR : Rgt k p) (hk : (decF k p n).kind = 0 ∨ (decF k p n).kind = 1) : numF (decF k p n) * 2 ^ (-ti k p).toNat = vS k p n * denF (decF k p n) := by
  obtain ⟨h1, h2, h3, h4⟩ := hR
  have hg := gr_bd h1 h2
  have hti : ti k p = 1 - gr k - (p - 1) := rfl
  by_cases hb : dB k p n = 2 ^ k.toNat - 1
  · unfold decF at hk
    rw [if_pos hb] at hk
    split at hk <;> simp at hk
  · by_cases hz : dB k p n = 0 ∧ dL p n = 0
    · have hF : decF k p n = ⟨0, dN k p n, 0, 0⟩ := by unfold decF; rw [if_neg hb, if_pos hz]
      rw [hF]
      unfold numF denF vS
      simp [hz.1, hz.2]
    · have hF : decF k p n = ⟨1, dN k p n, dE k p n + tz (dM k p n), dM k p n / 2 ^ tz (dM k p n)⟩ := by unfold decF; rw [if_neg hb, if_neg hz]
      obtain ⟨-, -, hM, -, -, -, -, -⟩ := dec_can h1 h2 h3 h4 hb hz
      have hmm := (tz_div _ hM).1
      rw [hF]
      unfold numF denF
      simp only
      rw [if_neg (by omega), if_neg (by omega)]
      have hv : vS k p n = dM k p n * 2 ^ (dE k p n - ti k p).toNat := by
        unfold vS dM dE
        by_cases h0 : dB k p n = 0
        · rw [if_pos h0, if_pos h0, if_pos h0, show (ti k p - ti k p).toNat = 0 by omega]; simp
        · rw [if_neg h0, if_neg h0, if_neg h0]
          congr 2
          omega
      have hge : ti k p ≤ dE k p n := by unfold dE; split <;> omega
      rw [hv]
      generalize dM k p n = M at *
      generalize dE k p n = e at *
      generalize tz M = t at *
      generalize ti k p = T at *
      generalize M / 2 ^ t = m at *
      rw [← hmm]
      rw [Nat.mul_assoc, Nat.mul_assoc, Nat.mul_assoc, ← Nat.pow_add, ← Nat.pow_add, ← Nat.pow_add]
      congr 2
      omega
theorem denF_pos (f : Fl) : 0 < denF f := by
  unfold denF
  split
  · omega
  · exact Nat.two_pow_pos _
theorem rises {k p : Int} {n m : Nat} (hR : Rgt k p) (hn : (bl n : Int) ≤ k + p) (hm : (bl m : Int) ≤ k + p) (sn : dN k p n = false) (sm : dN k p m = false) (kn : (decF k p n).kind = 0 ∨ (decF k p n).kind = 1) (km : (decF k p m).kind = 0 ∨ (decF k p m).kind = 1) :
    sgn ((numF (decF k p n) : Int) * (denF (decF k p m) : Int) - (numF (decF k p m) : Int) * (denF (decF k p n) : Int)) = cmp3 n m := by
  have v1 := vS_val hR kn
  have v2 := vS_val hR km
  have d1 := denF_pos (decF k p n)
  have d2 := denF_pos (decF k p m)
  have g1 := fun h => vS_mono (n := n) (m := m) hR hn hm sn sm h
  have g2 := fun h => vS_mono (n := m) (m := n) hR hm hn sm sn h
  have hq := Nat.two_pow_pos (-ti k p).toNat
  generalize numF (decF k p n) = a at *
  generalize numF (decF k p m) = b at *
  generalize denF (decF k p n) = c at *
  generalize denF (decF k p m) = d at *
  generalize 2 ^ (-ti k p).toNat = q at *
  have key1 : ∀ X Y a b c d q : Nat, 0 < q → 0 < c → 0 < d → a * q = X * c → b * q = Y * d → X < Y → a * d < b * c := by
    intro X Y a b c d q hq hc hd e1 e2 h
    refine Nat.lt_of_mul_lt_mul_right (a := q) ?_
    calc a * d * q = (a * q) * d := by rw [Nat.mul_right_comm]
      _ = X * c * d := by rw [e1]
      _ = X * (c * d) := by rw [Nat.mul_assoc]
      _ < Y * (c * d) := Nat.mul_lt_mul_of_pos_right h (Nat.mul_pos hc hd)
      _ = Y * d * c := by rw [Nat.mul_assoc, Nat.mul_comm d c]
      _ = b * q * c := by rw [e2]
      _ = b * c * q := by rw [Nat.mul_right_comm]
  rw [← Int.natCast_mul, ← Int.natCast_mul]
  unfold sgn
  rcases Nat.lt_trichotomy n m with h | h | h
  · have := key1 _ _ a b c d q hq d1 d2 v1 v2 (g1 h)
    rw [cmp3_lt h, if_pos (by omega)]
  · subst h
    have e : a * d = b * c := by
      refine Nat.eq_of_mul_eq_mul_right hq ?_
      rw [Nat.mul_right_comm, v1, Nat.mul_right_comm b c q, v2, Nat.mul_right_comm]
    rw [cmp3_eq rfl, if_neg (by omega), if_neg (by omega)]
  · have := key1 _ _ b a d c q hq d2 d1 v2 v1 (g2 h)
    rw [cmp3_gt h, if_neg (by omega), if_pos (by omega)]
end Go.Proofs.YtgkojhhodncpbaaDoor
