/- Neighbours: each is a float of the format; there and back: the plain law. -/
import Derived.Test.YtcdgkhmiolhfdaaGreatDoorTD
set_option linter.unusedVariables false
set_option linter.unusedSimpArgs false
namespace Go.Proofs.YtcdgkhmiolhfdaaGreatDoor
open Go.RowKit

/-- The number of Infinity. -/
def infN (k p : Int) : Nat := (2 ^ k.toNat - 1) * 2 ^ (p.toNat - 1)
theorem infN_lt {k p : Int} (hR : Rgt k p) : infN k p < 2 ^ (k.toNat + p.toNat - 1) := by
  obtain ⟨hk1, hk2, hp1, hp2⟩ := hR
  have e : 2 ^ (k.toNat + p.toNat - 1) = 2 ^ k.toNat * 2 ^ (p.toNat - 1) := by rw [← Nat.pow_add]; congr 1; omega
  rw [e]
  unfold infN
  have := Nat.two_pow_pos k.toNat
  exact Nat.mul_lt_mul_of_pos_right (by omega) (Nat.two_pow_pos _)
theorem enc_inf {k p : Int} {f : Fl} (h : f.kind = 2) : encM k p f = infN k p := by
  unfold encM infN
  rw [if_neg (by omega), if_neg (by omega), if_neg (by omega), Nat.add_zero]
theorem enc_fin {k p : Int} {f : Fl} (hR : Rgt k p) (hf : FOf k p f) (h : f.kind = 1) : encM k p f < infN k p := by
  have hb := bitB_of hR hf h
  have he := enc_bits hR hf.ok hf.inn
  have e1 : (p - 1).toNat = p.toNat - 1 := by omega
  rw [e1] at he
  have hT : bitT k p f < 2 ^ (p.toNat - 1) := by
    have h1 := dec_of_enc hR hf (by omega)
    have hP := Nat.two_pow_pos (p.toNat - 1)
    obtain ⟨hk1, hk2, hp1, hp2⟩ := hR
    obtain ⟨i1, i2, i3⟩ := hf.inn h
    have hle : le k = 1 - gr k := rfl
    have hti : ti k p = 1 - gr k - (p - 1) := rfl
    unfold bitT
    rw [if_neg (by omega), if_pos h]
    split
    · have hm := bl_lt (n := f.mag)
      have : 2 ^ bl f.mag * 2 ^ (f.exp - ti k p).toNat ≤ 2 ^ (p.toNat - 1) := by
        rw [← Nat.pow_add]; exact Nat.pow_le_pow_right (by omega) (by omega)
      exact Nat.lt_of_lt_of_le (Nat.mul_lt_mul_of_pos_right hm (Nat.two_pow_pos _)) this
    · rw [e1]; exact Nat.mod_lt _ hP
  rw [← he]
  unfold infN
  have h2 : (bitB k f + 1) * 2 ^ (p.toNat - 1) ≤ (2 ^ k.toNat - 1) * 2 ^ (p.toNat - 1) := Nat.mul_le_mul_right _ (by omega)
  rw [Nat.add_mul, Nat.one_mul] at h2
  omega
/-- A number up to Infinity's is that of its float. -/
theorem dec_upto {k p : Int} {N : Nat} (hR : Rgt k p) (h : N ≤ infN k p) (n : Bool) :
    (decF k p N).kind ≠ 3 ∧ FOf k p ⟨(decF k p N).kind, n, (decF k p N).exp, (decF k p N).mag⟩ ∧ encM k p ⟨(decF k p N).kind, n, (decF k p N).exp, (decF k p N).mag⟩ = N := by
  have hlt := Nat.lt_of_le_of_lt h (infN_lt hR)
  have hok := decF_ok (n := N) hR
  have hln := decF_len (n := N) hR
  have hin := dec_in (n := N) hR
  have hR' := hR
  obtain ⟨hk1, hk2, hp1, hp2⟩ := hR
  have hP := Nat.two_pow_pos (p.toNat - 1)
  have hbl : (bl N : Int) ≤ k + p := by
    have : bl N ≤ k.toNat + p.toNat - 1 := (bl_le _ _).2 hlt
    omega
  have hdN : dN k p N = false := Nat.testBit_lt_two_pow hlt
  have h3 : (decF k p N).kind ≠ 3 := by
    intro h3
    have hpt := num_parts hR' hbl
    rw [hdN, if_neg (by simp), Nat.add_zero] at hpt
    unfold decF at h3
    split at h3
    · rename_i hb
      split at h3
      · simp at h3
      · rename_i hl
        apply hl
        rw [hb] at hpt
        unfold infN at h
        omega
    · split at h3 <;> simp at h3
  have hng : (decF k p N).neg = false := by
    unfold decF
    split
    · split
      · exact hdN
      · rfl
    · split <;> exact hdN
  have he := dec_enc hR' hok hbl h3
  refine ⟨h3, ⟨⟨hok.lo, hok.hi, hok.kind, hok.odd, hok.zero, fun e => absurd e h3⟩, hin, Nat.le_trans hln (by omega)⟩, ?_⟩
  have e2 : encS k p (decF k p N) = encM k p (decF k p N) := by unfold encS; rw [hng]; simp
  rw [e2] at he
  exact he
theorem enc_zero {k p : Int} {f : Fl} (h : f.kind = 0) : encM k p f = 0 := by unfold encM; rw [if_pos h]
theorem enc_least {k p : Int} (hR : Rgt k p) (n : Bool) : encM k p ⟨1, n, ti k p, 1⟩ = 1 := by
  obtain ⟨hk1, hk2, hp1, hp2⟩ := hR
  have hle : le k = 1 - gr k := rfl
  have hti : ti k p = 1 - gr k - (p - 1) := rfl
  unfold encM
  rw [if_neg (by simp), if_pos rfl]
  simp only
  rw [bl_1, if_pos (by omega)]
  simp
theorem least_of {k p : Int} (hR : Rgt k p) (n : Bool) : FOf k p ⟨1, n, ti k p, 1⟩ := by
  obtain ⟨hk1, hk2, hp1, hp2⟩ := hR
  have hg := gr_bd hk1 hk2
  have hti : ti k p = 1 - gr k - (p - 1) := rfl
  refine ⟨⟨by show _ ≤ ti k p; omega, by show ti k p ≤ _; omega, by simp, fun _ => rfl, fun h => absurd rfl h, fun h => absurd h (by simp)⟩, fun _ => ?_, by show (cn 1).length ≤ 4096; rw [cn_one]; simp⟩
  show (bl 1 : Int) ≤ p ∧ ti k p ≤ ti k p ∧ ti k p + bl 1 - 1 ≤ gr k
  rw [bl_1]
  omega
/-- A step away from a float that is not Zero. -/
theorem step_parts {k p : Int} {f : Fl} {up : Bool} (hR : Rgt k p) (hf : FOf k p f) (h1 : ¬ (f.kind = 3 ∨ (f.kind = 2 ∧ f.neg ≠ up))) (h0 : f.kind ≠ 0) :
    FOf k p (nextF k p f up) ∧ (nextF k p f up).kind ≠ 3 ∧ (nextF k p f up).neg = f.neg ∧ encM k p (nextF k p f up) = (if f.neg = !up then encM k p f + 1 else encM k p f - 1) := by
  have hk := hf.ok.kind
  have hle : nextN k p f up ≤ infN k p := by
    unfold nextN
    rcases (show f.kind = 1 ∨ f.kind = 2 by omega) with h | h
    · have := enc_fin hR hf h
      split <;> omega
    · have := enc_inf (k := k) (p := p) h
      have hn : f.neg = up := by
        by_cases hn : f.neg = up
        · exact hn
        · exact absurd (.inr ⟨h, hn⟩) h1
      rw [if_neg (by rw [hn]; cases up <;> simp)]
      omega
  obtain ⟨d1, d2, d3⟩ := dec_upto hR hle f.neg
  rw [nextF_other h1 h0]
  exact ⟨d2, d1, rfl, d3⟩
theorem next_of {k p : Int} {f : Fl} (up : Bool) (hR : Rgt k p) (hf : FOf k p f) : FOf k p (nextF k p f up) := by
  by_cases h1 : f.kind = 3 ∨ (f.kind = 2 ∧ f.neg ≠ up)
  · unfold nextF; rw [if_pos h1]; exact hf
  · by_cases h0 : f.kind = 0
    · unfold nextF; rw [if_neg h1, if_pos h0]; exact least_of hR _
    · exact (step_parts hR hf h1 h0).1
theorem next_back {k p : Int} {f : Fl} (up : Bool) (hR : Rgt k p) (hf : FOf k p f) (hno : ¬ (f.kind = 2 ∧ f.neg ≠ up)) :
    nextF k p (nextF k p f up) (!up) = f ∨ (f.kind = 0 ∧ (nextF k p (nextF k p f up) (!up)).kind = 0) := by
  have hk := hf.ok.kind
  by_cases h3 : f.kind = 3
  · left
    have e : ∀ u, nextF k p f u = f := fun u => by unfold nextF; rw [if_pos (.inl h3)]
    rw [e, e]
  have h1 : ¬ (f.kind = 3 ∨ (f.kind = 2 ∧ f.neg ≠ up)) := by rintro (h | h); exact h3 h; exact hno h
  by_cases h0 : f.kind = 0
  · right
    refine ⟨h0, ?_⟩
    have e : nextF k p f up = ⟨1, !up, ti k p, 1⟩ := by unfold nextF; rw [if_neg h1, if_pos h0]
    rw [e]
    obtain ⟨s1, s2, s3, s4⟩ := step_parts (up := !up) hR (least_of hR (!up)) (by simp) (by simp)
    rw [enc_least hR, if_neg (by cases up <;> simp)] at s4
    by_cases hz : (nextF k p ⟨1, !up, ti k p, 1⟩ (!up)).kind = 0
    · exact hz
    · have := encM_pos hR s1 hz
      omega
  · left
    obtain ⟨y1, y2, y3, y4⟩ := step_parts hR hf h1 h0
    generalize nextF k p f up = y at *
    have hMp := encM_pos hR hf h0
    by_cases hn : f.neg = !up
    · rw [if_pos hn] at y4
      have yz : y.kind ≠ 0 := fun h => by rw [enc_zero h] at y4; omega
      have yn : ¬ (y.kind = 3 ∨ (y.kind = 2 ∧ y.neg ≠ !up)) := by
        rintro (h | ⟨h, h'⟩)
        · exact y2 h
        · exact h' (by rw [y3, hn])
      obtain ⟨z1, z2, z3, z4⟩ := step_parts hR y1 yn yz
      rw [if_neg (by rw [y3, hn]; cases up <;> simp), y4, Nat.add_sub_cancel] at z4
      exact fl_eq_of_enc hR z1 hf z2 h3 z4 (by rw [z3, y3])
    · have hu : f.neg = up := by revert hn; cases f.neg <;> cases up <;> simp
      rw [if_neg hn] at y4
      by_cases yz : y.kind = 0
      · rw [enc_zero yz] at y4
        have hz : nextF k p y (!up) = ⟨1, up, ti k p, 1⟩ := by
          unfold nextF
          rw [if_neg (by omega), if_pos yz, Bool.not_not]
        rw [hz]
        refine fl_eq_of_enc hR (least_of hR up) hf (by simp) h3 ?_ hu.symm
        rw [enc_least hR]
        omega
      · have hMi : encM k p f ≤ infN k p := by
          rcases (show f.kind = 1 ∨ f.kind = 2 by omega) with h | h
          · exact Nat.le_of_lt (enc_fin hR hf h)
          · exact Nat.le_of_eq (enc_inf h)
        have yn : ¬ (y.kind = 3 ∨ (y.kind = 2 ∧ y.neg ≠ !up)) := by
          rintro (h | ⟨h, -⟩)
          · exact y2 h
          · rw [enc_inf h] at y4
            omega
        obtain ⟨z1, z2, z3, z4⟩ := step_parts hR y1 yn yz
        rw [if_pos (by rw [y3, hu, Bool.not_not]), y4] at z4
        exact fl_eq_of_enc hR z1 hf z2 h3 (by omega) (by rw [z3, y3])
end Go.Proofs.YtcdgkhmiolhfdaaGreatDoor
