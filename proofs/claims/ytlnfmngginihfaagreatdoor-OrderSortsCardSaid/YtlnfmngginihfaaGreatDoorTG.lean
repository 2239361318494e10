/- The float of a float's number is the float; floats in order of their numbers; neighbours: the plain laws of chapter 21. Neighbours: each is a float of the format; there and back: the plain law. The reference's order by value is that of the indices: the plain law. The error of floats in both sides' words. Lemmas that the walks of chapter 21 share: boxes, what check tells, Next of a canonical float in new memory. -/
import Derived.Test.YtlnfmngginihfaaGreatDoorOE
import Derived.Test.YtlnfmngginihfaaGreatDoorS9
import Derived.Test.YtlnfmngginihfaaGreatDoorOF
set_option linter.unusedVariables false
set_option linter.unusedSimpArgs false
namespace Go.Proofs.YtlnfmngginihfaaGreatDoor
open Go.RowKit

theorem bitB_of {k p : Int} {f : Fl} (hR : Rgt k p) (hf : FOf k p f) (h1 : f.kind = 1) : bitB k f + 1 < 2 ^ k.toNat := by
  obtain ⟨hk1, hk2, hp1, hp2⟩ := hR
  have hgg := two_gr hk1 hk2
  have hg := gr_bd hk1 hk2
  obtain ⟨i1, i2, i3⟩ := hf.inn h1
  have hle : le k = 1 - gr k := rfl
  have h4 : 2 ^ 2 ≤ 2 ^ k.toNat := Nat.pow_le_pow_right (by omega) (by omega)
  unfold bitB
  rw [if_neg (by omega), if_pos h1]
  split <;> omega
theorem dec_of_enc {k p : Int} {f : Fl} (hR : Rgt k p) (hf : FOf k p f) (h3 : f.kind ≠ 3) : decF k p (encM k p f) = ⟨f.kind, false, f.exp, f.mag⟩ := by
  have hlt := enc_lt hR hf.ok hf.inn
  have hb := enc_bits hR hf.ok hf.inn
  have hR' := hR
  obtain ⟨hk1, hk2, hp1, hp2⟩ := hR
  have hgg := two_gr hk1 hk2
  have hg := gr_bd hk1 hk2
  have e1 : (p - 1).toNat = p.toNat - 1 := by omega
  rw [e1] at hb
  have hP := Nat.two_pow_pos (p.toNat - 1)
  have h4 : 2 ^ 2 ≤ 2 ^ k.toNat := Nat.pow_le_pow_right (by omega) (by omega)
  have hkind := hf.ok.kind
  have hle : le k = 1 - gr k := rfl
  have hti : ti k p = 1 - gr k - (p - 1) := rfl
  have hT : bitT k p f < 2 ^ (p.toNat - 1) := by
    unfold bitT
    split
    · exact hP
    · split
      · rename_i h1
        obtain ⟨i1, i2, i3⟩ := hf.inn h1
        split
        · rename_i hs
          have hm := bl_lt (n := f.mag)
          have : 2 ^ bl f.mag * 2 ^ (f.exp - ti k p).toNat ≤ 2 ^ (p.toNat - 1) := by
            rw [← Nat.pow_add]; exact Nat.pow_le_pow_right (by omega) (by omega)
          exact Nat.lt_of_lt_of_le (Nat.mul_lt_mul_of_pos_right hm (Nat.two_pow_pos _)) this
        · rw [e1]; exact Nat.mod_lt _ hP
      · first | exact hP | (rw [if_neg h3]; exact hP)
  have hBQ : bitB k f < 2 ^ k.toNat := by
    by_cases h1 : f.kind = 1
    · have := bitB_of hR' hf h1; omega
    · unfold bitB
      split
      · omega
      · omega
  have dN0 : dN k p (encM k p f) = false := Nat.testBit_lt_two_pow hlt
  have dB0 : dB k p (encM k p f) = bitB k f := by
    unfold dB
    rw [← hb, Nat.mul_comm, Nat.mul_add_div hP, Nat.div_eq_of_lt hT, Nat.add_zero, Nat.mod_eq_of_lt hBQ]
  have dL0 : dL p (encM k p f) = bitT k p f := by
    unfold dL
    rw [← hb, Nat.mul_comm, Nat.mul_add_mod, Nat.mod_eq_of_lt hT]
  rcases (show f.kind = 0 ∨ f.kind = 1 ∨ f.kind = 2 by omega) with h0 | h1 | h2
  · obtain ⟨z1, z2⟩ := hf.ok.zero (by omega)
    have b0 : bitB k f = 0 := by unfold bitB; rw [if_pos h0]
    have t0 : bitT k p f = 0 := by unfold bitT; rw [if_pos h0]
    unfold decF
    rw [dB0, dL0, dN0, b0, t0, if_neg (by omega), if_pos ⟨rfl, rfl⟩, h0, z1, z2]
  · obtain ⟨i1, i2, i3⟩ := hf.inn h1
    have hodd := hf.ok.odd h1
    have hm : 0 < f.mag := by omega
    have hmax := bitB_of hR' hf h1
    have htz : ∀ s, tz (f.mag * 2 ^ s) = s := fun s => by
      rw [Nat.mul_comm]
      have : f.mag = 2 * (f.mag / 2) + 1 := by omega
      rw [this]
      exact tz_unique s _
    have hdv : ∀ s, f.mag * 2 ^ s / 2 ^ s = f.mag := fun s => Nat.mul_div_cancel _ (Nat.two_pow_pos s)
    by_cases hs : f.exp + bl f.mag - 1 < le k
    · have b0 : bitB k f = 0 := by unfold bitB; rw [if_neg (by omega), if_pos h1, if_pos hs]
      have t0 : bitT k p f = f.mag * 2 ^ (f.exp - ti k p).toNat := by unfold bitT; rw [if_neg (by omega), if_pos h1, if_pos hs]
      have hpos : 0 < f.mag * 2 ^ (f.exp - ti k p).toNat := Nat.mul_pos hm (Nat.two_pow_pos _)
      unfold decF dM dE
      rw [dB0, dL0, dN0, b0, t0, if_neg (by omega), if_neg (by omega), if_pos rfl, if_pos rfl, htz, hdv, h1]
      simp only [Fl.mk.injEq, true_and, and_true]
      omega
    · have b0 : bitB k f = (f.exp + bl f.mag - 1 + gr k).toNat := by unfold bitB; rw [if_neg (by omega), if_pos h1, if_neg hs]
      have hbp := bl_pos hm
      have x1 : 2 ^ (p.toNat - 1) ≤ f.mag * 2 ^ (p - bl f.mag).toNat := by
        have : 2 ^ (p.toNat - 1) = 2 ^ (bl f.mag - 1) * 2 ^ (p - bl f.mag).toNat := by rw [← Nat.pow_add]; congr 1; omega
        rw [this]; exact Nat.mul_le_mul_right _ (bl_ge hm)
      have x2 : f.mag * 2 ^ (p - bl f.mag).toNat < 2 * 2 ^ (p.toNat - 1) := by
        have : 2 * 2 ^ (p.toNat - 1) = 2 ^ bl f.mag * 2 ^ (p - bl f.mag).toNat := by rw [← Nat.pow_succ', ← Nat.pow_add]; congr 1; omega
        rw [this]; exact Nat.mul_lt_mul_of_pos_right bl_lt (Nat.pow_pos (by omega))
      have t0 : bitT k p f + 2 ^ (p.toNat - 1) = f.mag * 2 ^ (p - bl f.mag).toNat := by
        unfold bitT
        rw [if_neg (by omega), if_pos h1, if_neg hs, e1]
        generalize f.mag * 2 ^ (p - bl f.mag).toNat = x at *
        generalize 2 ^ (p.toNat - 1) = q at *
        rw [Nat.mod_eq_sub_mod x1, Nat.mod_eq_of_lt (by omega)]
        omega
      have hb1 : bitB k f ≠ 0 := by omega
      unfold decF dM dE
      rw [dB0, dL0, dN0, if_neg (by omega), if_neg (by omega), if_neg hb1, if_neg hb1, t0, htz, hdv, h1]
      simp only [Fl.mk.injEq, true_and, and_true]
      omega
  · obtain ⟨z1, z2⟩ := hf.ok.zero (by omega)
    have b0 : bitB k f = 2 ^ k.toNat - 1 := by unfold bitB; rw [if_neg (by omega), if_neg (by omega)]
    have t0 : bitT k p f = 0 := by unfold bitT; rw [if_neg (by omega), if_neg (by omega), if_neg h3]
    unfold decF
    rw [dB0, dL0, dN0, b0, t0, if_pos rfl, if_pos rfl, h2, z1, z2]
theorem fl_eq_of_enc {k p : Int} {f g : Fl} (hR : Rgt k p) (hf : FOf k p f) (hg : FOf k p g) (hf3 : f.kind ≠ 3) (hg3 : g.kind ≠ 3) (he : encM k p f = encM k p g) (hn : f.neg = g.neg) : f = g := by
  have h1 := dec_of_enc hR hf hf3
  have h2 := dec_of_enc hR hg hg3
  rw [he, h2] at h1
  obtain ⟨a, b, c, d⟩ := f
  obtain ⟨a', b', c', d'⟩ := g
  simp only [Fl.mk.injEq, true_and] at h1 hn ⊢
  exact ⟨h1.1.symm, hn, h1.2.1.symm, h1.2.2.symm⟩
theorem nan_of {k p : Int} {f : Fl} (hf : FOf k p f) (h3 : f.kind = 3) : f = ⟨3, false, 0, 0⟩ := by
  have h1 := hf.ok.nan h3
  obtain ⟨h2, h4⟩ := hf.ok.zero (by omega)
  obtain ⟨a, b, c, d⟩ := f
  simp only at h1 h2 h3 h4
  rw [h1, h2, h3, h4]
/-- A number by which floats are ordered. -/
def key (k p : Int) (f : Fl) : Int := if f.kind = 3 then 4 * (2 ^ (k.toNat + p.toNat - 1) : Nat) else 2 * idx k p f - (if f.neg = true then 1 else 0)
theorem tot_key {k p : Int} {f g : Fl} (hR : Rgt k p) (hf : FOf k p f) (hg : FOf k p g) : totF k p f g = sgn (key k p f - key k p g) := by
  have h1 := idx_lt hR hf
  have h2 := idx_lt hR hg
  unfold totF key
  generalize 2 ^ (k.toNat + p.toNat - 1) = H at *
  generalize idx k p f = I at *
  generalize idx k p g = J at *
  have hs : ∀ z : Int, sgn z = if z < 0 then -1 else if 0 < z then 1 else 0 := fun z => rfl
  by_cases hk1 : f.kind = 3 <;> by_cases hk2 : g.kind = 3
  · rw [if_pos hk1, if_pos hk2, if_pos hk1, if_pos hk2, Int.sub_self]; rfl
  · rw [if_pos hk1, if_neg hk2, if_pos hk1, if_neg hk2, hs]
    cases g.neg <;> simp <;> omega
  · rw [if_neg hk1, if_pos hk2, if_neg hk1, if_pos hk2, hs]
    cases f.neg <;> simp <;> omega
  · rw [if_neg hk1, if_neg hk2, if_neg hk1, if_neg hk2, hs, hs]
    cases f.neg <;> cases g.neg <;> simp <;> omega
theorem key_inj {k p : Int} {f g : Fl} (hR : Rgt k p) (hf : FOf k p f) (hg : FOf k p g) (h : key k p f = key k p g) : f = g := by
  have h1 := idx_lt hR hf
  have h2 := idx_lt hR hg
  by_cases hk1 : f.kind = 3 <;> by_cases hk2 : g.kind = 3
  · rw [nan_of hf hk1, nan_of hg hk2]
  · unfold key at h
    rw [if_pos hk1, if_neg hk2] at h
    generalize 2 ^ (k.toNat + p.toNat - 1) = H at *
    revert h
    cases g.neg <;> simp <;> omega
  · unfold key at h
    rw [if_neg hk1, if_pos hk2] at h
    generalize 2 ^ (k.toNat + p.toNat - 1) = H at *
    revert h
    cases f.neg <;> simp <;> omega
  · unfold key at h
    rw [if_neg hk1, if_neg hk2] at h
    have hn : f.neg = g.neg := by
      revert h
      cases f.neg <;> cases g.neg <;> simp <;> omega
    have hI : idx k p f = idx k p g := by rw [hn] at h; omega
    refine fl_eq_of_enc hR hf hg hk1 hk2 ?_ hn
    have := congrArg Int.natAbs hI
    unfold idx at this
    rwa [sg_abs, sg_abs] at this
theorem same_key {k p : Int} {f g : Fl} (hR : Rgt k p) (hf : FOf k p f) (hg : FOf k p g) : (totF k p f g == 0) = sameO (some f) (some g) := by
  rw [tot_key hR hf hg]
  by_cases h : key k p f = key k p g
  · have := key_inj hR hf hg h
    subst this
    rw [sameO_self, Int.sub_self]; rfl
  · have h1 : (sgn (key k p f - key k p g) == 0) = false := by
      rw [beq_eq_false_iff_ne]
      unfold sgn
      split
      · omega
      · split <;> omega
    rw [h1]
    symm
    rw [Bool.eq_false_iff]
    intro hs
    apply h
    unfold sameO at hs
    simp only [Bool.and_eq_true, beq_iff_eq, cmp3_zero, decide_eq_true_eq] at hs
    obtain ⟨a, b, c, d⟩ := f
    obtain ⟨a', b', c', d'⟩ := g
    obtain ⟨⟨⟨rfl, rfl⟩, rfl⟩, hm⟩ := hs
    have hm' : d = d' := hm
    subst hm'
    rfl
end Go.Proofs.YtlnfmngginihfaaGreatDoor
namespace Go.Proofs.YtlnfmngginihfaaGreatDoor
open Go.RowKit

/-- The number of Infinity. -/
def infN (k p : Int) : Nat := (2 ^ k.toNat - 1) * 2 ^ (p.toNat - 1)
theorem infN_lt {k p : Int} (hR : Rgt k p) : infN k p < 2 ^ (k.toNat + p.toNat - 1) := by
  obtain ⟨hk1, hk2, hp1, hp2⟩ := hR
  have e : 2 ^ (k.toNat + p.toNat - 1) = 2 ^ k.toNat * 2 ^ (p.toNat - 1) := by rw [← Nat.pow_add]; congr 1; omega
  rw [e]
  unfold infN
  have := Nat.two_pow_pos k.toNat
  exact Nat.mul_lt_mul_of_pos_right (by omega) (Nat.two_pow_pos _)
theorem enc_inf {k p : Int} {f : Fl} (h : f.kind = 2) : encM k p f = infN k p := by
  unfold encM infN
  rw [if_neg (by omega), if_neg (by omega), if_neg (by omega), Nat.add_zero]
theorem enc_fin {k p : Int} {f : Fl} (hR : Rgt k p) (hf : FOf k p f) (h : f.kind = 1) : encM k p f < infN k p := by
  have hb := bitB_of hR hf h
  have he := enc_bits hR hf.ok hf.inn
  have e1 : (p - 1).toNat = p.toNat - 1 := by omega
  rw [e1] at he
  have hT : bitT k p f < 2 ^ (p.toNat - 1) := by
    have h1 := dec_of_enc hR hf (by omega)
    have hP := Nat.two_pow_pos (p.toNat - 1)
    obtain ⟨hk1, hk2, hp1, hp2⟩ := hR
    obtain ⟨i1, i2, i3⟩ := hf.inn h
    have hle : le k = 1 - gr k := rfl
    have hti : ti k p = 1 - gr k - (p - 1) := rfl
    unfold bitT
    rw [if_neg (by omega), if_pos h]
    split
    · have hm := bl_lt (n := f.mag)
      have : 2 ^ bl f.mag * 2 ^ (f.exp - ti k p).toNat ≤ 2 ^ (p.toNat - 1) := by
        rw [← Nat.pow_add]; exact Nat.pow_le_pow_right (by omega) (by omega)
      exact Nat.lt_of_lt_of_le (Nat.mul_lt_mul_of_pos_right hm (Nat.two_pow_pos _)) this
    · rw [e1]; exact Nat.mod_lt _ hP
  rw [← he]
  unfold infN
  have h2 : (bitB k f + 1) * 2 ^ (p.toNat - 1) ≤ (2 ^ k.toNat - 1) * 2 ^ (p.toNat - 1) := Nat.mul_le_mul_right _ (by omega)
  rw [Nat.add_mul, Nat.one_mul] at h2
  omega
/-- A number up to Infinity's is that of its float. -/
theorem dec_upto {k p : Int} {N : Nat} (hR : Rgt k p) (h : N ≤ infN k p) (n : Bool) :
    (decF k p N).kind ≠ 3 ∧ FOf k p ⟨(decF k p N).kind, n, (decF k p N).exp, (decF k p N).mag⟩ ∧ encM k p ⟨(decF k p N).kind, n, (decF k p N).exp, (decF k p N).mag⟩ = N := by
  have hlt := Nat.lt_of_le_of_lt h (infN_lt hR)
  have hok := decF_ok (n := N) hR
  have hln := decF_len (n := N) hR
  have hin := dec_in (n := N) hR
  have hR' := hR
  obtain ⟨hk1, hk2, hp1, hp2⟩ := hR
  have hP := Nat.two_pow_pos (p.toNat - 1)
  have hbl : (bl N : Int) ≤ k + p := by
    have : bl N ≤ k.toNat + p.toNat - 1 := (bl_le _ _).2 hlt
    omega
  have hdN : dN k p N = false := Nat.testBit_lt_two_pow hlt
  have h3 : (decF k p N).kind ≠ 3 := by
    intro h3
    have hpt := num_parts hR' hbl
    rw [hdN, if_neg (by simp), Nat.add_zero] at hpt
    unfold decF at h3
    split at h3
    · rename_i hb
      split at h3
      · simp at h3
      · rename_i hl
        apply hl
        rw [hb] at hpt
        unfold infN at h
        omega
    · split at h3 <;> simp at h3
  have hng : (decF k p N).neg = false := by
    unfold decF
    split
    · split
      · exact hdN
      · rfl
    · split <;> exact hdN
  have he := dec_enc hR' hok hbl h3
  refine ⟨h3, ⟨⟨hok.lo, hok.hi, hok.kind, hok.odd, hok.zero, fun e => absurd e h3⟩, hin, Nat.le_trans hln (by omega)⟩, ?_⟩
  have e2 : encS k p (decF k p N) = encM k p (decF k p N) := by unfold encS; rw [hng]; simp
  rw [e2] at he
  exact he
theorem enc_zero {k p : Int} {f : Fl} (h : f.kind = 0) : encM k p f = 0 := by unfold encM; rw [if_pos h]
theorem enc_least {k p : Int} (hR : Rgt k p) (n : Bool) : encM k p ⟨1, n, ti k p, 1⟩ = 1 := by
  obtain ⟨hk1, hk2, hp1, hp2⟩ := hR
  have hle : le k = 1 - gr k := rfl
  have hti : ti k p = 1 - gr k - (p - 1) := rfl
  unfold encM
  rw [if_neg (by simp), if_pos rfl]
  simp only
  rw [bl_1, if_pos (by omega)]
  simp
theorem least_of {k p : Int} (hR : Rgt k p) (n : Bool) : FOf k p ⟨1, n, ti k p, 1⟩ := by
  obtain ⟨hk1, hk2, hp1, hp2⟩ := hR
  have hg := gr_bd hk1 hk2
  have hti : ti k p = 1 - gr k - (p - 1) := rfl
  refine ⟨⟨by show _ ≤ ti k p; omega, by show ti k p ≤ _; omega, by simp, fun _ => rfl, fun h => absurd rfl h, fun h => absurd h (by simp)⟩, fun _ => ?_, by show (cn 1).length ≤ 4096; rw [cn_one]; simp⟩
  show (bl 1 : Int) ≤ p ∧ ti k p ≤ ti k p ∧ ti k p + bl 1 - 1 ≤ gr k
  rw [bl_1]
  omega
/-- A step away from a float that is not Zero. -/
theorem step_parts {k p : Int} {f : Fl} {up : Bool} (hR : Rgt k p) (hf : FOf k p f) (h1 : ¬ (f.kind = 3 ∨ (f.kind = 2 ∧ f.neg ≠ up))) (h0 : f.kind ≠ 0) :
    FOf k p (nextF k p f up) ∧ (nextF k p f up).kind ≠ 3 ∧ (nextF k p f up).neg = f.neg ∧ encM k p (nextF k p f up) = (if f.neg = !up then encM k p f + 1 else encM k p f - 1) := by
  have hk := hf.ok.kind
  have hle : nextN k p f up ≤ infN k p := by
    unfold nextN
    rcases (show f.kind = 1 ∨ f.kind = 2 by omega) with h | h
    · have := enc_fin hR hf h
      split <;> omega
    · have := enc_inf (k := k) (p := p) h
      have hn : f.neg = up := by
        by_cases hn : f.neg = up
        · exact hn
        · exact absurd (.inr ⟨h, hn⟩) h1
      rw [if_neg (by rw [hn]; cases up <;> simp)]
      omega
  obtain ⟨d1, d2, d3⟩ := dec_upto hR hle f.neg
  rw [nextF_other h1 h0]
  exact ⟨d2, d1, rfl, d3⟩
theorem next_of {k p : Int} {f : Fl} (up : Bool) (hR : Rgt k p) (hf : FOf k p f) : FOf k p (nextF k p f up) := by
  by_cases h1 : f.kind = 3 ∨ (f.kind = 2 ∧ f.neg ≠ up)
  · unfold nextF; rw [if_pos h1]; exact hf
  · by_cases h0 : f.kind = 0
    · unfold nextF; rw [if_neg h1, if_pos h0]; exact least_of hR _
    · exact (step_parts hR hf h1 h0).1
theorem next_back {k p : Int} {f : Fl} (up : Bool) (hR : Rgt k p) (hf : FOf k p f) (hno : ¬ (f.kind = 2 ∧ f.neg ≠ up)) :
    nextF k p (nextF k p f up) (!up) = f ∨ (f.kind = 0 ∧ (nextF k p (nextF k p f up) (!up)).kind = 0) := by
  have hk := hf.ok.kind
  by_cases h3 : f.kind = 3
  · left
    have e : ∀ u, nextF k p f u = f := fun u => by unfold nextF; rw [if_pos (.inl h3)]
    rw [e, e]
  have h1 : ¬ (f.kind = 3 ∨ (f.kind = 2 ∧ f.neg ≠ up)) := by rintro (h | h); exact h3 h; exact hno h
  by_cases h0 : f.kind = 0
  · right
    refine ⟨h0, ?_⟩
    have e : nextF k p f up = ⟨1, !up, ti k p, 1⟩ := by unfold nextF; rw [if_neg h1, if_pos h0]
    rw [e]
    obtain ⟨s1, s2, s3, s4⟩ := step_parts (up := !up) hR (least_of hR (!up)) (by simp) (by simp)
    rw [enc_least hR, if_neg (by cases up <;> simp)] at s4
    by_cases hz : (nextF k p ⟨1, !up, ti k p, 1⟩ (!up)).kind = 0
    · exact hz
    · have := encM_pos hR s1 hz
      omega
  · left
    obtain ⟨y1, y2, y3, y4⟩ := step_parts hR hf h1 h0
    generalize nextF k p f up = y at *
    have hMp := encM_pos hR hf h0
    by_cases hn : f.neg = !up
    · rw [if_pos hn] at y4
      have yz : y.kind ≠ 0 := fun h => by rw [enc_zero h] at y4; omega
      have yn : ¬ (y.kind = 3 ∨ (y.kind = 2 ∧ y.neg ≠ !up)) := by
        rintro (h | ⟨h, h'⟩)
        · exact y2 h
        · exact h' (by rw [y3, hn])
      obtain ⟨z1, z2, z3, z4⟩ := step_parts hR y1 yn yz
      rw [if_neg (by rw [y3, hn]; cases up <;> simp), y4, Nat.add_sub_cancel] at z4
      exact fl_eq_of_enc hR z1 hf z2 h3 z4 (by rw [z3, y3])
    · have hu : f.neg = up := by revert hn; cases f.neg <;> cases up <;> simp
      rw [if_neg hn] at y4
      by_cases yz : y.kind = 0
      · rw [enc_zero yz] at y4
        have hz : nextF k p y (!up) = ⟨1, up, ti k p, 1⟩ := by
          unfold nextF
          rw [if_neg (by omega), if_pos yz, Bool.not_not]
        rw [hz]
        refine fl_eq_of_enc hR (least_of hR up) hf (by simp) h3 ?_ hu.symm
        rw [enc_least hR]
        omega
      · have hMi : encM k p f ≤ infN k p := by
          rcases (show f.kind = 1 ∨ f.kind = 2 by omega) with h | h
          · exact Nat.le_of_lt (enc_fin hR hf h)
          · exact Nat.le_of_eq (enc_inf h)
        have yn : ¬ (y.kind = 3 ∨ (y.kind = 2 ∧ y.neg ≠ !up)) := by
          rintro (h | ⟨h, -⟩)
          · exact y2 h
          · rw [enc_inf h] at y4
            omega
        obtain ⟨z1, z2, z3, z4⟩ := step_parts hR y1 yn yz
        rw [if_pos (by rw [y3, hu, Bool.not_not]), y4] at z4
        exact fl_eq_of_enc hR z1 hf z2 h3 (by omega) (by rw [z3, y3])
end Go.Proofs.YtlnfmngginihfaaGreatDoor
namespace Go.Proofs.YtlnfmngginihfaaGreatDoor
open Go.RowKit

theorem mapM_all {l : List FA} {k p : Int} : (l.mapM fun a => holdS k p a.can) = none ↔ l.all (fun a => (holdS k p a.can).isSome) = false := by
  induction l with
  | nil => simp
  | cons a l ih =>
    rw [List.mapM_cons, List.all_cons]
    cases h : holdS k p a.can with
    | none => simp
    | some f =>
      simp only [Option.isSome_some, Bool.true_and, ← ih]
      cases (l.mapM fun a => holdS k p a.can) <;> simp
/-- Floats' error of floats that are not large is the reference's. -/
theorem FlsS_chk {k p : Int} {l : List FA} (hs : ∀ a ∈ l, a.xs.length ≤ 4096) (hc : chkS k p l ≠ 0) : FlsS k p l = (chkS k p l, []) := by
  have h0 : ¬ l.any (fun a => decide (4096 < a.xs.length)) = true := by
    intro h
    obtain ⟨a, ha, h2⟩ := List.any_eq_true.1 h
    have := hs a ha
    have := of_decide_eq_true h2
    omega
  unfold FlsS chkS at *
  rw [if_neg h0]
  by_cases hR : Rgt k p
  · rw [if_pos hR] at hc ⊢
    rw [if_pos hR]
    cases hA : l.all (fun a => (holdS k p a.can).isSome) with
    | true => rw [hA] at hc; exact absurd rfl hc
    | false =>
      rw [mapM_all.2 hA]
      rfl
  · rw [if_neg hR, if_neg hR]

/-- The rank of a float, the order of the sizes of two finite ones, and that of two floats. -/
def rk0 (kd : Int) : Int := if kd = 2 then 2 else if kd = 1 then 1 else 0
def rkF (f : Fl) : Int := if f.neg = true then -rk0 f.kind else rk0 f.kind
def szF (f g : Fl) : Int :=
  if (bl f.mag : Int) - 1 + f.exp = (bl g.mag : Int) - 1 + g.exp then (if g.exp ≤ f.exp then cmp3 (f.mag * 2 ^ (f.exp - g.exp).toNat) g.mag else cmp3 f.mag (g.mag * 2 ^ (g.exp - f.exp).toNat))
  else sgn ((bl f.mag : Int) - 1 + f.exp - ((bl g.mag : Int) - 1 + g.exp))
def cmF (f g : Fl) : Int := if rkF f ≠ rkF g ∨ (rkF f ≠ 1 ∧ rkF f ≠ -1) then sgn (rkF f - rkF g) else if rkF f < 0 then -szF f g else szF f g
theorem cmp3_congr {a b c d : Nat} (h : a < b ↔ c < d) (h' : b < a ↔ d < c) : cmp3 a b = cmp3 c d := by
  rcases Nat.lt_trichotomy a b with h1 | h1 | h1
  · rw [cmp3_lt h1, cmp3_lt (h.1 h1)]
  · have : c = d := by
      have n1 : ¬ c < d := fun h2 => by have := h.2 h2; omega
      have n2 : ¬ d < c := fun h2 => by have := h'.2 h2; omega
      omega
    rw [cmp3_eq h1, cmp3_eq this]
  · rw [cmp3_gt h1, cmp3_gt (h'.1 h1)]
theorem cmp3_sgn (a b : Nat) : cmp3 a b = sgn ((a : Int) - b) := by
  unfold cmp3 sgn
  (repeat' split) <;> omega
theorem shape_lt {P d M d' M' : Nat} (hM : M < 2 * P) (hM' : M' < 2 * P) (h : 0 < d → P ≤ M) (h' : 0 < d' → P ≤ M') : M * 2 ^ d < M' * 2 ^ d' ↔ d * P + M < d' * P + M' := by
  have key : ∀ {d M d' M' : Nat}, M < 2 * P → (0 < d' → P ≤ M') → d < d' → M * 2 ^ d < M' * 2 ^ d' ∧ d * P + M < d' * P + M' := by
    intro d M d' M' hM h' hd
    have hP := h' (by omega)
    obtain ⟨j, rfl⟩ : ∃ j, d' = d + 1 + j := ⟨d' - d - 1, by omega⟩
    constructor
    · have h1 : M * 2 ^ d < 2 * P * 2 ^ d := Nat.mul_lt_mul_of_pos_right hM (Nat.two_pow_pos d)
      have h2 : P * 2 ^ (d + 1) ≤ M' * 2 ^ (d + 1 + j) := Nat.mul_le_mul hP (Nat.pow_le_pow_right (by omega) (by omega))
      rw [Nat.pow_succ] at h2
      have h3 : 2 * P * 2 ^ d = P * (2 ^ d * 2) := by rw [Nat.mul_comm 2 P, Nat.mul_assoc, Nat.mul_comm 2]
      omega
    · rw [Nat.add_mul, Nat.add_mul, Nat.one_mul]
      have : 0 ≤ j * P := Nat.zero_le _
      omega
  rcases Nat.lt_trichotomy d d' with hd | hd | hd
  · exact ⟨fun _ => (key hM h' hd).2, fun _ => (key hM h' hd).1⟩
  · subst hd
    rw [Nat.add_lt_add_iff_left]
    exact Nat.mul_lt_mul_right (Nat.two_pow_pos d)
  · have := key hM' h hd
    constructor <;> intro h1 <;> omega
/-- The number of a finite float, and its value, by a step and a significand. -/
theorem enc_shape {k p : Int} {f : Fl} (hR : Rgt k p) (hf : FOf k p f) (h1 : f.kind = 1) :
    ∃ d M, encM k p f = d * 2 ^ (p.toNat - 1) + M ∧ f.mag * 2 ^ (f.exp - ti k p).toNat = M * 2 ^ d ∧ M < 2 * 2 ^ (p.toNat - 1) ∧ (0 < d → 2 ^ (p.toNat - 1) ≤ M) := by
  obtain ⟨i1, i2, i3⟩ := hf.inn h1
  have ho := odd_pos hf.ok h1
  have hb := bl_pos ho
  obtain ⟨hk1, hk2, hp1, hp2⟩ := hR
  have hle : le k = 1 - gr k := rfl
  have hti : ti k p = le k - (p - 1) := rfl
  unfold encM
  rw [if_neg (by omega), if_pos h1]
  by_cases hs : f.exp + bl f.mag - 1 < le k
  · rw [if_pos hs]
    refine ⟨0, f.mag * 2 ^ (f.exp - ti k p).toNat, by omega, by omega, ?_, fun h => absurd h (by omega)⟩
    have hm := bl_lt (n := f.mag)
    have h2 : f.mag * 2 ^ (f.exp - ti k p).toNat < 2 ^ bl f.mag * 2 ^ (f.exp - ti k p).toNat := Nat.mul_lt_mul_of_pos_right hm (Nat.two_pow_pos _)
    rw [← Nat.pow_add] at h2
    have h3 : 2 ^ (bl f.mag + (f.exp - ti k p).toNat) ≤ 2 ^ (p.toNat - 1) := Nat.pow_le_pow_right (by omega) (by omega)
    omega
  · rw [if_neg hs]
    refine ⟨(f.exp + bl f.mag - 1 + gr k - 1).toNat, f.mag * 2 ^ (p - bl f.mag).toNat, rfl, ?_, ?_, fun _ => ?_⟩
    · rw [Nat.mul_assoc, ← Nat.pow_add]
      congr 2
      omega
    · have hm := bl_lt (n := f.mag)
      have h2 : f.mag * 2 ^ (p - bl f.mag).toNat < 2 ^ bl f.mag * 2 ^ (p - bl f.mag).toNat := Nat.mul_lt_mul_of_pos_right hm (Nat.two_pow_pos _)
      rw [← Nat.pow_add] at h2
      have h3 : 2 ^ (bl f.mag + (p - bl f.mag).toNat) = 2 * 2 ^ (p.toNat - 1) := by rw [← Nat.pow_succ']; congr 1; omega
      omega
    · have hm := bl_ge ho
      have h2 : 2 ^ (bl f.mag - 1) * 2 ^ (p - bl f.mag).toNat ≤ f.mag * 2 ^ (p - bl f.mag).toNat := Nat.mul_le_mul_right _ hm
      rw [← Nat.pow_add] at h2
      have h3 : 2 ^ (bl f.mag - 1 + (p - bl f.mag).toNat) = 2 ^ (p.toNat - 1) := by congr 1; omega
      omega
theorem encM_mono {k p : Int} {f g : Fl} (hR : Rgt k p) (hf : FOf k p f) (hg : FOf k p g) (h1 : f.kind = 1) (h2 : g.kind = 1) :
    f.mag * 2 ^ (f.exp - ti k p).toNat < g.mag * 2 ^ (g.exp - ti k p).toNat ↔ encM k p f < encM k p g := by
  obtain ⟨d, M, a1, a2, a3, a4⟩ := enc_shape hR hf h1
  obtain ⟨d', M', b1, b2, b3, b4⟩ := enc_shape hR hg h2
  rw [a1, a2, b1, b2]
  exact shape_lt a3 b3 a4 b4
theorem at_lt {m e n e' : Nat} (hn : 0 < n) (h : bl m + e < bl n + e') : m * 2 ^ e < n * 2 ^ e' := by
  have h1 : m * 2 ^ e < 2 ^ bl m * 2 ^ e := Nat.mul_lt_mul_of_pos_right bl_lt (Nat.two_pow_pos e)
  have h2 : 2 ^ (bl n - 1) * 2 ^ e' ≤ n * 2 ^ e' := Nat.mul_le_mul_right _ (bl_ge hn)
  rw [← Nat.pow_add] at h1 h2
  have hb := bl_pos hn
  have h3 : 2 ^ (bl m + e) ≤ 2 ^ (bl n - 1 + e') := Nat.pow_le_pow_right (by omega) (by omega)
  omega
theorem szF_enc {k p : Int} {f g : Fl} (hR : Rgt k p) (hf : FOf k p f) (hg : FOf k p g) (h1 : f.kind = 1) (h2 : g.kind = 1) :
    szF f g = sgn ((encM k p f : Int) - encM k p g) := by
  rw [← cmp3_sgn, ← cmp3_congr (encM_mono hR hf hg h1 h2) (encM_mono hR hg hf h2 h1)]
  obtain ⟨-, i2, -⟩ := hf.inn h1
  obtain ⟨-, j2, -⟩ := hg.inn h2
  have hof := odd_pos hf.ok h1
  have hog := odd_pos hg.ok h2
  generalize ti k p = T at *
  unfold szF
  by_cases ha : (bl f.mag : Int) - 1 + f.exp = (bl g.mag : Int) - 1 + g.exp
  · rw [if_pos ha]
    by_cases he : g.exp ≤ f.exp
    · rw [if_pos he]
      have e1 : f.mag * 2 ^ (f.exp - T).toNat = f.mag * 2 ^ (f.exp - g.exp).toNat * 2 ^ (g.exp - T).toNat := by rw [Nat.mul_assoc, ← Nat.pow_add]; congr 2; omega
      rw [e1]
      exact cmp3_congr (Nat.mul_lt_mul_right (Nat.two_pow_pos _)).symm (Nat.mul_lt_mul_right (Nat.two_pow_pos _)).symm
    · rw [if_neg he]
      have e1 : g.mag * 2 ^ (g.exp - T).toNat = g.mag * 2 ^ (g.exp - f.exp).toNat * 2 ^ (f.exp - T).toNat := by rw [Nat.mul_assoc, ← Nat.pow_add]; congr 2; omega
      rw [e1]
      exact cmp3_congr (Nat.mul_lt_mul_right (Nat.two_pow_pos _)).symm (Nat.mul_lt_mul_right (Nat.two_pow_pos _)).symm
  · rw [if_neg ha]
    by_cases hl : (bl f.mag : Int) - 1 + f.exp < (bl g.mag : Int) - 1 + g.exp
    · rw [cmp3_lt (at_lt hog (by omega))]
      unfold sgn
      rw [if_pos (by omega)]
    · rw [cmp3_gt (at_lt hof (by omega))]
      unfold sgn
      rw [if_neg (by omega), if_pos (by omega)]
theorem cmF_idx {k p : Int} {f g : Fl} (hR : Rgt k p) (hf : FOf k p f) (hg : FOf k p g) (h3 : f.kind ≠ 3) (h3' : g.kind ≠ 3) : cmF f g = sgn (idx k p f - idx k p g) := by
  have hkf := hf.ok.kind
  have hkg := hg.ok.kind
  have zf : f.kind = 0 → encM k p f = 0 := enc_zero
  have zg : g.kind = 0 → encM k p g = 0 := enc_zero
  have ff : f.kind = 1 → encM k p f < infN k p := enc_fin hR hf
  have fg : g.kind = 1 → encM k p g < infN k p := enc_fin hR hg
  have nf : f.kind = 2 → encM k p f = infN k p := enc_inf
  have ng : g.kind = 2 → encM k p g = infN k p := enc_inf
  have pf : f.kind ≠ 0 → 1 ≤ encM k p f := encM_pos hR hf
  have pg : g.kind ≠ 0 → 1 ≤ encM k p g := encM_pos hR hg
  have hs : f.kind = 1 → g.kind = 1 → szF f g = sgn ((encM k p f : Int) - encM k p g) := fun h1 h2 => szF_enc hR hf hg h1 h2
  unfold cmF idx sg rkF rk0
  generalize szF f g = S at *
  generalize encM k p f = E at *
  generalize encM k p g = E' at *
  generalize infN k p = I at *
  have hsg : ∀ z, sgn z = if z < 0 then -1 else if 0 < z then 1 else 0 := fun _ => rfl
  simp only [hsg] at hs ⊢
  have c1 : f.kind = 0 ∨ f.kind = 1 ∨ f.kind = 2 := by omega
  have c2 : g.kind = 0 ∨ g.kind = 1 ∨ g.kind = 2 := by omega
  generalize f.kind = kf at *
  generalize g.kind = kg at *
  rcases c1 with rfl | rfl | rfl <;> rcases c2 with rfl | rfl | rfl <;> cases f.neg <;> cases g.neg
  all_goals simp at *
  all_goals (repeat' split) <;> omega
end Go.Proofs.YtlnfmngginihfaaGreatDoor
namespace Go.Proofs.YtlnfmngginihfaaGreatDoor
open Go.RowKit

theorem boxesU (w : World) (k p : Int) (a : FA) : ∀ W, W = ((w.alloc (.cells #[.int .i64 k, .int .i64 p] 23)).alloc (.cells #[.int .i64 a.k, .bool a.neg, .int .i64 a.e, .slice a.A a.xs.length a.c] 40)) →
    Bf W w.heap.size (.int .i64 k) (.int .i64 p) ∧ Bx W (w.heap.size + 1) (.int .i64 a.k) (.bool a.neg) (.int .i64 a.e) (.slice a.A a.xs.length a.c) ∧ Ext w W ∧ W.heap.size = w.heap.size + 1 + 1 := by
  rintro W rfl
  have x := Bx.new (w.alloc (.cells #[.int .i64 k, .int .i64 p] 23)) (.int .i64 a.k) (.bool a.neg) (.int .i64 a.e) (.slice a.A a.xs.length a.c)
  rw [World.size_alloc] at x
  exact ⟨(Bf.new w _ _).ext ((Ext.refl _).al _), x, ((Ext.refl w).al _).al _, by simp only [World.size_alloc]⟩
theorem chk_good {k p : Int} {l : List FA} (h : chkS k p l = 0) : Rgt k p ∧ ∀ a ∈ l, ∃ f, a.can = some f ∧ InF k p f := by
  unfold chkS at h
  by_cases hR : Rgt k p
  · rw [if_pos hR] at h
    refine ⟨hR, fun a ha => ?_⟩
    by_cases hl : l.all (fun a => (holdS k p a.can).isSome) = true
    · have := List.all_eq_true.1 hl a ha
      cases hc : a.can with
      | none => rw [hc] at this; simp [holdS] at this
      | some f =>
        refine ⟨f, rfl, ?_⟩
        by_cases hin : InF k p f
        · exact hin
        · rw [hc] at this; simp [holdS, hin] at this
    · rw [if_neg hl] at h; cases h
  · rw [if_neg hR] at h; cases h
theorem of_good {k p : Int} {a : FA} {f : Fl} (hc : a.can = some f) (hin : InF k p f) (hw : W64 a.xs) (hl : a.xs.length ≤ 4096) : FOf k p f :=
  ⟨canon_ok hc, hin, Nat.le_trans (cn_len_of_le hw (canon_mag hc)) hl⟩
/-- The next neighbour of a canonical float that lies in new memory. -/
theorem Next_own {k p : Int} (hR : Rgt k p) {f : Fl} (hf : FOf k p f) (up : Bool) (A : Option Addr) (c : Nat) (w : World) (hT : Tab w) (h : Rd w A c (cn f.mag)) :
    Calls Tryz.prog 12 #[.agg #[.int .i64 k, .int .i64 p], flV f.kind f.neg f.exp (.slice A (cn f.mag).length c), .bool up] w (FErr w 0 (nextF k p f up)) :=
  Next_good k p hR ⟨f.kind, f.neg, f.exp, A, c, cn f.mag⟩ f hf (FlsS_one_ok hR hf.len (can_self hf.ok A c) hf.inn) up w hT h
theorem boxesV2 (w : World) (k p : Int) (a b : FA) : ∀ W, W = (((w.alloc (.cells #[.int .i64 k, .int .i64 p] 23)).alloc (.cells #[.int .i64 a.k, .bool a.neg, .int .i64 a.e, .slice a.A a.xs.length a.c] 40)).alloc (.cells #[.int .i64 b.k, .bool b.neg, .int .i64 b.e, .slice b.A b.xs.length b.c] 40)) →
    Bf W w.heap.size (.int .i64 k) (.int .i64 p) ∧ Bx W (w.heap.size + 1) (.int .i64 a.k) (.bool a.neg) (.int .i64 a.e) (.slice a.A a.xs.length a.c) ∧ Bx W (w.heap.size + 1 + 1) (.int .i64 b.k) (.bool b.neg) (.int .i64 b.e) (.slice b.A b.xs.length b.c) ∧ Ext w W ∧ W.heap.size = w.heap.size + 1 + 1 + 1 := by
  rintro W rfl
  obtain ⟨h1, h2, h3, h4⟩ := boxesT w k p a b _ rfl
  exact ⟨h1, h2, h3, h4, by simp only [World.size_alloc]⟩
end Go.Proofs.YtlnfmngginihfaaGreatDoor
