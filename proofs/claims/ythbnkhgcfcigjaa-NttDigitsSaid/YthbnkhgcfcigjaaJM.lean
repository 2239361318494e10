/- What the reference's loops reckon (plain law). -/
import Derived.Test.YthbnkhgcfcigjaaJE
set_option linter.unusedVariables false
set_option linter.unusedSimpArgs false
namespace Go.Proofs.Ythbnkhgcfcigjaa

theorem sm_step (F : Nat → Nat) (j x y : Nat) (h : x * y % PP = F j % PP) : (sm F j % PP + x * y % PP) % PP = sm F (j + 1) % PP := by
  simp only [sm]
  rw [h, ← Nat.add_mod]
/-- A place of the transform, by the powers that lie in a list. -/
theorem dft_by {m w : Nat} {a : List Nat} (hl : a.length = 2 ^ m) (h1 : w ^ 2 ^ m % PP = 1) (k : Nat) : sm (fun j => a.getD j 0 * (w ^ (j * k % 2 ^ m) % PP)) (2 ^ m) % PP = dft w a k := by
  unfold dft
  rw [hl]
  refine sm_mod fun j hj => ?_
  have := pow_round h1 (j * k) 1
  rw [Nat.mul_one, Nat.mul_one] at this
  rw [← this, Nat.mul_mod_mod]
theorem inv_turn {v w n : Nat} (hv : v * w % PP = 1) (h1 : w ^ n % PP = 1) (j k : Nat) (hk : k ≤ n) : v ^ (j * k) % PP = w ^ ((n - k) * j) % PP := by
  have e1 := inv_pow hv (j * k)
  have e2 : w ^ (n * j) % PP = 1 := by
    rw [Nat.pow_mul, Nat.pow_mod, h1, Nat.one_pow]
    rfl
  have e3 : n * j = (n - k) * j + j * k := by rw [Nat.mul_comm j k, ← Nat.add_mul, Nat.sub_add_cancel hk]
  have e4 : v ^ (j * k) * w ^ (n * j) % PP = w ^ ((n - k) * j) % PP := by
    have : v ^ (j * k) * w ^ (n * j) = v ^ (j * k) * w ^ (j * k) * w ^ ((n - k) * j) := by rw [e3, Nat.pow_add]; ac_rfl
    rw [this, Nat.mul_mod, e1, Nat.one_mul, Nat.mod_mod]
  rw [← e4, Nat.mul_mod, e2, Nat.mul_one, Nat.mod_mod]
/-- The inverse root's transform is the transform, read backwards but for its first place. -/
theorem dft_turn {m v w : Nat} {a : List Nat} (hl : a.length = 2 ^ m) (hv : v * w % PP = 1) (h1 : w ^ 2 ^ m % PP = 1) {k : Nat} (hk : k < 2 ^ m) : dft w a ((2 ^ m - k) % 2 ^ m) = dft v a k := by
  unfold dft
  rw [hl]
  refine sm_mod fun j hj => ?_
  have e := pow_round h1 (2 ^ m - k) j
  rw [Nat.mul_comm j, Nat.mul_mod, ← e, ← inv_turn hv h1 j k (by omega), ← Nat.mul_mod]
/-- The long product, row by row. -/
def lgR (a b : List Nat) (i t : Nat) : Nat := sm (fun p => sm (fun q => if p + q = t then a.getD p 0 * b.getD q 0 else 0) b.length) i
def lgC (a b : List Nat) (i j t : Nat) : Nat := sm (fun q => if i + q = t then a.getD i 0 * b.getD q 0 else 0) j
theorem lgR_zero (a b : List Nat) (t : Nat) : lgR a b 0 t = 0 := rfl
theorem lgC_zero (a b : List Nat) (i t : Nat) : lgC a b i 0 t = 0 := rfl
theorem lgR_succ (a b : List Nat) (i t : Nat) : lgR a b (i + 1) t = lgR a b i t + lgC a b i b.length t := rfl
theorem lgC_succ (a b : List Nat) (i j t : Nat) : lgC a b i (j + 1) t = lgC a b i j t + (if i + j = t then a.getD i 0 * b.getD j 0 else 0) := rfl
theorem lgR_all (a b : List Nat) (t : Nat) : lgR a b a.length t = lg a b t := rfl
/-- The row of the long product, at line i, column j. -/
def Lgr (a b zs : List Nat) (i j : Nat) : Prop := zs.length = a.length + b.length - 1 ∧ ∀ t, t < zs.length → zs.getD t 0 = (lgR a b i t + lgC a b i j t) % PP
theorem Lgr.start {a b : List Nat} : Lgr a b (List.replicate (a.length + b.length - 1) 0) 0 0 := ⟨List.length_replicate, fun t ht => by rw [getD_replicate, lgR_zero, lgC_zero]; rfl⟩
theorem Lgr.step {a b zs : List Nat} {i j : Nat} (h : Lgr a b zs i j) (hi : i < a.length) (hj : j < b.length) : Lgr a b (zs.set (i + j) ((zs.getD (i + j) 0 + a.getD i 0 * b.getD j 0 % PP) % PP)) i (j + 1) := by
  have hl := h.1
  refine ⟨by rw [List.length_set]; exact hl, fun t ht => ?_⟩
  rw [List.length_set] at ht
  rw [gset _ _ _ _ (by omega), lgC_succ]
  by_cases e : i + j = t
  · subst e
    rw [if_pos rfl, if_pos rfl, h.2 _ ht, Nat.add_mod_mod, Nat.mod_add_mod, Nat.add_assoc]
  · rw [if_neg e, if_neg e, Nat.add_zero]
    exact h.2 t ht
theorem Lgr.next {a b zs : List Nat} {i : Nat} (h : Lgr a b zs i b.length) : Lgr a b zs (i + 1) 0 := ⟨h.1, fun t ht => by rw [lgR_succ, lgC_zero, Nat.add_zero]; exact h.2 t ht⟩
theorem Lgr.done {a b zs : List Nat} (h : Lgr a b zs a.length 0) (ha : 0 < a.length) (hb : 0 < b.length) : zs = lgL a b := by
  unfold lgL
  rw [if_neg (by omega)]
  exact tab_eq h.1 fun t ht => by rw [h.2 t (by rw [h.1]; exact ht), lgC_zero, Nat.add_zero, lgR_all]
theorem lg_past {a b : List Nat} {t : Nat} (h : a.length + b.length ≤ t + 1) : lg a b t = 0 := by
  unfold lg
  refine sm_nil fun p hp => sm_nil fun q hq => if_neg ?_
  omega
theorem lgL_get {a b : List Nat} {t : Nat} (ha : 0 < a.length) (hb : 0 < b.length) (ht : t < a.length + b.length - 1) : (lgL a b).getD t 0 = lg a b t % PP := by
  unfold lgL
  rw [if_neg (by omega), tab_get _ ht]
theorem lgL_len {a b : List Nat} (ha : 0 < a.length) (hb : 0 < b.length) : (lgL a b).length = a.length + b.length - 1 := by
  unfold lgL
  rw [if_neg (by omega), tab_len]
/-- What lies at a place when i items have been added round. -/
def Rnd (F : Nat → Nat) (l zs : List Nat) (n i : Nat) : Prop := zs.length = n ∧ ∀ t, t < n → zs.getD t 0 = ((if t < i then l.getD t 0 else 0) + (if t + n < i then F (l.getD (t + n) 0) else 0)) % PP
theorem Rnd.start (F : Nat → Nat) (l : List Nat) (n : Nat) : Rnd F l (List.replicate n 0) n 0 := ⟨List.length_replicate, fun t ht => by rw [getD_replicate, if_neg (by omega), if_neg (by omega)]; rfl⟩
theorem Rnd.low {F : Nat → Nat} {l zs : List Nat} {n i : Nat} (h : Rnd F l zs n i) (hi : i < n) : Rnd F l (zs.set i ((zs.getD i 0 + l.getD i 0) % PP)) n (i + 1) := by
  refine ⟨by rw [List.length_set]; exact h.1, fun t ht => ?_⟩
  rw [gset _ _ _ _ (by rw [h.1]; exact hi)]
  by_cases e : i = t
  · subst e
    rw [if_pos rfl, h.2 i hi, if_neg (by omega), if_neg (by omega), if_pos (by omega), if_neg (by omega), Nat.add_zero, Nat.add_zero, Nat.zero_mod, Nat.zero_add]
  · rw [if_neg e, h.2 t ht]
    have a2 : (if t + n < i then F (l.getD (t + n) 0) else 0) = 0 := if_neg (by omega)
    have a4 : (if t + n < i + 1 then F (l.getD (t + n) 0) else 0) = 0 := if_neg (by omega)
    rw [a2, a4]
    by_cases e2 : t < i
    · have a1 : (if t < i then l.getD t 0 else 0) = l.getD t 0 := if_pos e2
      have a3 : (if t < i + 1 then l.getD t 0 else 0) = l.getD t 0 := if_pos (by omega)
      rw [a1, a3]
    · have a1 : (if t < i then l.getD t 0 else 0) = 0 := if_neg e2
      have a3 : (if t < i + 1 then l.getD t 0 else 0) = 0 := if_neg (by omega)
      rw [a1, a3]
theorem Rnd.high {F : Nat → Nat} {l zs : List Nat} {n i : Nat} (h : Rnd F l zs n i) (hi : n ≤ i) (hi2 : i < 2 * n) : Rnd F l (zs.set (i - n) ((zs.getD (i - n) 0 + F (l.getD i 0)) % PP)) n (i + 1) := by
  refine ⟨by rw [List.length_set]; exact h.1, fun t ht => ?_⟩
  rw [gset _ _ _ _ (by rw [h.1]; omega)]
  have a1 : (if t < i then l.getD t 0 else 0) = l.getD t 0 := if_pos (by omega)
  have a3 : (if t < i + 1 then l.getD t 0 else 0) = l.getD t 0 := if_pos (by omega)
  by_cases e : i - n = t
  · have a2 : (if t + n < i then F (l.getD (t + n) 0) else 0) = 0 := if_neg (by omega)
    have a4 : (if t + n < i + 1 then F (l.getD (t + n) 0) else 0) = F (l.getD (t + n) 0) := if_pos (by omega)
    rw [if_pos e, e, h.2 t ht, a1, a2, a3, a4, Nat.add_zero, Nat.mod_add_mod, show t + n = i by omega]
  · rw [if_neg e, h.2 t ht, a1, a3]
    by_cases e2 : t + n < i
    · have a2 : (if t + n < i then F (l.getD (t + n) 0) else 0) = F (l.getD (t + n) 0) := if_pos e2
      have a4 : (if t + n < i + 1 then F (l.getD (t + n) 0) else 0) = F (l.getD (t + n) 0) := if_pos (by omega)
      rw [a2, a4]
    · have a2 : (if t + n < i then F (l.getD (t + n) 0) else 0) = 0 := if_neg e2
      have a4 : (if t + n < i + 1 then F (l.getD (t + n) 0) else 0) = 0 := if_neg (by omega)
      rw [a2, a4]
theorem Rnd.round {a b zs : List Nat} {n : Nat} (ha : a.length = n) (hb : b.length = n) (hn : 0 < n) (h : Rnd (fun x => x) (lgL a b) zs n (2 * n - 1)) : zs = cycL a b := by
  unfold cycL
  rw [ha]
  refine tab_eq h.1 fun t ht => ?_
  rw [h.2 t ht, if_pos (by omega), lgL_get (by omega) (by omega) (by omega), cyc_two ha hb ht]
  by_cases e : t + n < 2 * n - 1
  · rw [if_pos e, lgL_get (by omega) (by omega) (by omega), ← Nat.add_mod]
  · rw [if_neg e, lg_past (t := t + n) (by omega), Nat.add_zero, Nat.add_zero, Nat.mod_mod]
theorem Rnd.turned {a b zs : List Nat} {n : Nat} (ha : a.length = n) (hb : b.length = n) (hn : 0 < n) (h : Rnd (fun x => PP - x) (lgL a b) zs n (2 * n - 1)) : zs = trL a b := by
  unfold trL
  rw [ha]
  refine tab_eq h.1 fun t ht => ?_
  rw [h.2 t ht, if_pos (by omega), lgL_get (by omega) (by omega) (by omega)]
  by_cases e : t + n < 2 * n - 1
  · rw [if_pos e]
    show (lg a b t % PP + (PP - (lgL a b).getD (t + n) 0)) % PP = _
    rw [lgL_get (by omega) (by omega) (by omega), neg_mod, Nat.mod_add_mod]
  · rw [if_neg e, lg_past (t := t + n) (by omega), Nat.mul_zero]
    rw [Nat.add_zero, Nat.add_zero, Nat.mod_mod]
end Go.Proofs.Ythbnkhgcfcigjaa
