/- The reference's order by value is that of the indices: the plain law. The error of floats in both sides' words. Lemmas that the walks of chapter 21 share: boxes, what check tells, Next of a canonical float in new memory. -/
import Derived.Test.YtcdgkhmiolhfdaaGreatDoorTE
import Derived.Test.YtcdgkhmiolhfdaaGreatDoorOE
import Derived.Test.YtcdgkhmiolhfdaaGreatDoorOF
set_option linter.unusedVariables false
set_option linter.unusedSimpArgs false
namespace Go.Proofs.YtcdgkhmiolhfdaaGreatDoor
open Go.RowKit

theorem mapM_all {l : List FA} {k p : Int} : (l.mapM fun a => holdS k p a.can) = none ↔ l.all (fun a => (holdS k p a.can).isSome) = false := by
  induction l with
  | nil => simp
  | cons a l ih =>
    rw [List.mapM_cons, List.all_cons]
    cases h : holdS k p a.can with
    | none => simp
    | some f =>
      simp only [Option.isSome_some, Bool.true_and, ← ih]
      cases (l.mapM fun a => holdS k p a.can) <;> simp
/-- Floats' error of floats that are not large is the reference's. -/
theorem FlsS_chk {k p : Int} {l : List FA} (hs : ∀ a ∈ l, a.xs.length ≤ 4096) (hc : chkS k p l ≠ 0) : FlsS k p l = (chkS k p l, []) := by
  have h0 : ¬ l.any (fun a => decide (4096 < a.xs.length)) = true := by
    intro h
    obtain ⟨a, ha, h2⟩ := List.any_eq_true.1 h
    have := hs a ha
    have := of_decide_eq_true h2
    omega
  unfold FlsS chkS at *
  rw [if_neg h0]
  by_cases hR : Rgt k p
  · rw [if_pos hR] at hc ⊢
    rw [if_pos hR]
    cases hA : l.all (fun a => (holdS k p a.can).isSome) with
    | true => rw [hA] at hc; exact absurd rfl hc
    | false =>
      rw [mapM_all.2 hA]
      rfl
  · rw [if_neg hR, if_neg hR]

/-- The rank of a float, the order of the sizes of two finite ones, and that of two floats. -/
def rk0 (kd : Int) : Int := if kd = 2 then 2 else if kd = 1 then 1 else 0
def rkF (f : Fl) : Int := if f.neg = true then -rk0 f.kind else rk0 f.kind
def szF (f g : Fl) : Int :=
  if (bl f.mag : Int) - 1 + f.exp = (bl g.mag : Int) - 1 + g.exp then (if g.exp ≤ f.exp then cmp3 (f.mag * 2 ^ (f.exp - g.exp).toNat) g.mag else cmp3 f.mag (g.mag * 2 ^ (g.exp - f.exp).toNat))
  else sgn ((bl f.mag : Int) - 1 + f.exp - ((bl g.mag : Int) - 1 + g.exp))
def cmF (f g : Fl) : Int := if rkF f ≠ rkF g ∨ (rkF f ≠ 1 ∧ rkF f ≠ -1) then sgn (rkF f - rkF g) else if rkF f < 0 then -szF f g else szF f g
theorem cmp3_congr {a b c d : Nat} (h : a < b ↔ c < d) (h' : b < a ↔ d < c) : cmp3 a b = cmp3 c d := by
  rcases Nat.lt_trichotomy a b with h1 | h1 | h1
  · rw [cmp3_lt h1, cmp3_lt (h.1 h1)]
  · have : c = d := by
      have n1 : ¬ c < d := fun h2 => by have := h.2 h2; omega
      have n2 : ¬ d < c := fun h2 => by have := h'.2 h2; omega
      omega
    rw [cmp3_eq h1, cmp3_eq this]
  · rw [cmp3_gt h1, cmp3_gt (h'.1 h1)]
theorem cmp3_sgn (a b : Nat) : cmp3 a b = sgn ((a : Int) - b) := by
  unfold cmp3 sgn
  (repeat' split) <;> omega
theorem shape_lt {P d M d' M' : Nat} (hM : M < 2 * P) (hM' : M' < 2 * P) (h : 0 < d → P ≤ M) (h' : 0 < d' → P ≤ M') : M * 2 ^ d < M' * 2 ^ d' ↔ d * P + M < d' * P + M' := by
  have key : ∀ {d M d' M' : Nat}, M < 2 * P → (0 < d' → P ≤ M') → d < d' → M * 2 ^ d < M' * 2 ^ d' ∧ d * P + M < d' * P + M' := by
    intro d M d' M' hM h' hd
    have hP := h' (by omega)
    obtain ⟨j, rfl⟩ : ∃ j, d' = d + 1 + j := ⟨d' - d - 1, by omega⟩
    constructor
    · have h1 : M * 2 ^ d < 2 * P * 2 ^ d := Nat.mul_lt_mul_of_pos_right hM (Nat.two_pow_pos d)
      have h2 : P * 2 ^ (d + 1) ≤ M' * 2 ^ (d + 1 + j) := Nat.mul_le_mul hP (Nat.pow_le_pow_right (by omega) (by omega))
      rw [Nat.pow_succ] at h2
      have h3 : 2 * P * 2 ^ d = P * (2 ^ d * 2) := by rw [Nat.mul_comm 2 P, Nat.mul_assoc, Nat.mul_comm 2]
      omega
    · rw [Nat.add_mul, Nat.add_mul, Nat.one_mul]
      have : 0 ≤ j * P := Nat.zero_le _
      omega
  rcases Nat.lt_trichotomy d d' with hd | hd | hd
  · exact ⟨fun _ => (key hM h' hd).2, fun _ => (key hM h' hd).1⟩
  · subst hd
    rw [Nat.add_lt_add_iff_left]
    exact Nat.mul_lt_mul_right (Nat.two_pow_pos d)
  · have := key hM' h hd
    constructor <;> intro h1 <;> omega
/-- The number of a finite float, and its value, by a step and a significand. -/
theorem enc_shape {k p : Int} {f : Fl} (hR : Rgt k p) (hf : FOf k p f) (h1 : f.kind = 1) :
    ∃ d M, encM k p f = d * 2 ^ (p.toNat - 1) + M ∧ f.mag * 2 ^ (f.exp - ti k p).toNat = M * 2 ^ d ∧ M < 2 * 2 ^ (p.toNat - 1) ∧ (0 < d → 2 ^ (p.toNat - 1) ≤ M) := by
  obtain ⟨i1, i2, i3⟩ := hf.inn h1
  have ho := odd_pos hf.ok h1
  have hb := bl_pos ho
  obtain ⟨hk1, hk2, hp1, hp2⟩ := hR
  have hle : le k = 1 - gr k := rfl
  have hti : ti k p = le k - (p - 1) := rfl
  unfold encM
  rw [if_neg (by omega), if_pos h1]
  by_cases hs : f.exp + bl f.mag - 1 < le k
  · rw [if_pos hs]
    refine ⟨0, f.mag * 2 ^ (f.exp - ti k p).toNat, by omega, by omega, ?_, fun h => absurd h (by omega)⟩
    have hm := bl_lt (n := f.mag)
    have h2 : f.mag * 2 ^ (f.exp - ti k p).toNat < 2 ^ bl f.mag * 2 ^ (f.exp - ti k p).toNat := Nat.mul_lt_mul_of_pos_right hm (Nat.two_pow_pos _)
    rw [← Nat.pow_add] at h2
    have h3 : 2 ^ (bl f.mag + (f.exp - ti k p).toNat) ≤ 2 ^ (p.toNat - 1) := Nat.pow_le_pow_right (by omega) (by omega)
    omega
  · rw [if_neg hs]
    refine ⟨(f.exp + bl f.mag - 1 + gr k - 1).toNat, f.mag * 2 ^ (p - bl f.mag).toNat, rfl, ?_, ?_, fun _ => ?_⟩
    · rw [Nat.mul_assoc, ← Nat.pow_add]
      congr 2
      omega
    · have hm := bl_lt (n := f.mag)
      have h2 : f.mag * 2 ^ (p - bl f.mag).toNat < 2 ^ bl f.mag * 2 ^ (p - bl f.mag).toNat := Nat.mul_lt_mul_of_pos_right hm (Nat.two_pow_pos _)
      rw [← Nat.pow_add] at h2
      have h3 : 2 ^ (bl f.mag + (p - bl f.mag).toNat) = 2 * 2 ^ (p.toNat - 1) := by rw [← Nat.pow_succ']; congr 1; omega
      omega
    · have hm := bl_ge ho
      have h2 : 2 ^ (bl f.mag - 1) * 2 ^ (p - bl f.mag).toNat ≤ f.mag * 2 ^ (p - bl f.mag).toNat := Nat.mul_le_mul_right _ hm
      rw [← Nat.pow_add] at h2
      have h3 : 2 ^ (bl f.mag - 1 + (p - bl f.mag).toNat) = 2 ^ (p.toNat - 1) := by congr 1; omega
      omega
theorem encM_mono {k p : Int} {f g : Fl} (hR : Rgt k p) (hf : FOf k p f) (hg : FOf k p g) (h1 : f.kind = 1) (h2 : g.kind = 1) :
    f.mag * 2 ^ (f.exp - ti k p).toNat < g.mag * 2 ^ (g.exp - ti k p).toNat ↔ encM k p f < encM k p g := by
  obtain ⟨d, M, a1, a2, a3, a4⟩ := enc_shape hR hf h1
  obtain ⟨d', M', b1, b2, b3, b4⟩ := enc_shape hR hg h2
  rw [a1, a2, b1, b2]
  exact shape_lt a3 b3 a4 b4
theorem at_lt {m e n e' : Nat} (hn : 0 < n) (h : bl m + e < bl n + e') : m * 2 ^ e < n * 2 ^ e' := by
  have h1 : m * 2 ^ e < 2 ^ bl m * 2 ^ e := Nat.mul_lt_mul_of_pos_right bl_lt (Nat.two_pow_pos e)
  have h2 : 2 ^ (bl n - 1) * 2 ^ e' ≤ n * 2 ^ e' := Nat.mul_le_mul_right _ (bl_ge hn)
  rw [← Nat.pow_add] at h1 h2
  have hb := bl_pos hn
  have h3 : 2 ^ (bl m + e) ≤ 2 ^ (bl n - 1 + e') := Nat.pow_le_pow_right (by omega) (by omega)
  omega
theorem szF_enc {k p : Int} {f g : Fl} (hR : Rgt k p) (hf : FOf k p f) (hg : FOf k p g) (h1 : f.kind = 1) (h2 : g.kind = 1) :
    szF f g = sgn ((encM k p f : Int) - encM k p g) := by
  rw [← cmp3_sgn, ← cmp3_congr (encM_mono hR hf hg h1 h2) (encM_mono hR hg hf h2 h1)]
  obtain ⟨-, i2, -⟩ := hf.inn h1
  obtain ⟨-, j2, -⟩ := hg.inn h2
  have hof := odd_pos hf.ok h1
  have hog := odd_pos hg.ok h2
  generalize ti k p = T at *
  unfold szF
  by_cases ha : (bl f.mag : Int) - 1 + f.exp = (bl g.mag : Int) - 1 + g.exp
  · rw [if_pos ha]
    by_cases he : g.exp ≤ f.exp
    · rw [if_pos he]
      have e1 : f.mag * 2 ^ (f.exp - T).toNat = f.mag * 2 ^ (f.exp - g.exp).toNat * 2 ^ (g.exp - T).toNat := by rw [Nat.mul_assoc, ← Nat.pow_add]; congr 2; omega
      rw [e1]
      exact cmp3_congr (Nat.mul_lt_mul_right (Nat.two_pow_pos _)).symm (Nat.mul_lt_mul_right (Nat.two_pow_pos _)).symm
    · rw [if_neg he]
      have e1 : g.mag * 2 ^ (g.exp - T).toNat = g.mag * 2 ^ (g.exp - f.exp).toNat * 2 ^ (f.exp - T).toNat := by rw [Nat.mul_assoc, ← Nat.pow_add]; congr 2; omega
      rw [e1]
      exact cmp3_congr (Nat.mul_lt_mul_right (Nat.two_pow_pos _)).symm (Nat.mul_lt_mul_right (Nat.two_pow_pos _)).symm
  · rw [if_neg ha]
    by_cases hl : (bl f.mag : Int) - 1 + f.exp < (bl g.mag : Int) - 1 + g.exp
    · rw [cmp3_lt (at_lt hog (by omega))]
      unfold sgn
      rw [if_pos (by omega)]
    · rw [cmp3_gt (at_lt hof (by omega))]
      unfold sgn
      rw [if_neg (by omega), if_pos (by omega)]
theorem cmF_idx {k p : Int} {f g : Fl} (hR : Rgt k p) (hf : FOf k p f) (hg : FOf k p g) (h3 : f.kind ≠ 3) (h3' : g.kind ≠ 3) : cmF f g = sgn (idx k p f - idx k p g) := by
  have hkf := hf.ok.kind
  have hkg := hg.ok.kind
  have zf : f.kind = 0 → encM k p f = 0 := enc_zero
  have zg : g.kind = 0 → encM k p g = 0 := enc_zero
  have ff : f.kind = 1 → encM k p f < infN k p := enc_fin hR hf
  have fg : g.kind = 1 → encM k p g < infN k p := enc_fin hR hg
  have nf : f.kind = 2 → encM k p f = infN k p := enc_inf
  have ng : g.kind = 2 → encM k p g = infN k p := enc_inf
  have pf : f.kind ≠ 0 → 1 ≤ encM k p f := encM_pos hR hf
  have pg : g.kind ≠ 0 → 1 ≤ encM k p g := encM_pos hR hg
  have hs : f.kind = 1 → g.kind = 1 → szF f g = sgn ((encM k p f : Int) - encM k p g) := fun h1 h2 => szF_enc hR hf hg h1 h2
  unfold cmF idx sg rkF rk0
  generalize szF f g = S at *
  generalize encM k p f = E at *
  generalize encM k p g = E' at *
  generalize infN k p = I at *
  have hsg : ∀ z, sgn z = if z < 0 then -1 else if 0 < z then 1 else 0 := fun _ => rfl
  simp only [hsg] at hs ⊢
  have c1 : f.kind = 0 ∨ f.kind = 1 ∨ f.kind = 2 := by omega
  have c2 : g.kind = 0 ∨ g.kind = 1 ∨ g.kind = 2 := by omega
  generalize f.kind = kf at *
  generalize g.kind = kg at *
  rcases c1 with rfl | rfl | rfl <;> rcases c2 with rfl | rfl | rfl <;> cases f.neg <;> cases g.neg
  all_goals simp at *
  all_goals (repeat' split) <;> omega
end Go.Proofs.YtcdgkhmiolhfdaaGreatDoor
namespace Go.Proofs.YtcdgkhmiolhfdaaGreatDoor
open Go.RowKit

theorem boxesU (w : World) (k p : Int) (a : FA) : ∀ W, W = ((w.alloc (.cells #[.int .i64 k, .int .i64 p] 23)).alloc (.cells #[.int .i64 a.k, .bool a.neg, .int .i64 a.e, .slice a.A a.xs.length a.c] 28)) →
    Bf W w.heap.size (.int .i64 k) (.int .i64 p) ∧ Bx W (w.heap.size + 1) (.int .i64 a.k) (.bool a.neg) (.int .i64 a.e) (.slice a.A a.xs.length a.c) ∧ Ext w W ∧ W.heap.size = w.heap.size + 1 + 1 := by
  rintro W rfl
  have x := Bx.new (w.alloc (.cells #[.int .i64 k, .int .i64 p] 23)) (.int .i64 a.k) (.bool a.neg) (.int .i64 a.e) (.slice a.A a.xs.length a.c)
  rw [World.size_alloc] at x
  exact ⟨(Bf.new w _ _).ext ((Ext.refl _).al _), x, ((Ext.refl w).al _).al _, by simp only [World.size_alloc]⟩
theorem chk_good {k p : Int} {l : List FA} (h : chkS k p l = 0) : Rgt k p ∧ ∀ a ∈ l, ∃ f, a.can = some f ∧ InF k p f := by
  unfold chkS at h
  by_cases hR : Rgt k p
  · rw [if_pos hR] at h
    refine ⟨hR, fun a ha => ?_⟩
    by_cases hl : l.all (fun a => (holdS k p a.can).isSome) = true
    · have := List.all_eq_true.1 hl a ha
      cases hc : a.can with
      | none => rw [hc] at this; simp [holdS] at this
      | some f =>
        refine ⟨f, rfl, ?_⟩
        by_cases hin : InF k p f
        · exact hin
        · rw [hc] at this; simp [holdS, hin] at this
    · rw [if_neg hl] at h; cases h
  · rw [if_neg hR] at h; cases h
theorem of_good {k p : Int} {a : FA} {f : Fl} (hc : a.can = some f) (hin : InF k p f) (hw : W64 a.xs) (hl : a.xs.length ≤ 4096) : FOf k p f :=
  ⟨canon_ok hc, hin, Nat.le_trans (cn_len_of_le hw (canon_mag hc)) hl⟩
/-- The next neighbour of a canonical float that lies in new memory. -/
theorem Next_own {k p : Int} (hR : Rgt k p) {f : Fl} (hf : FOf k p f) (up : Bool) (A : Option Addr) (c : Nat) (w : World) (hT : Tab w) (h : Rd w A c (cn f.mag)) :
    Calls Tryz.prog 22 #[.agg #[.int .i64 k, .int .i64 p], flV f.kind f.neg f.exp (.slice A (cn f.mag).length c), .bool up] w (FErr w 0 (nextF k p f up)) :=
  Next_good k p hR ⟨f.kind, f.neg, f.exp, A, c, cn f.mag⟩ f hf (FlsS_one_ok hR hf.len (can_self hf.ok A c) hf.inn) up w hT h
theorem boxesV2 (w : World) (k p : Int) (a b : FA) : ∀ W, W = (((w.alloc (.cells #[.int .i64 k, .int .i64 p] 23)).alloc (.cells #[.int .i64 a.k, .bool a.neg, .int .i64 a.e, .slice a.A a.xs.length a.c] 28)).alloc (.cells #[.int .i64 b.k, .bool b.neg, .int .i64 b.e, .slice b.A b.xs.length b.c] 28)) →
    Bf W w.heap.size (.int .i64 k) (.int .i64 p) ∧ Bx W (w.heap.size + 1) (.int .i64 a.k) (.bool a.neg) (.int .i64 a.e) (.slice a.A a.xs.length a.c) ∧ Bx W (w.heap.size + 1 + 1) (.int .i64 b.k) (.bool b.neg) (.int .i64 b.e) (.slice b.A b.xs.length b.c) ∧ Ext w W ∧ W.heap.size = w.heap.size + 1 + 1 + 1 := by
  rintro W rfl
  obtain ⟨h1, h2, h3, h4⟩ := boxesT w k p a b _ rfl
  exact ⟨h1, h2, h3, h4, by simp only [World.size_alloc]⟩
end Go.Proofs.YtcdgkhmiolhfdaaGreatDoor
