/- package order: next. package order: Next. -/
import Derived.Test.YtlnfmngginihfaaGreatDoorOA
import Derived.Test.YtlnfmngginihfaaGreatDoorFA
import Derived.Test.YtlnfmngginihfaaGreatDoorT2
set_option linter.unusedVariables false
set_option linter.unusedSimpArgs false
namespace Go.Proofs.YtlnfmngginihfaaGreatDoor
open Go.RowKit

/-- The neighbour of a float. -/
def nextF (k p : Int) (f : Fl) (up : Bool) : Fl :=
  if f.kind = 3 ∨ (f.kind = 2 ∧ f.neg ≠ up) then f
  else if f.kind = 0 then ⟨1, !up, ti k p, 1⟩
  else ⟨(decF k p (if f.neg = !up then encM k p f + 1 else encM k p f - 1)).kind, f.neg, (decF k p (if f.neg = !up then encM k p f + 1 else encM k p f - 1)).exp, (decF k p (if f.neg = !up then encM k p f + 1 else encM k p f - 1)).mag⟩
/-- What next hands back: a float whose words lie above b. -/
def NxR (w : World) (b : Nat) (f : Fl) (e : Ending) (w' : World) : Prop :=
  ∃ A c, e = .returned (flV f.kind f.neg f.exp (.slice A (cn f.mag).length c)) ∧ Own w' b (.slice A (cn f.mag).length c) (cn f.mag) ∧ Ext w w'
theorem boxesN (w : World) (k p : Int) (a b c d : Value) : ∀ W, W = (((w.alloc (.cells #[.int .i64 k, .int .i64 p] 23)).alloc (.cells #[a, b, c, d] 40)).alloc (.cells #[.int .i64 0, .bool false, .int .i64 0, .slice none 0 0] 40)) →
    Bf W w.heap.size (.int .i64 k) (.int .i64 p) ∧ Bx W (w.heap.size + 1) a b c d ∧ Bx W (w.heap.size + 1 + 1) (.int .i64 0) (.bool false) (.int .i64 0) (.slice none 0 0) ∧ Ext w W := boxesY w k p a b c d _ _ _ _
set_option maxHeartbeats 4000000 in
set_option maxRecDepth 100000 in
/-- NaN, and Infinity on its own side, stay. -/
theorem next_stay (k p : Int) (f : Fl) (up : Bool) (hs : f.kind = 3 ∨ (f.kind = 2 ∧ f.neg ≠ up)) (A : Option Addr) (c : Nat) (b : Nat) (w : World) (hb : b ≤ w.heap.size) (h : Own w b (.slice A (cn f.mag).length c) (cn f.mag)) :
    Calls Tryz.prog 25 #[.agg #[.int .i64 k, .int .i64 p], flV f.kind f.neg f.exp (.slice A (cn f.mag).length c), .bool up] w (NxR w b f) := by
  obtain ⟨hF, hX, hR, hE⟩ := boxesN w k p (.int .i64 f.kind) (.bool f.neg) (.int .i64 f.exp) (.slice A (cn f.mag).length c) _ rfl
  have hs' : ((f.kind == 3) = true) ∨ ((f.kind == 3) = false ∧ (f.kind == 2) = true ∧ (f.neg == up) = false) := by
    rcases hs with h1 | ⟨h1, h2⟩
    · exact .inl (by simpa using h1)
    · exact .inr ⟨by simp; omega, by simpa using h1, by simpa using h2⟩
  unfold NxR
  clear hs
  generalize cn f.mag = X at *
  generalize f.neg = fn at *
  generalize f.kind = fk at *
  generalize f.exp = fe at *
  obtain ⟨-, -, hR, hE⟩ := boxesY w k p (.int .i64 fk) (.bool fn) (.int .i64 fe) (.slice A X.length c) (.int .i64 fk) (.bool fn) (.int .i64 fe) (.slice A X.length c) _ rfl
  have HR := Lib.hid hR
  have HE := Lib.hid hE
  clear hR hE
  rcases hs' with e1 | ⟨e1, e2, e3⟩
  all_goals
    go_enter Tryz.func25, Tryz.ntmps25
    go_wp2
    obtain ⟨r0, r1, r2, r3, -⟩ := HR.out.facts
    refine bodyPost_ret (v := flV fk fn fe (.slice A X.length c)) (by simp [results, Tryz.results25, go_sem, r0, r1, r2, r3]) rfl ?_
    exact ⟨_, _, rfl, h.ext HE.out, HE.out⟩
set_option maxHeartbeats 4000000 in
set_option maxRecDepth 100000 in
/-- The neighbour of Zero. -/
theorem next_zero (k p : Int) (hRg : Rgt k p) (f : Fl) (up : Bool) (hs : f.kind = 0) (A : Option Addr) (c : Nat) (b : Nat) (w : World) (hb : b ≤ w.heap.size) :
    Calls Tryz.prog 25 #[.agg #[.int .i64 k, .int .i64 p], flV f.kind f.neg f.exp (.slice A (cn f.mag).length c), .bool up] w (NxR w b ⟨1, !up, ti k p, 1⟩) := by
  obtain ⟨hF, hX, hR, hE⟩ := boxesN w k p (.int .i64 f.kind) (.bool f.neg) (.int .i64 f.exp) (.slice A (cn f.mag).length c) _ rfl
  have hlm := fun w => limits_yes k p w hRg
  unfold NxR
  unfold LimR FlR at hlm
  simp only at hlm ⊢
  generalize ti k p = T at *
  generalize cn 1 = O1 at *
  generalize cn f.mag = X at *
  generalize f.neg = fn at *
  generalize f.kind = fk at *
  subst hs
  generalize f.exp = fe at *
  have HF := Lib.hid hF
  have HX := Lib.hid hX
  have HR := Lib.hid hR
  have HE := Lib.hid hE
  clear hF hX hR hE hRg
  go_enter Tryz.func25, Tryz.ntmps25
  go_wp2_with fail
  refine (hlm _).mono ?_
  rintro z w1 ⟨u1, u2, u3, rfl, ⟨v1, rfl, ho1⟩, ⟨v2, rfl, ho2⟩, ⟨v3, rfl, ho3⟩, hb1⟩
  have hR1 := HR.out.ext hb1
  have hE1 := HE.out.tr hb1
  obtain ⟨r0, r1, r2, r3, rf⟩ := hR1.facts
  have hrl := hR1.lt
  obtain ⟨A1, c1, rfl, -⟩ := ho1.rd
  obtain ⟨A2, c2, rfl, -⟩ := ho2.rd
  obtain ⟨A3, c3, rfl, -⟩ := ho3.rd
  clear ho1 ho2
  generalize (cn (2 ^ p.toNat - 1)).length = l1 at *
  have hrl1 : w.heap.size + 1 + 1 < w1.heap.size + 1 := by omega
  have hrl2 : w.heap.size + 1 + 1 < w1.heap.size + 1 + 1 := by omega
  have hrl3 : w.heap.size + 1 + 1 < w1.heap.size + 1 + 1 + 1 := by omega
  go_wp2
  have hR2 := (((hR1.put (.int .i64 1) (.bool (!up)) (.int .i64 T) (.slice A3 O1.length c3)).ext ((Ext.refl _).al (.cells #[.int .i64 1, .bool false, .int .i64 (gr k - p + 1), .slice A1 l1 c1] 40))).ext ((Ext.refl _).al (.cells #[.int .i64 1, .bool false, .int .i64 (le k), .slice A2 O1.length c2] 40))).ext ((Ext.refl _).al (.cells #[.int .i64 1, .bool (!up), .int .i64 T, .slice A3 O1.length c3] 40))
  have hE2 := (((hE1.put (g := w.heap.size + 1 + 1) (by omega) (.int .i64 1) (.bool (!up)) (.int .i64 T) (.slice A3 O1.length c3)).al (.cells #[.int .i64 1, .bool false, .int .i64 (gr k - p + 1), .slice A1 l1 c1] 40)).al (.cells #[.int .i64 1, .bool false, .int .i64 (le k), .slice A2 O1.length c2] 40)).al (.cells #[.int .i64 1, .bool (!up), .int .i64 T, .slice A3 O1.length c3] 40)
  have hsz := HR.out.lt
  have ho4 := ((((ho3.putBelow (g := w.heap.size + 1 + 1) (by omega) (.int .i64 1) (.bool (!up)) (.int .i64 T) (.slice A3 O1.length c3)).ext ((Ext.refl _).al (.cells #[.int .i64 1, .bool false, .int .i64 (gr k - p + 1), .slice A1 l1 c1] 40))).ext ((Ext.refl _).al (.cells #[.int .i64 1, .bool false, .int .i64 (le k), .slice A2 O1.length c2] 40))).ext ((Ext.refl _).al (.cells #[.int .i64 1, .bool (!up), .int .i64 T, .slice A3 O1.length c3] 40))).low (b := b) (by omega)
  obtain ⟨s0, s1, s2, s3, -⟩ := hR2.facts
  refine bodyPost_ret (v := flV 1 (!up) T (.slice A3 O1.length c3)) (by simp [results, Tryz.results25, go_sem, s0, s1, s2, s3]) rfl ?_
  exact ⟨_, _, rfl, ho4, hE2⟩
/-- The number of the neighbour, without its sign. -/
def nextN (k p : Int) (f : Fl) (up : Bool) : Nat := if f.neg = !up then encM k p f + 1 else encM k p f - 1
theorem encM_pos {k p : Int} {f : Fl} (hR : Rgt k p) (hf : FOf k p f) (h0 : f.kind ≠ 0) : 1 ≤ encM k p f := by
  obtain ⟨h1, h2, h3, h4⟩ := hR
  unfold encM
  rw [if_neg h0]
  split
  · rename_i hk
    have hm : 1 ≤ f.mag := by have := hf.ok.odd hk; omega
    split
    · exact Nat.mul_pos hm (Nat.two_pow_pos _)
    · exact Nat.le_trans (Nat.mul_pos hm (Nat.two_pow_pos _)) (Nat.le_add_left _ _)
  · have hk : 2 ≤ 2 ^ k.toNat := by
      have := Nat.pow_le_pow_right (n := 2) (by omega) (show 1 ≤ k.toNat by omega)
      omega
    exact Nat.le_trans (Nat.mul_pos (show 0 < 2 ^ k.toNat - 1 by omega) (Nat.two_pow_pos _)) (Nat.le_add_right _ _)
theorem nextN_dec {k p : Int} {f : Fl} (hR : Rgt k p) (hf : FOf k p f) (up : Bool) : nextN k p f up ≤ 2 ^ (k.toNat + p.toNat - 1) ∧ decE k p (cn (nextN k p f up)) = 0 ∧ (bl (nextN k p f up) : Int) ≤ k + p := by
  have hlt := enc_lt hR hf.ok hf.inn
  have hle : nextN k p f up ≤ 2 ^ (k.toNat + p.toNat - 1) := by unfold nextN; split <;> omega
  obtain ⟨h1, h2, h3, h4⟩ := hR
  have hb : bl (nextN k p f up) ≤ k.toNat + p.toNat := (bl_le _ _).2 (Nat.lt_of_le_of_lt hle (Nat.pow_lt_pow_right (by omega) (by omega)))
  have hl : (cn (nextN k p f up)).length ≤ 5 := cn_len_pow (m := k.toNat + p.toNat) (Nat.lt_of_le_of_lt hle (Nat.pow_lt_pow_right (by omega) (by omega))) (by omega)
  refine ⟨hle, ?_, by omega⟩
  unfold decE
  rw [if_neg (by omega), if_pos ⟨h1, h2, h3, h4⟩, if_neg (by rw [val_cn]; omega)]
set_option maxHeartbeats 4000000 in
set_option maxRecDepth 100000 in
/-- The neighbour of any other one. -/
theorem next_step (k p : Int) (hRg : Rgt k p) (f : Fl) (hf : FOf k p f) (up : Bool) (h3 : f.kind ≠ 3) (h0 : f.kind ≠ 0) (h2 : f.kind = 2 → f.neg = up) (A : Option Addr) (c : Nat) (b : Nat) (w : World) (hb : b ≤ w.heap.size) (hT : Tab w) (h : Rd w A c (cn f.mag)) :
    Calls Tryz.prog 25 #[.agg #[.int .i64 k, .int .i64 p], flV f.kind f.neg f.exp (.slice A (cn f.mag).length c), .bool up] w (NxR w b ⟨(decF k p (nextN k p f up)).kind, f.neg, (decF k p (nextN k p f up)).exp, (decF k p (nextN k p f up)).mag⟩) := by
  obtain ⟨hF, hX, hR, hE⟩ := boxesN w k p (.int .i64 f.kind) (.bool f.neg) (.int .i64 f.exp) (.slice A (cn f.mag).length c) _ rfl
  have hix := fun w hT h => index_c k p hRg f hf A c w hT h
  have hix2 : ∀ w, Tab w → Rd w A c (cn f.mag) → Calls Tryz.prog 28 #[.agg #[.int .i64 k, .int .i64 p], flV f.kind f.neg f.exp (.slice A (cn f.mag).length c)] w fun e w' => ∃ b A c, e = .returned (intV b A (cn (encM k p f)).length c) ∧ Rd w' A c (cn (encM k p f)) ∧ Ext w w' := by
    intro w hT h
    refine (hix w hT h).mono ?_
    rintro e w' ⟨A1, c1, rfl, ho, hb⟩
    rw [sg_abs] at ho ⊢
    exact ⟨_, A1, c1, rfl, ho.rdAt.2, hb⟩
  clear hix
  have hlm := encM_len hRg hf.ok hf.inn
  have hMp := encM_pos hRg hf h0
  have had := fun A1 A2 c1 w h1 h2 => add_c A1 A2 c1 1 (cn (encM k p f)) [1] w h1 h2 (by omega) (by simp)
  have hsb := fun A1 A2 c1 w h1 h2 => sub_c A1 A2 c1 1 (cn (encM k p f)) [1] w h1 h2 (by rw [val_cn, val_one]; exact hMp) (by omega)
  obtain ⟨-, hde, -⟩ := nextN_dec hRg hf up
  have hdc := fun A1 c1 w hT h => decode_c k p A1 c1 (cn (nextN k p f up)) w hT h
  simp only [hde, if_true, val_cn] at hdc
  rw [val_cn, val_one] at had hsb
  simp only [List.length_cons, List.length_nil, Nat.zero_add] at had hsb
  have hN : ((f.neg == !up) = true ∧ encM k p f + 1 = nextN k p f up) ∨ ((f.neg == !up) = false ∧ encM k p f - 1 = nextN k p f up) := by
    unfold nextN
    by_cases hn : f.neg = !up
    · exact .inl ⟨by simpa using hn, by rw [if_pos hn]⟩
    · exact .inr ⟨by rw [beq_eq_false_iff_ne]; exact hn, by rw [if_neg hn]⟩
  have e3 : (f.kind == 3) = false := by simpa using h3
  have e0 : (f.kind == 0) = false := by simpa using h0
  have e2 : ((f.kind == 2) = false) ∨ ((f.kind == 2) = true ∧ (f.neg == up) = true) := by
    by_cases hk : f.kind = 2
    · exact .inr ⟨by simpa using hk, by simpa using h2 hk⟩
    · exact .inl (by simpa using hk)
  unfold NxR
  unfold FErr FlR at hdc
  simp only at hdc ⊢
  generalize decF k p (nextN k p f up) = G at *
  generalize nextN k p f up = N at *
  generalize encM k p f = M at *
  clear hlm hMp h3 h0 h2 hde hRg hf
  generalize cn f.mag = X at *
  generalize f.neg = fn at *
  generalize f.kind = fk at *
  generalize f.exp = fe at *
  have HF := Lib.hid hF
  have HX := Lib.hid hX
  have HR := Lib.hid hR
  have HE := Lib.hid hE
  clear hF hX hR hE
  have hfd : ∀ (b : Bool) (A : Option Addr) (m c : Nat) (w : World), (Instr.field 49 (.agg #[.bool b, .slice A m c]) 1).run Tryz.prog w = .ok (.slice A m c) w := fun b A m c w => by kernel_rfl
  have hone := fun (w : World) => Rd.new1 w 1 (by rw [B_eq]; omega)
  rcases hN with ⟨hng, rfl⟩ | ⟨hng, rfl⟩ <;> rcases e2 with e2 | ⟨e2, e4⟩
  all_goals
    go_enter Tryz.func25, Tryz.ntmps25
    go_wp2_with fail
    have hF := HF.out
    have hX := HX.out
    have hR := HR.out
    have hE := HE.out
    have hsW : (((w.alloc (.cells #[.int .i64 k, .int .i64 p] 23)).alloc (.cells #[.int .i64 fk, .bool fn, .int .i64 fe, .slice A X.length c] 40)).alloc (.cells #[.int .i64 0, .bool false, .int .i64 0, .slice none 0 0] 40)).heap.size = w.heap.size + 1 + 1 + 1 := by simp only [World.size_alloc]
    clear HF HX HR HE
    generalize (((w.alloc (.cells #[.int .i64 k, .int .i64 p] 23)).alloc (.cells #[.int .i64 fk, .bool fn, .int .i64 fe, .slice A X.length c] 40)).alloc (.cells #[.int .i64 0, .bool false, .int .i64 0, .slice none 0 0] 40)) = W at *
    have hL := hone W
    rw [hsW] at hL
    have hsW' : w.heap.size + 1 + 1 + 1 ≤ W.heap.size := Nat.le_of_eq hsW.symm
    clear hsW hone
    have hA := (Ext.refl W).al (.cells #[.int .u64 1] 45)
    have hEA := hE.tr hA
    refine (hix2 _ (hT.ext hEA) (h.ext hEA)).mono ?_
    rintro e w5 ⟨bb, A5, c5, rfl, hr5, hb5⟩
    have hE5 := hEA.tr hb5
    have hF5 := (hF.ext hA).ext hb5
    have hX5 := (hX.ext hA).ext hb5
    have hR5 := (hR.ext hA).ext hb5
    have hL5 := hL.ext hb5
    clear hF hX hR hL hb5
    obtain ⟨f0, f1⟩ := hF5.facts
    obtain ⟨x0, x1, x2, x3, -⟩ := hX5.facts
    go_wp2_with fail
    first
      | refine (had A5 _ c5 _ hr5 hL5).mono ?_
      | refine (hsb A5 _ c5 _ hr5 hL5).mono ?_
    rintro e w6 ⟨v6, rfl, ho6, hb6⟩
    obtain ⟨A6, c6, rfl, hr6⟩ := ho6.rd
    have hE6 := hE5.tr hb6
    have hF6 := hF5.ext hb6
    have hX6 := hX5.ext hb6
    have hR6 := hR5.ext hb6
    clear f0 f1 x0 x1 x2 x3 hF5 hX5 hR5 hL5 hr5 ho6 hb6
    obtain ⟨f0, f1⟩ := hF6.facts
    obtain ⟨x0, x1, x2, x3, -⟩ := hX6.facts
    go_wp2_with fail
    refine (hdc A6 c6 _ (hT.ext hE6) hr6).mono ?_
    rintro e w7 ⟨u7, rfl, ⟨v7, rfl, ho7⟩, hb7⟩
    obtain ⟨A7, c7, rfl, -⟩ := ho7.rd
    have hE7 := hE6.tr hb7
    have hX7 := hX6.ext hb7
    have hR7 := hR6.ext hb7
    have hl6 := hR6.lt
    clear f0 f1 x0 x1 x2 x3 hF6 hX6 hR6
    obtain ⟨x0, x1, x2, x3, -⟩ := hX7.facts
    obtain ⟨r0, r1, r2, r3, rf⟩ := hR7.facts
    have hlx := hX7.lt
    have hlr := hR7.lt
    have hlr1 : w.heap.size + 1 + 1 < w7.heap.size + 1 := by omega
    go_wp2
  all_goals
    have hR8 := (hR7.put (.int .i64 G.kind) (.bool fn) (.int .i64 G.exp) (.slice A7 (cn G.mag).length c7)).ext ((Ext.refl _).al (.cells #[.int .i64 G.kind, .bool fn, .int .i64 G.exp, .slice A7 (cn G.mag).length c7] 40))
    have hE8 := (hE7.put (g := w.heap.size + 1 + 1) (by omega) (.int .i64 G.kind) (.bool fn) (.int .i64 G.exp) (.slice A7 (cn G.mag).length c7)).al (.cells #[.int .i64 G.kind, .bool fn, .int .i64 G.exp, .slice A7 (cn G.mag).length c7] 40)
    have hs5 := hA.size
    have hs6 := hE6.size
    have ho8 := ((ho7.putBelow (g := w.heap.size + 1 + 1) (by omega) (.int .i64 G.kind) (.bool fn) (.int .i64 G.exp) (.slice A7 (cn G.mag).length c7)).ext ((Ext.refl _).al (.cells #[.int .i64 G.kind, .bool fn, .int .i64 G.exp, .slice A7 (cn G.mag).length c7] 40))).low (b := b) (by omega)
    obtain ⟨s0, s1, s2, s3, -⟩ := hR8.facts
    refine bodyPost_ret (v := flV G.kind fn G.exp (.slice A7 (cn G.mag).length c7)) (by simp [results, Tryz.results25, go_sem, s0, s1, s2, s3]) rfl ?_
    exact ⟨_, _, rfl, ho8, hE8⟩
theorem nextF_other {k p : Int} {f : Fl} {up : Bool} (h1 : ¬ (f.kind = 3 ∨ (f.kind = 2 ∧ f.neg ≠ up))) (h0 : f.kind ≠ 0) :
    nextF k p f up = ⟨(decF k p (nextN k p f up)).kind, f.neg, (decF k p (nextN k p f up)).exp, (decF k p (nextN k p f up)).mag⟩ := by
  unfold nextF nextN
  rw [if_neg h1, if_neg h0]
theorem next_c (k p : Int) (hR : Rgt k p) (f : Fl) (hf : FOf k p f) (up : Bool) (A : Option Addr) (c : Nat) (b : Nat) (w : World) (hb : b ≤ w.heap.size) (hT : Tab w) (h : Own w b (.slice A (cn f.mag).length c) (cn f.mag)) :
    Calls Tryz.prog 25 #[.agg #[.int .i64 k, .int .i64 p], flV f.kind f.neg f.exp (.slice A (cn f.mag).length c), .bool up] w (NxR w b (nextF k p f up)) := by
  by_cases h1 : f.kind = 3 ∨ (f.kind = 2 ∧ f.neg ≠ up)
  · have e : nextF k p f up = f := by unfold nextF; rw [if_pos h1]
    rw [e]
    exact next_stay k p f up h1 A c b w hb h
  · by_cases h0 : f.kind = 0
    · have e : nextF k p f up = ⟨1, !up, ti k p, 1⟩ := by unfold nextF; rw [if_neg h1, if_pos h0]
      rw [e]
      exact next_zero k p hR f up h0 A c b w hb
    · rw [nextF_other h1 h0]
      refine next_step k p hR f hf up (fun e => h1 (.inl e)) h0 (fun e => ?_) A c b w hb hT h.rdAt.2
      by_cases hn : f.neg = up
      · exact hn
      · exact absurd (.inr ⟨e, hn⟩) h1
end Go.Proofs.YtlnfmngginihfaaGreatDoor
namespace Go.Proofs.YtlnfmngginihfaaGreatDoor
open Go.RowKit

theorem cell_put_far {w : World} {g q i : Nat} {x : Value} (hne : ¬ g = q) (h : w.cell? ⟨q, i, none⟩ = some x) (a b c d : Value) :
    ((((w.setCell ⟨g, 0, none⟩ a).setCell ⟨g, 1, none⟩ b).setCell ⟨g, 2, none⟩ c).setCell ⟨g, 3, none⟩ d).cell? ⟨q, i, none⟩ = some x := by
  rw [World.cell?_setCell_far _ _ _ _ hne, World.cell?_setCell_far _ _ _ _ hne, World.cell?_setCell_far _ _ _ _ hne, World.cell?_setCell_far _ _ _ _ hne, h]
theorem OwnF.lt1 {w : World} {base : Nat} {v : Value} {fs : List Fl} (h : OwnF w base v fs) : ∀ q, v.ownBlock = some q → base ≤ q := by
  obtain ⟨us, -, hw, -⟩ := h.own
  exact fun q e => (hw.lt q e).1
set_option maxHeartbeats 4000000 in
set_option maxRecDepth 100000 in
theorem Next_bad (k p : Int) (a : FA) (ec : Int) (hfl : FlsS k p [a] = (ec, [])) (he : ec ≠ 0) (up : Bool) (w : World) (hT : Tab w) (ha : Rd w a.A a.c a.xs) :
    Calls Tryz.prog 12 #[.agg #[.int .i64 k, .int .i64 p], a.v, .bool up] w (FErr w ec ⟨0, false, 0, 0⟩) := by
  obtain ⟨hF, hX, hR, hE⟩ := boxesN w k p (.int .i64 a.k) (.bool a.neg) (.int .i64 a.e) (.slice a.A a.xs.length a.c) _ rfl
  have hfl' := fun A c w hT h => floats_c k p A c [a] w hT h
  rw [hfl] at hfl'
  have hbe : (ec != 0) = true := by rw [bne_iff_ne]; exact he
  clear hfl he
  obtain ⟨ak, an, ae, aA, ac, axs⟩ := a
  simp only at ha hF hX hR hE
  have HR := Lib.hid hR
  have HE := Lib.hid hE
  clear hF hX hR hE
  go_enter Tryz.func12, Tryz.ntmps12
  go_wp2_with fail
  have hR := HR.out
  have hE := HE.out
  have hsW : (((w.alloc (.cells #[.int .i64 k, .int .i64 p] 23)).alloc (.cells #[.int .i64 ak, .bool an, .int .i64 ae, .slice aA axs.length ac] 40)).alloc (.cells #[.int .i64 0, .bool false, .int .i64 0, .slice none 0 0] 40)).heap.size = w.heap.size + 1 + 1 + 1 := by simp only [World.size_alloc]
  clear HR HE
  generalize (((w.alloc (.cells #[.int .i64 k, .int .i64 p] 23)).alloc (.cells #[.int .i64 ak, .bool an, .int .i64 ae, .slice aA axs.length ac] 40)).alloc (.cells #[.int .i64 0, .bool false, .int .i64 0, .slice none 0 0] 40)) = W at *
  have hA := (Ext.refl W).al (.cells #[.int .i64 ak, .bool an, .int .i64 ae, .slice aA axs.length ac] 40)
  have hL := FRd.one (a := ⟨ak, an, ae, aA, ac, axs⟩) (Bx.new W (.int .i64 ak) (.bool an) (.int .i64 ae) (.slice aA axs.length ac)) (ha.ext (hE.tr hA))
  rw [hsW] at hL
  clear hsW
  refine (hfl' _ _ _ (hT.ext (hE.tr hA)) hL).mono ?_
  rintro e w2 ⟨v, rfl, -, hb2⟩
  have hR2 := (hR.ext hA).ext hb2
  have hE2 := (hE.tr hA).tr hb2
  obtain ⟨r0, r1, r2, r3, rf⟩ := hR2.facts
  go_wp2
  have hR3 := hR2.put (.int .i64 0) (.bool false) (.int .i64 0) (.slice none 0 0)
  have hE3 := hE2.put (g := w.heap.size + 1 + 1) (by omega) (.int .i64 0) (.bool false) (.int .i64 0) (.slice none 0 0)
  obtain ⟨s0, s1, s2, s3, -⟩ := hR3.facts
  refine bodyPost_ret (v := .tuple #[flV 0 false 0 (.slice none 0 0), .int .i64 ec]) (by simp [results, Tryz.results12, go_sem, s0, s1, s2, s3]) rfl ?_
  exact FErr.bad hE3
set_option maxHeartbeats 4000000 in
set_option maxRecDepth 100000 in
theorem Next_good (k p : Int) (hRg : Rgt k p) (a : FA) (f : Fl) (hf : FOf k p f) (hfl : FlsS k p [a] = (0, [f])) (up : Bool) (w : World) (hT : Tab w) (ha : Rd w a.A a.c a.xs) :
    Calls Tryz.prog 12 #[.agg #[.int .i64 k, .int .i64 p], a.v, .bool up] w (FErr w 0 (nextF k p f up)) := by
  obtain ⟨hF, hX, hR, hE⟩ := boxesN w k p (.int .i64 a.k) (.bool a.neg) (.int .i64 a.e) (.slice a.A a.xs.length a.c) _ rfl
  have hfl' := fun A c w hT h => floats_c k p A c [a] w hT h
  have hnx := fun A c b w hb hT h => next_c k p hRg f hf up A c b w hb hT h
  rw [hfl] at hfl'
  clear hfl hf
  unfold FErr FlR
  unfold NxR at hnx
  generalize nextF k p f up = G at *
  obtain ⟨ak, an, ae, aA, ac, axs⟩ := a
  simp only at ha hF hX hR hE
  have HF := Lib.hid hF
  have HR := Lib.hid hR
  have HE := Lib.hid hE
  clear hF hX hR hE
  go_enter Tryz.func12, Tryz.ntmps12
  go_wp2_with fail
  have hF := HF.out
  have hR := HR.out
  have hE := HE.out
  have hsW : (((w.alloc (.cells #[.int .i64 k, .int .i64 p] 23)).alloc (.cells #[.int .i64 ak, .bool an, .int .i64 ae, .slice aA axs.length ac] 40)).alloc (.cells #[.int .i64 0, .bool false, .int .i64 0, .slice none 0 0] 40)).heap.size = w.heap.size + 1 + 1 + 1 := by simp only [World.size_alloc]
  clear HF HR HE
  generalize (((w.alloc (.cells #[.int .i64 k, .int .i64 p] 23)).alloc (.cells #[.int .i64 ak, .bool an, .int .i64 ae, .slice aA axs.length ac] 40)).alloc (.cells #[.int .i64 0, .bool false, .int .i64 0, .slice none 0 0] 40)) = W at *
  have hA := (Ext.refl W).al (.cells #[.int .i64 ak, .bool an, .int .i64 ae, .slice aA axs.length ac] 40)
  have hL := FRd.one (a := ⟨ak, an, ae, aA, ac, axs⟩) (Bx.new W (.int .i64 ak) (.bool an) (.int .i64 ae) (.slice aA axs.length ac)) (ha.ext (hE.tr hA))
  rw [hsW] at hL
  have hsW' : w.heap.size + 1 + 1 + 1 ≤ W.heap.size := Nat.le_of_eq hsW.symm
  clear hsW
  refine (hfl' _ _ _ (hT.ext (hE.tr hA)) hL).mono ?_
  rintro e w2 ⟨v, rfl, hof, hb2⟩
  have hqlt := hof.lt1
  obtain ⟨q, A1, c1, c2, rfl, q0, q1, q2, q3, -, ho1⟩ := hof.one
  have hq := hqlt q rfl
  have hs1 := hA.size
  have hs2 := hb2.size
  have hF2 := (hF.ext hA).ext hb2
  have hR2 := (hR.ext hA).ext hb2
  have hE2 := (hE.tr hA).tr hb2
  have hn0 : ¬ (w.heap.size + 1 + 1 = q) := by omega
  have hn9 : ¬ (w.heap.size + 1 + 1 = w.heap.size) := by omega
  have hb : w.heap.size + 1 + 1 + 1 ≤ w2.drew.heap.size := Nat.le_trans (show _ ≤ w2.heap.size by omega) (Ext.refl w2).drew.size
  have ho2 := ho1.low (b := w.heap.size + 1 + 1 + 1) (by omega)
  obtain ⟨f0, f1⟩ := hF2.facts
  clear hL hof hqlt hq hs1 hs2
  go_wp2_with fail
  go_region_held3 (fun w' => w'.cell? ⟨w.heap.size, 0, none⟩ = some (.int .i64 k) ∧ w'.cell? ⟨w.heap.size, 1, none⟩ = some (.int .i64 p) ∧ w'.cell? ⟨q, 0, none⟩ = some (.int .i64 f.kind) ∧ w'.cell? ⟨q, 1, none⟩ = some (.bool f.neg) ∧ w'.cell? ⟨q, 2, none⟩ = some (.int .i64 f.exp) ∧ w'.cell? ⟨q, 3, none⟩ = some (.slice A1 (cn f.mag).length c1))
    (first | go_keep | (go_split_ands; refine ⟨?_, ?_, ?_, ?_, ?_, ?_⟩ <;> first | assumption | (refine Ext.cell (w := w2) ?_ ?_ <;> assumption)))
    (first
      | (go_at_call 25; (with_reducible refine (hnx A1 c1 (w.heap.size + 1 + 1 + 1) w2.drew hb (hT.ext hE2.drew) (ho2.ext (Ext.refl w2).drew)).mono ?_); rintro e w3 ⟨A3, c3, rfl, ho3, hb3⟩; have hE3 : Ext w2 w3 := (Ext.refl w2).drew.tr hb3; obtain ⟨r0, r1, r2, r3, rf⟩ := (hR2.ext hE3).facts))
  go_wp2
  have hR3 := (hR2.ext hE3).put (.int .i64 G.kind) (.bool G.neg) (.int .i64 G.exp) (.slice A3 (cn G.mag).length c3)
  have hE4 := (hE2.tr hE3).put (g := w.heap.size + 1 + 1) (by omega) (.int .i64 G.kind) (.bool G.neg) (.int .i64 G.exp) (.slice A3 (cn G.mag).length c3)
  have ho4 := (ho3.putBelow (g := w.heap.size + 1 + 1) (by omega) (.int .i64 G.kind) (.bool G.neg) (.int .i64 G.exp) (.slice A3 (cn G.mag).length c3)).low (b := w.heap.size) (by omega)
  obtain ⟨s0, s1, s2, s3, -⟩ := hR3.facts
  refine bodyPost_ret (v := .tuple #[flV G.kind G.neg G.exp (.slice A3 (cn G.mag).length c3), .int .i64 0]) (by simp [results, Tryz.results12, go_sem, s0, s1, s2, s3]) rfl ?_
  exact ⟨_, rfl, ⟨_, rfl, ho4⟩, hE4⟩
end Go.Proofs.YtlnfmngginihfaaGreatDoor
