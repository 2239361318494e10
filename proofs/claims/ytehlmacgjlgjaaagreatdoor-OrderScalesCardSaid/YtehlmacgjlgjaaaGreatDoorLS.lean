/- The reference of chapter 16 (floor, Log, Exponent, Steps, Rounded, beyond, Scaled, Round), Scale of chapter 21, Fits; OrderScales: the walk. -/
import Derived.Test.YtehlmacgjlgjaaaGreatDoorN3
import Derived.Test.YtehlmacgjlgjaaaGreatDoorTB
import Derived.Test.YtehlmacgjlgjaaaGreatDoorR8
import Derived.Test.YtehlmacgjlgjaaaGreatDoorQ0
import Derived.Test.YtehlmacgjlgjaaaGreatDoorR4
import Derived.Test.YtehlmacgjlgjaaaGreatDoorY4
import Derived.Test.YtehlmacgjlgjaaaGreatDoorS5
import Derived.Test.YtehlmacgjlgjaaaGreatDoorV5
import Derived.Test.YtehlmacgjlgjaaaGreatDoorU4
import Derived.Test.YtehlmacgjlgjaaaGreatDoorN9
import Derived.Test.YtehlmacgjlgjaaaGreatDoorS2
import Derived.Test.YtehlmacgjlgjaaaGreatDoorS3
import Derived.Test.YtehlmacgjlgjaaaGreatDoorOE
set_option linter.unusedVariables false
set_option linter.unusedSimpArgs false
namespace Go.Proofs.YtehlmacgjlgjaaaGreatDoor
open Go.RowKit
attribute [local go_sem ↓] Go.wp_at_zero Go.wp_at_succ

theorem cn_1 : cn 1 = [1] := by
  show digs B 1 = [1]
  rw [digs, dif_neg (by rw [B_eq]; omega), show 1 % B = 1 from Nat.mod_eq_of_lt (by rw [B_eq]; omega), show 1 / B = 0 from Nat.div_eq_of_lt (by rw [B_eq]; omega), digs_zero]
theorem cn_len_e {n e k : Nat} (h : n < 2 ^ e) (he : e ≤ 64 * k) : (cn n).length ≤ k := by
  refine (cn_len_le _ _).2 ?_
  rw [B_two, ← Nat.pow_mul]
  exact Nat.lt_of_lt_of_le h (Nat.pow_le_pow_right (by omega) he)
/-- A real number that is an integer times a power of 2. -/
abbrev realV (neg : Bool) (v1 v2 : Value) (exp : Int) : Value := .agg #[.bool neg, v1, v2, .int .i64 exp, .int .i64 1]
/-- A box of five cells, known whole. -/
structure Bz (w : World) (g : Nat) (a b c d e : Value) : Prop where
  h : w.heap[g]? = some (.cells #[a, b, c, d, e] 80 (0, 0))
theorem Bz.ext {w w' : World} {g : Nat} {a b c d e : Value} (x : Bz w g a b c d e) (h : Ext w w') : Bz w' g a b c d e := ⟨(h.block g (Array.getElem?_eq_some_iff.1 x.h).1).trans x.h⟩
theorem Bz.facts {w : World} {g : Nat} {a b c d e : Value} (x : Bz w g a b c d e) : w.cell? ⟨g, 0, none⟩ = some a ∧ w.cell? ⟨g, 1, none⟩ = some b ∧ w.cell? ⟨g, 2, none⟩ = some c ∧ w.cell? ⟨g, 3, none⟩ = some d ∧ w.cell? ⟨g, 4, none⟩ = some e ∧
    (∀ i, w.frozen? ⟨g, i, none⟩ = false) := by
  have h := x.h
  refine ⟨?_, ?_, ?_, ?_, ?_, fun i => by simp [World.frozen?, h]⟩ <;> rw [cell_of_row w g _ _ _ _ h] <;> rfl
theorem Bz.new (w : World) (a b c d e : Value) : Bz (w.alloc (.cells #[a, b, c, d, e] 80)) w.heap.size a b c d e := ⟨heap_alloc_new w _⟩
theorem Bz.lt {w : World} {g : Nat} {a b c d e : Value} (x : Bz w g a b c d e) : g < w.heap.size := (Array.getElem?_eq_some_iff.1 x.h).1
theorem Bz.put {w : World} {g : Nat} {a b c d e : Value} (x : Bz w g a b c d e) (a' b' c' d' e' : Value) : Bz (((((w.setCell ⟨g, 0, none⟩ a').setCell ⟨g, 1, none⟩ b').setCell ⟨g, 2, none⟩ c').setCell ⟨g, 3, none⟩ d').setCell ⟨g, 4, none⟩ e') g a' b' c' d' e' := by
  have h := x.h
  constructor
  simp [World.setCell, Array.getElem?_modify, h]
set_option maxHeartbeats 400000 in
theorem floor_c (a : Int) (w : World) (h1 : -100000000 ≤ a) (h2 : a ≤ 100000000) : Calls Tryz.prog 103 #[.int .i64 a, .int .i64 1] w fun e w' => e = .returned (.int .i64 a) ∧ w = w' := by
  go_enter Tryz.func103, Tryz.ntmps103
  go_wp2
  go_ret
  exact ⟨rfl, rfl⟩
theorem bl_one' : bl 1 = 1 := bl_unique (by decide) (by decide)
set_option maxHeartbeats 2000000 in
set_option maxRecDepth 100000 in
theorem log_c (A A' : Option Addr) (c c' m : Nat) (exp : Int) (w : World) (h : Rd w A c (cn m)) (h' : Rd w A' c' (cn 1)) (hm : 0 < m) (hl : (cn m).length ≤ 4096) (h1 : -10000000 ≤ exp) (h2 : exp ≤ 10000000) :
    Calls Tryz.prog 104 #[.slice A (cn m).length c, .slice A' (cn 1).length c', .int .i64 exp] w fun e w' => e = .returned (.int .i64 ((bl m : Int) - 1 + exp)) ∧ Ext w w' := by
  have hbm : bl m ≤ 262144 := by
    have h2 := bl_val_le (W64.cn m)
    rw [val_cn] at h2
    omega
  have hb0 := bl_pos hm
  have hge := bl_ge hm
  have hln1 := fun w h => rlen_c A c (cn m) w h (by omega)
  have hln2 := fun w h => rlen_c A' c' (cn 1) w h (by rw [cn_1]; simp)
  have hlf1 := fun S w h h0 hs => rleft_i A c (cn m) S w h h0 hs (by omega)
  have hlf2 := fun S w h h0 hs => rleft_i A' c' (cn 1) S w h h0 hs (by rw [cn_1]; simp)
  rw [val_cn] at hln1 hln2 hlf1 hlf2
  rw [bl_one'] at hln2
  rcases Nat.lt_or_ge 1 (bl m) with hb | hb
  · obtain ⟨d, hd⟩ : ∃ d : Nat, (bl m : Int) - 1 = (d : Int) := ⟨bl m - 1, by omega⟩
    have hd0 : decide ((0 : Int) < (d : Int)) = true := decide_eq_true (by omega)
    have hd0' : decide (0 < d) = true := decide_eq_true (by omega)
    have hlf := fun w h => hlf2 (d : Int) w h (by omega) (by omega)
    rw [Nat.one_mul, Int.toNat_natCast] at hlf
    have hc : ∃ t, cmp3 m (2 ^ d) = t ∧ decide (t < 0) = false := by
      refine ⟨_, rfl, ?_⟩
      rw [show bl m - 1 = d by omega] at hge
      unfold cmp3
      rw [if_neg (by omega)]
      split <;> decide
    obtain ⟨t, ht, htb⟩ := hc
    have hol : (cn (2 ^ d)).length ≤ 10000000 := by
      have h5 := cn_len_e (n := 2 ^ d) (e := d + 1) (k := 5000) (Nat.pow_lt_pow_right (by omega) (by omega)) (by omega)
      omega
    have hcm := fun A1 c1 w h h1 => rcmp_c A A1 c c1 (cn m) (cn (2 ^ d)) w h h1 (by omega) hol
    rw [val_cn, val_cn, ht] at hcm
    rw [hd]
    clear hm hge ht hlf1 hlf2 hb0 hol
    generalize bl m = bm at *
    generalize 2 ^ d = D at *
    have hd1 : d ≤ 262144 := by omega
    have hdb : (bm : Int) - 1 = (d : Int) := hd
    clear hd
    generalize cn m = X at *
    generalize cn D = Y at *
    generalize cn 1 = O at *
    go_enter Tryz.func104, Tryz.ntmps104
    go_wp2_with fail
    refine (hln1 _ h).mono ?_
    rintro z w1 ⟨rfl, rfl⟩
    go_wp2_with fail
    refine (hln2 _ h').mono ?_
    rintro z w1 ⟨rfl, rfl⟩
    go_wp2_with fail
    refine (hlf _ h').mono ?_
    rintro z w2 ⟨v, rfl, ho2, hb2⟩
    obtain ⟨A2, c2, rfl, hr2⟩ := ho2.rd
    go_wp2_with fail
    refine (hcm _ _ _ (h.ext hb2) hr2).mono ?_
    rintro z w3 ⟨rfl, hb3⟩
    go_wp2
    go_ret
    exact ⟨rfl, hb2.tr hb3⟩
  · have e1 : bl m = 1 := by omega
    have hm1 : m = 1 := by
      have := bl_lt (n := m)
      rw [e1] at this
      omega
    subst hm1
    have hlf := fun w h => hlf1 0 w h (by omega) (by omega)
    rw [Nat.one_mul, show (2 : Nat) ^ (0 : Int).toNat = 1 from rfl] at hlf
    have hcm := fun A1 c1 w h h1 => rcmp_c A1 A' c1 c' (cn 1) (cn 1) w h h1 (by rw [cn_1]; simp) (by rw [cn_1]; simp)
    rw [val_cn, show cmp3 1 1 = 0 from rfl] at hcm
    rw [bl_one'] at hln1 ⊢
    clear hlf1 hlf2 hge hb0 hb e1 hbm hm hl
    generalize cn 1 = O at *
    go_enter Tryz.func104, Tryz.ntmps104
    go_wp2_with fail
    refine (hln1 _ h).mono ?_
    rintro z w1 ⟨rfl, rfl⟩
    go_wp2_with fail
    refine (hln2 _ h').mono ?_
    rintro z w1 ⟨rfl, rfl⟩
    go_wp2_with fail
    refine (hlf _ h).mono ?_
    rintro z w2 ⟨v, rfl, ho2, hb2⟩
    obtain ⟨A2, c2, rfl, hr2⟩ := ho2.rd
    go_wp2_with fail
    refine (hcm _ _ _ hr2 (h'.ext hb2)).mono ?_
    rintro z w3 ⟨rfl, hb3⟩
    go_wp2
    go_ret
    exact ⟨by simp, hb2.tr hb3⟩
set_option maxHeartbeats 1000000 in
set_option maxRecDepth 100000 in
theorem exponent16_c (neg : Bool) (A A' : Option Addr) (c c' m : Nat) (exp : Int) (w : World) (h : Rd w A c (cn m)) (h' : Rd w A' c' (cn 1)) (hm : 0 < m) (hl : (cn m).length ≤ 4096) (h1 : -10000000 ≤ exp) (h2 : exp ≤ 10000000) :
    Calls Tryz.prog 68 #[realV neg (.slice A (cn m).length c) (.slice A' (cn 1).length c') exp] w fun e w' => e = .returned (.int .i64 ((bl m : Int) - 1 + exp)) ∧ Ext w w' := by
  have hbm : bl m ≤ 262144 := by
    have h2 := bl_val_le (W64.cn m)
    rw [val_cn] at h2
    omega
  have hlg := fun w h h' => log_c A A' c c' m exp w h h' hm hl h1 h2
  have hfl : ∀ w, Calls Tryz.prog 103 #[.int .i64 ((bl m : Int) - 1 + exp), .int .i64 1] w fun e w' => e = .returned (.int .i64 ((bl m : Int) - 1 + exp)) ∧ w = w' := fun w => floor_c _ w (by omega) (by omega)
  have hZ := Bz.new w (.bool neg) (.slice A (cn m).length c) (.slice A' (cn 1).length c') (.int .i64 exp) (.int .i64 1)
  have hE := (Ext.refl w).al (.cells #[.bool neg, .slice A (cn m).length c, .slice A' (cn 1).length c', .int .i64 exp, .int .i64 1] 80)
  obtain ⟨E, hEx⟩ : ∃ E, (bl m : Int) - 1 + exp = E := ⟨_, rfl⟩
  rw [hEx] at hlg hfl ⊢
  clear hEx hbm hm hl h1 h2
  generalize cn m = X at *
  generalize cn 1 = O at *
  have HZ := Lib.hid hZ
  have HE := Lib.hid hE
  clear hZ hE
  go_enter Tryz.func68, Tryz.ntmps68
  go_wp2_with fail
  have hZ := HZ.out
  have hE := HE.out
  clear HZ HE
  generalize w.alloc (.cells #[.bool neg, .slice A X.length c, .slice A' O.length c', .int .i64 exp, .int .i64 1] 80) = W at *
  obtain ⟨z0, z1, z2, z3, z4, -⟩ := hZ.facts
  have z1' := Later.cell z1
  have z2' := Later.cell z2
  have z3' := Later.cell z3
  have z4' := Later.cell z4
  refine wp_region_later (by kernel_rfl) (by kernel_rfl) ?_
  repeat (go_big_quiet_step (first
    | (go_at_call 104; (with_reducible refine Calls.later (hlg _ (h.ext (hE.tr (Later.h _))) (h'.ext (hE.tr (Later.h _))))))
    | (go_at_call 103; (with_reducible refine Calls.later_same (hfl _)))
    | fail))
  refine wpQuiet_nil ?_
  intro wq hw'
  obtain ⟨⟨_, hq⟩, rfl⟩ := hw'
  have hEq := hE.tr hq
  clear z0 z1 z2 z3 z4 z1' z2' z3' z4' hlg hfl
  go_wp2
  go_ret
  exact ⟨rfl, hEq⟩
end Go.Proofs.YtehlmacgjlgjaaaGreatDoor
namespace Go.Proofs.YtehlmacgjlgjaaaGreatDoor
open Go.RowKit
attribute [local go_sem ↓] Go.wp_at_zero Go.wp_at_succ

/-- A box of a part, known whole. -/
structure Bt (w : World) (g : Nat) (a b c : Value) : Prop where
  h : w.heap[g]? = some (.cells #[a, b, c] 125 (0, 0))
theorem Bt.ext {w w' : World} {g : Nat} {a b c : Value} (x : Bt w g a b c) (h : Ext w w') : Bt w' g a b c := ⟨(h.block g (Array.getElem?_eq_some_iff.1 x.h).1).trans x.h⟩
theorem Bt.facts {w : World} {g : Nat} {a b c : Value} (x : Bt w g a b c) : w.cell? ⟨g, 0, none⟩ = some a ∧ w.cell? ⟨g, 1, none⟩ = some b ∧ w.cell? ⟨g, 2, none⟩ = some c ∧ (∀ i, w.frozen? ⟨g, i, none⟩ = false) := by
  have h := x.h
  refine ⟨?_, ?_, ?_, fun i => by simp [World.frozen?, h]⟩ <;> rw [cell_of_row w g _ _ _ _ h] <;> rfl
theorem Bt.new (w : World) (a b c : Value) : Bt (w.alloc (.cells #[a, b, c] 125)) w.heap.size a b c := ⟨heap_alloc_new w _⟩
theorem Bt.put {w : World} {g : Nat} {a b c : Value} (x : Bt w g a b c) (a' b' c' : Value) : Bt (((w.setCell ⟨g, 0, none⟩ a').setCell ⟨g, 1, none⟩ b').setCell ⟨g, 2, none⟩ c') g a' b' c' := by
  have h := x.h
  constructor
  simp [World.setCell, Array.getElem?_modify, h]
theorem Bt.lt {w : World} {g : Nat} {a b c : Value} (x : Bt w g a b c) : g < w.heap.size := (Array.getElem?_eq_some_iff.1 x.h).1
theorem Ext.put3 {w w1 : World} (h : Ext w w1) {g : Nat} (hg : w.heap.size ≤ g) (a b c : Value) : Ext w (((w1.setCell ⟨g, 0, none⟩ a).setCell ⟨g, 1, none⟩ b).setCell ⟨g, 2, none⟩ c) := ((h.set hg 0 a).set hg 1 b).set hg 2 c
theorem Own.put3 {w : World} {base : Nat} {v : Value} {xs : List Nat} (h : Own w base v xs) {g : Nat} (hg : g < base) (a b c : Value) : Own (((w.setCell ⟨g, 0, none⟩ a).setCell ⟨g, 1, none⟩ b).setCell ⟨g, 2, none⟩ c) base v xs :=
  ((h.setBelow (a := ⟨g, 0, none⟩) hg a).setBelow (a := ⟨g, 1, none⟩) hg b).setBelow (a := ⟨g, 2, none⟩) hg c
/-- A part in new memory. -/
def PartR (w : World) (n : Nat) (h t : Bool) (e : Ending) (w' : World) : Prop := ∃ v, e = .returned (.agg #[v, .bool h, .bool t]) ∧ Own w' w.heap.size v (cn n) ∧ Ext w w'
theorem boxesSt (w : World) (neg : Bool) (v1 v2 : Value) (exp : Int) : ∀ W, W = ((w.alloc (.cells #[.bool neg, v1, v2, .int .i64 exp, .int .i64 1] 80)).alloc (.cells #[.slice none 0 0, .bool false, .bool false] 125)) →
    Bz W w.heap.size (.bool neg) v1 v2 (.int .i64 exp) (.int .i64 1) ∧ Bt W (w.heap.size + 1) (.slice none 0 0) (.bool false) (.bool false) ∧ Ext w W := by
  rintro W rfl
  have x2 := Bt.new (w.alloc (.cells #[.bool neg, v1, v2, .int .i64 exp, .int .i64 1] 80)) (.slice none 0 0) (.bool false) (.bool false)
  rw [World.size_alloc] at x2
  exact ⟨(Bz.new w _ _ _ _ _).ext ((Ext.refl _).al _), x2, ((Ext.refl w).al _).al _⟩
set_option maxHeartbeats 2000000 in
set_option maxRecDepth 100000 in
theorem steps_c (neg : Bool) (A A' : Option Addr) (c c' m : Nat) (exp s : Int) (w : World) (h : Rd w A c (cn m)) (h' : Rd w A' c' (cn 1)) (hl : (cn m).length ≤ 4096) (h1 : -3000000 ≤ exp) (h2 : exp ≤ 3000000) (h3 : -3000000 ≤ s) (h4 : s ≤ 3000000) :
    Calls Tryz.prog 73 #[realV neg (.slice A (cn m).length c) (.slice A' (cn 1).length c') exp, .int .i64 s] w (PartR w (cutM m (s - exp)) ((rfQ m (1 - (s - exp))).testBit 0) (rfT m (1 - (s - exp)))) := by
  obtain ⟨hZ, hY, hE⟩ := boxesSt w neg (.slice A (cn m).length c) (.slice A' (cn 1).length c') exp _ rfl
  rw [← (rf_cut m (s - exp)).1]
  obtain ⟨a, ha⟩ : ∃ a, 1 - (s - exp) = a := ⟨_, rfl⟩
  have haw : exp - (s - 1) = a := by omega
  rw [ha]
  clear ha
  obtain ⟨q, hq⟩ : ∃ q, rfQ m a = q := ⟨_, rfl⟩
  obtain ⟨t, ht⟩ : ∃ t, rfT m a = t := ⟨_, rfl⟩
  rw [hq, ht]
  have hbm : bl m ≤ 262144 := by
    have h2 := bl_val_le (W64.cn m)
    rw [val_cn] at h2
    omega
  have hql : (cn q).length ≤ 200000 := by
    rw [← hq]
    unfold rfQ
    split
    · refine cn_len_e (e := bl m + a.toNat) ?_ (by omega)
      rw [Nat.pow_add]
      exact Nat.mul_lt_mul_of_pos_right bl_lt (Nat.two_pow_pos _)
    · exact cn_len_e (e := bl m) (Nat.lt_of_le_of_lt (Nat.div_le_self _ _) bl_lt) (by omega)
  have hrt := fun A1 c1 w h => rright_c A1 c1 (cn q) 1 w h (by omega) (by omega)
  have hbt := fun A1 c1 w h => rbit_c A1 c1 (cn q) 0 w h (by omega)
  rw [val_cn, show (2 : Nat) ^ 1 = 2 from rfl] at hrt
  rw [val_cn] at hbt
  have hz0 := fun A1 c1 w h => riszero_c A1 c1 (cn 0) w h (by rw [show cn 0 = [] from digs_zero B]; simp)
  rw [val_cn, show decide (0 = 0) = true from rfl] at hz0
  generalize q.testBit 0 = hb at *
  generalize q / 2 = q2 at *
  unfold PartR
  rcases Int.lt_or_le a 0 with han | hap
  · obtain ⟨j, hj⟩ : ∃ j : Nat, -a = (j : Int) := ⟨(-a).toNat, by omega⟩
    have hjt : (-a).toNat = j := by omega
    have hq' : m / 2 ^ j = q := by rw [← hq]; unfold rfQ; rw [if_neg (by omega), hjt]
    have ht' : decide (m % 2 ^ j ≠ 0) = t := by rw [← ht]; unfold rfT; rw [if_neg (by omega), hjt]
    have hrj := fun A1 c1 w h => rright_c A1 c1 (cn m) j w h (by omega) (by omega)
    have hlw := fun A1 c1 w h => rlow_c A1 c1 (cn m) j w h (by omega) (by omega)
    have hlm : (cn (m % 2 ^ j)).length ≤ 10000000 := Nat.le_trans (cn_len_mono (Nat.mod_le _ _)) (by omega)
    have hz1 := fun A1 c1 w h => riszero_c A1 c1 (cn (m % 2 ^ j)) w h (by omega)
    rw [val_cn] at hrj hlw hz1
    rw [hq'] at hrj
    have hte : decide (m % 2 ^ j = 0) = !t := by rw [← ht']; by_cases hh : m % 2 ^ j = 0 <;> simp [hh]
    rw [hte] at hz1
    have hdm := fun w h h' => rdivmod_c A A' c c' (cn m) (cn 1) w h h' (by rw [val_cn]; omega) (by omega) (by rw [cn_1]; simp)
    unfold QrR at hdm
    rw [val_cn, val_cn, Nat.div_one, Nat.mod_one] at hdm
    have had : decide (0 ≤ a) = false := decide_eq_false (by omega)
    have hjb : j ≤ 6000000 := by omega
    clear hq ht hq' ht' hte hql hbm hlm hjt
    generalize m % 2 ^ j = l at *
    generalize cn m = X at *
    generalize cn l = L at *
    generalize cn 1 = O at *
    generalize cn q = Q at *
    generalize cn 0 = Z0 at *
    have HZ := Lib.hid hZ
    have HY := Lib.hid hY
    have HE := Lib.hid hE
    clear hZ hY hE
    go_enter Tryz.func73, Tryz.ntmps73
    go_wp2_with fail
    have hZ := HZ.out
    have hY := HY.out
    have hE := HE.out
    clear HZ HE HY
    generalize ((w.alloc (.cells #[.bool neg, .slice A X.length c, .slice A' O.length c', .int .i64 exp, .int .i64 1] 80)).alloc (.cells #[.slice none 0 0, .bool false, .bool false] 125)) = W at *
    obtain ⟨z0, z1, z2, z3, z4, -⟩ := hZ.facts
    go_wp2_with fail
    refine (hdm _ (h.ext hE) (h'.ext hE)).mono ?_
    rintro z w6 ⟨v, v', rfl, ho6, ho6', hb6⟩
    obtain ⟨A6, c6, rfl, hr6⟩ := ho6.rd
    obtain ⟨A7, c7, rfl, hr7⟩ := ho6'.rd
    go_wp2_with fail
    refine (hrj _ _ _ hr6).mono ?_
    rintro z w7 ⟨v, rfl, ho7, hb7⟩
    obtain ⟨A8, c8, rfl, hr8⟩ := ho7.rd
    go_wp2_with fail
    refine (hz0 _ _ _ (hr7.ext hb7)).mono ?_
    rintro z w8 ⟨rfl, rfl⟩
    go_wp2_with fail
    refine (hlw _ _ _ (hr6.ext hb7)).mono ?_
    rintro z w8 ⟨v, rfl, ho8, hb8⟩
    obtain ⟨A0, c0, rfl, hr0⟩ := ho8.rd
    go_wp2_with fail
    refine (hz1 _ _ _ hr0).mono ?_
    rintro z w9 ⟨rfl, rfl⟩
    have hW8 := (hb6.tr hb7).tr hb8
    have hrq8 := hr8.ext hb8
    rcases t with _ | _
    all_goals simp only [Bool.not_false, Bool.not_true]
    · have hE8 := hE.tr hW8
      have hY8 := hY.ext hW8
      have hZ8 := hZ.ext hW8
      have hlY := hY.lt
      have hsE := hE.size
      clear z0 z1 z2 z3 z4
      obtain ⟨z0, z1, z2, z3, z4, -⟩ := hZ8.facts
      go_wp2_with fail
      refine (hrt _ _ _ hrq8).mono ?_
      rintro z w9 ⟨v9, rfl, ho9, hb9⟩
      obtain ⟨A9, c9, rfl, -⟩ := ho9.rd
      go_wp2_with fail
      refine (hbt _ _ _ (hrq8.ext hb9)).mono ?_
      rintro z w10 ⟨rfl, rfl⟩
      have hY9 := hY8.ext hb9
      have hE9 := hE8.tr hb9
      have hs8 := hE8.size
      have hY10 := hY9.put (.slice A9 (cn q2).length c9) (.bool hb) (.bool false)
      have hE10 := hE9.put3 (g := w.heap.size + 1) (by omega) (.slice A9 (cn q2).length c9) (.bool hb) (.bool false)
      have ho10 := (ho9.put3 (g := w.heap.size + 1) hY8.lt (.slice A9 (cn q2).length c9) (.bool hb) (.bool false)).low (b := w.heap.size) hs8
      have HY10 := Lib.hid hY10
      have HE10 := Lib.hid hE10
      have HO10 := Lib.hid ho10
      clear hY10 hE10 ho10 z0 z1 z2 z3 z4
      obtain ⟨y0, y1, y2, yf⟩ := hY9.facts
      go_wp2_with fail
      obtain ⟨s0, s1, s2, -⟩ := HY10.out.facts
      refine bodyPost_ret (v := .agg #[.slice A9 (cn q2).length c9, .bool hb, .bool false]) (by simp [results, Tryz.results73, go_sem, s0, s1, s2]) rfl ?_
      exact ⟨_, rfl, HO10.out, HE10.out⟩
    · have hE8 := hE.tr hW8
      have hY8 := hY.ext hW8
      have hZ8 := hZ.ext hW8
      have hlY := hY.lt
      have hsE := hE.size
      clear z0 z1 z2 z3 z4
      obtain ⟨z0, z1, z2, z3, z4, -⟩ := hZ8.facts
      go_wp2_with fail
      refine (hrt _ _ _ hrq8).mono ?_
      rintro z w9 ⟨v9, rfl, ho9, hb9⟩
      obtain ⟨A9, c9, rfl, -⟩ := ho9.rd
      go_wp2_with fail
      refine (hbt _ _ _ (hrq8.ext hb9)).mono ?_
      rintro z w10 ⟨rfl, rfl⟩
      have hY9 := hY8.ext hb9
      have hE9 := hE8.tr hb9
      have hs8 := hE8.size
      have hY10 := hY9.put (.slice A9 (cn q2).length c9) (.bool hb) (.bool true)
      have hE10 := hE9.put3 (g := w.heap.size + 1) (by omega) (.slice A9 (cn q2).length c9) (.bool hb) (.bool true)
      have ho10 := (ho9.put3 (g := w.heap.size + 1) hY8.lt (.slice A9 (cn q2).length c9) (.bool hb) (.bool true)).low (b := w.heap.size) hs8
      have HY10 := Lib.hid hY10
      have HE10 := Lib.hid hE10
      have HO10 := Lib.hid ho10
      clear hY10 hE10 ho10 z0 z1 z2 z3 z4
      obtain ⟨y0, y1, y2, yf⟩ := hY9.facts
      go_wp2_with fail
      obtain ⟨s0, s1, s2, -⟩ := HY10.out.facts
      refine bodyPost_ret (v := .agg #[.slice A9 (cn q2).length c9, .bool hb, .bool true]) (by simp [results, Tryz.results73, go_sem, s0, s1, s2]) rfl ?_
      exact ⟨_, rfl, HO10.out, HE10.out⟩
  · have hq' : m * 2 ^ a.toNat = q := by rw [← hq]; unfold rfQ; rw [if_pos hap]
    have ht' : t = false := by rw [← ht]; unfold rfT; rw [if_pos hap]
    subst ht'
    have hlf := fun w h => rleft_i A c (cn m) a w h hap (by omega) (by omega)
    rw [val_cn, hq'] at hlf
    have hdm := fun A1 c1 w h h' => rdivmod_c A1 A' c1 c' (cn q) (cn 1) w h h' (by rw [val_cn]; omega) (by omega) (by rw [cn_1]; simp)
    unfold QrR at hdm
    rw [val_cn, val_cn, Nat.div_one, Nat.mod_one] at hdm
    have had : decide (0 ≤ a) = true := decide_eq_true hap
    clear hq ht hq' hql hbm
    generalize cn m = X at *
    generalize cn 1 = O at *
    generalize cn q = Q at *
    generalize cn 0 = Z0 at *
    have HZ := Lib.hid hZ
    have HY := Lib.hid hY
    have HE := Lib.hid hE
    clear hZ hY hE
    go_enter Tryz.func73, Tryz.ntmps73
    go_wp2_with fail
    have hZ := HZ.out
    have hY := HY.out
    have hE := HE.out
    clear HZ HE HY
    generalize ((w.alloc (.cells #[.bool neg, .slice A X.length c, .slice A' O.length c', .int .i64 exp, .int .i64 1] 80)).alloc (.cells #[.slice none 0 0, .bool false, .bool false] 125)) = W at *
    obtain ⟨z0, z1, z2, z3, z4, -⟩ := hZ.facts
    go_wp2_with fail
    go_region_held3 (fun w' => w'.cell? ⟨w.heap.size, 1, none⟩ = some (.slice A X.length c) ∧ w'.cell? ⟨w.heap.size, 2, none⟩ = some (.slice A' O.length c'))
      (first | go_keep | (go_split_ands; refine ⟨?_, ?_⟩ <;> (refine Ext.cell (w := W) (by assumption) ?_; assumption)))
      (first
        | (go_at_call 109; (with_reducible refine (hlf _ ?hr).mono ?_); (case hr => exact (h.ext hE).drew); rintro z w5 ⟨v, rfl, ho5, hb5⟩; obtain ⟨A5, c5, rfl, hr5⟩ := ho5.rd; have hE5 : Ext W w5 := (Ext.refl W).drew.tr hb5)
        | (go_at_call 108; (with_reducible refine (hdm A5 c5 _ hr5 (h'.ext (hE.tr hE5))).mono ?_); rintro z w6 ⟨v, v', rfl, ho6, ho6', hb6⟩; obtain ⟨A6, c6, rfl, hr6⟩ := ho6.rd; obtain ⟨A7, c7, rfl, hr7⟩ := ho6'.rd; have hE6 : Ext W w6 := hE5.tr hb6))
    go_wp2_with fail
    refine (hz0 _ _ _ hr7).mono ?_
    rintro z w7 ⟨rfl, rfl⟩
    have hW8 := hE6
    have hrq8 := hr6
    have hE8 := hE.tr hW8
    have hY8 := hY.ext hW8
    have hZ8 := hZ.ext hW8
    have hlY := hY.lt
    have hsE := hE.size
    clear z0 z1 z2 z3 z4
    obtain ⟨z0, z1, z2, z3, z4, -⟩ := hZ8.facts
    go_wp2_with fail
    refine (hrt _ _ _ hrq8).mono ?_
    rintro z w9 ⟨v9, rfl, ho9, hb9⟩
    obtain ⟨A9, c9, rfl, -⟩ := ho9.rd
    go_wp2_with fail
    refine (hbt _ _ _ (hrq8.ext hb9)).mono ?_
    rintro z w10 ⟨rfl, rfl⟩
    have hY9 := hY8.ext hb9
    have hE9 := hE8.tr hb9
    have hs8 := hE8.size
    have hY10 := hY9.put (.slice A9 (cn q2).length c9) (.bool hb) (.bool false)
    have hE10 := hE9.put3 (g := w.heap.size + 1) (by omega) (.slice A9 (cn q2).length c9) (.bool hb) (.bool false)
    have ho10 := (ho9.put3 (g := w.heap.size + 1) hY8.lt (.slice A9 (cn q2).length c9) (.bool hb) (.bool false)).low (b := w.heap.size) hs8
    have HY10 := Lib.hid hY10
    have HE10 := Lib.hid hE10
    have HO10 := Lib.hid ho10
    clear hY10 hE10 ho10 z0 z1 z2 z3 z4
    obtain ⟨y0, y1, y2, yf⟩ := hY9.facts
    go_wp2_with fail
    obtain ⟨s0, s1, s2, -⟩ := HY10.out.facts
    refine bodyPost_ret (v := .agg #[.slice A9 (cn q2).length c9, .bool hb, .bool false]) (by simp [results, Tryz.results73, go_sem, s0, s1, s2]) rfl ?_
    exact ⟨_, rfl, HO10.out, HE10.out⟩
end Go.Proofs.YtehlmacgjlgjaaaGreatDoor
namespace Go.Proofs.YtehlmacgjlgjaaaGreatDoor
open Go.RowKit
attribute [local go_sem ↓] Go.wp_at_zero Go.wp_at_succ

/-- A number and a bool. -/
def NbR (w : World) (n : Nat) (b : Bool) (e : Ending) (w' : World) : Prop := ∃ A c, e = .returned (.tuple #[.slice A (cn n).length c, .bool b]) ∧ Rd w' A c (cn n) ∧ Ext w w'
set_option maxHeartbeats 8000000 in
set_option maxRecDepth 100000 in
theorem rounded_c (r : Int) (neg hh tt : Bool) (A : Option Addr) (c n : Nat) (w : World) (hr0 : 0 ≤ r) (hr4 : r ≤ 4) (h : Rd w A c (cn n)) (hl : (cn n).length ≤ 1000000) :
    Calls Tryz.prog 72 #[.int .i64 r, .bool neg, .agg #[.slice A (cn n).length c, .bool hh, .bool tt]] w (NbR w (upN r neg n (xOf hh tt)) (!hh && !tt)) := by
  have hX := Bt.new w (.slice A (cn n).length c) (.bool hh) (.bool tt)
  have hE := (Ext.refl w).al (.cells #[.slice A (cn n).length c, .bool hh, .bool tt] 125)
  have hbt := fun w h => rbit_c A c (cn n) 0 w h (by omega)
  have hfr : ∀ w, Calls Tryz.prog 77 #[.int .u64 1] w (Res w (cn 1)) := fun w => rfrom_c 1 w (by rw [B_eq]; omega)
  have had := fun A' c' w h h' => radd_c A A' c c' (cn n) (cn 1) w h h' (by omega) (by rw [cn_1]; simp)
  rw [val_cn] at hbt had
  rw [val_cn] at had
  unfold NbR
  obtain ⟨ob, hob⟩ : ∃ ob, n.testBit 0 = ob := ⟨_, rfl⟩
  obtain ⟨N, hN⟩ : ∃ N, upN r neg n (xOf hh tt) = N := ⟨_, rfl⟩
  rw [hN]
  unfold upN at hN
  rw [hob] at hN hbt
  clear hob hl
  have h' := h.ext hE
  have HX := Lib.hid hX
  have HE := Lib.hid hE
  clear hX hE
  have hr : r = 0 ∨ r = 1 ∨ r = 2 ∨ r = 3 ∨ r = 4 := by omega
  clear hr0 hr4
  rcases hr with rfl | rfl | rfl | rfl | rfl
  · cases hh <;> cases tt <;> cases ob
    all_goals
      simp [moreB, xOf] at hN
      subst hN
      go_enter Tryz.func72, Tryz.ntmps72
      go_wp2_with fail
      have hX := HX.out
      have hE := HE.out
      generalize w.alloc (.cells #[.slice A (cn n).length c, .bool _, .bool _] 125) = W at *
      obtain ⟨x0, x1, x2, -⟩ := hX.facts
      go_wp2_with (first
        | (go_at_call 106; refine (hbt _ h').mono ?_; rintro z w1 ⟨rfl, rfl⟩))
      first
        | (go_ret2; exact ⟨_, _, rfl, h', hE⟩)
        | (go_region_held3 (fun w' => w'.cell? ⟨w.heap.size, 0, none⟩ = some (.slice A (cn n).length c))
            (first | go_keep | (refine Ext.cell (w := W) (by assumption) ?_; assumption))
            (first
              | (go_at_call 77; (with_reducible refine (hfr _).mono ?_); rintro z w5 ⟨v, rfl, ho5, hb5⟩; obtain ⟨A5, c5, rfl, hr5⟩ := ho5.rd; have hE5 : Ext W w5 := (Ext.refl W).drew.tr hb5)
              | (go_at_call 107; (with_reducible refine (had A5 c5 _ (h'.ext hE5) hr5).mono ?_); rintro z w6 ⟨v, rfl, ho6, hb6⟩; obtain ⟨A6, c6, rfl, hr6⟩ := ho6.rd; have hE6 : Ext W w6 := hE5.tr hb6))
           go_wp2
           go_ret2
           exact ⟨_, _, rfl, hr6, hE.tr hE6⟩)
  · cases hh <;> cases tt
    all_goals
      simp [moreB, xOf] at hN
      subst hN
      go_enter Tryz.func72, Tryz.ntmps72
      go_wp2_with fail
      have hX := HX.out
      have hE := HE.out
      generalize w.alloc (.cells #[.slice A (cn n).length c, .bool _, .bool _] 125) = W at *
      obtain ⟨x0, x1, x2, -⟩ := hX.facts
      go_wp2_with (first
        | (go_at_call 106; refine (hbt _ h').mono ?_; rintro z w1 ⟨rfl, rfl⟩))
      first
        | (go_ret2; exact ⟨_, _, rfl, h', hE⟩)
        | (go_region_held3 (fun w' => w'.cell? ⟨w.heap.size, 0, none⟩ = some (.slice A (cn n).length c))
            (first | go_keep | (refine Ext.cell (w := W) (by assumption) ?_; assumption))
            (first
              | (go_at_call 77; (with_reducible refine (hfr _).mono ?_); rintro z w5 ⟨v, rfl, ho5, hb5⟩; obtain ⟨A5, c5, rfl, hr5⟩ := ho5.rd; have hE5 : Ext W w5 := (Ext.refl W).drew.tr hb5)
              | (go_at_call 107; (with_reducible refine (had A5 c5 _ (h'.ext hE5) hr5).mono ?_); rintro z w6 ⟨v, rfl, ho6, hb6⟩; obtain ⟨A6, c6, rfl, hr6⟩ := ho6.rd; have hE6 : Ext W w6 := hE5.tr hb6))
           go_wp2
           go_ret2
           exact ⟨_, _, rfl, hr6, hE.tr hE6⟩)
  · cases hh <;> cases tt
    all_goals
      simp [moreB, xOf] at hN
      subst hN
      go_enter Tryz.func72, Tryz.ntmps72
      go_wp2_with fail
      have hX := HX.out
      have hE := HE.out
      generalize w.alloc (.cells #[.slice A (cn n).length c, .bool _, .bool _] 125) = W at *
      obtain ⟨x0, x1, x2, -⟩ := hX.facts
      go_wp2_with (first
        | (go_at_call 106; refine (hbt _ h').mono ?_; rintro z w1 ⟨rfl, rfl⟩))
      first
        | (go_ret2; exact ⟨_, _, rfl, h', hE⟩)
        | (go_region_held3 (fun w' => w'.cell? ⟨w.heap.size, 0, none⟩ = some (.slice A (cn n).length c))
            (first | go_keep | (refine Ext.cell (w := W) (by assumption) ?_; assumption))
            (first
              | (go_at_call 77; (with_reducible refine (hfr _).mono ?_); rintro z w5 ⟨v, rfl, ho5, hb5⟩; obtain ⟨A5, c5, rfl, hr5⟩ := ho5.rd; have hE5 : Ext W w5 := (Ext.refl W).drew.tr hb5)
              | (go_at_call 107; (with_reducible refine (had A5 c5 _ (h'.ext hE5) hr5).mono ?_); rintro z w6 ⟨v, rfl, ho6, hb6⟩; obtain ⟨A6, c6, rfl, hr6⟩ := ho6.rd; have hE6 : Ext W w6 := hE5.tr hb6))
           go_wp2
           go_ret2
           exact ⟨_, _, rfl, hr6, hE.tr hE6⟩)
  · cases hh <;> cases tt <;> cases neg
    all_goals
      simp [moreB, xOf] at hN
      subst hN
      go_enter Tryz.func72, Tryz.ntmps72
      go_wp2_with fail
      have hX := HX.out
      have hE := HE.out
      generalize w.alloc (.cells #[.slice A (cn n).length c, .bool _, .bool _] 125) = W at *
      obtain ⟨x0, x1, x2, -⟩ := hX.facts
      go_wp2_with (first
        | (go_at_call 106; refine (hbt _ h').mono ?_; rintro z w1 ⟨rfl, rfl⟩))
      first
        | (go_ret2; exact ⟨_, _, rfl, h', hE⟩)
        | (go_region_held3 (fun w' => w'.cell? ⟨w.heap.size, 0, none⟩ = some (.slice A (cn n).length c))
            (first | go_keep | (refine Ext.cell (w := W) (by assumption) ?_; assumption))
            (first
              | (go_at_call 77; (with_reducible refine (hfr _).mono ?_); rintro z w5 ⟨v, rfl, ho5, hb5⟩; obtain ⟨A5, c5, rfl, hr5⟩ := ho5.rd; have hE5 : Ext W w5 := (Ext.refl W).drew.tr hb5)
              | (go_at_call 107; (with_reducible refine (had A5 c5 _ (h'.ext hE5) hr5).mono ?_); rintro z w6 ⟨v, rfl, ho6, hb6⟩; obtain ⟨A6, c6, rfl, hr6⟩ := ho6.rd; have hE6 : Ext W w6 := hE5.tr hb6))
           go_wp2
           go_ret2
           exact ⟨_, _, rfl, hr6, hE.tr hE6⟩)
  · cases hh <;> cases tt <;> cases neg
    all_goals
      simp [moreB, xOf] at hN
      subst hN
      go_enter Tryz.func72, Tryz.ntmps72
      go_wp2_with fail
      have hX := HX.out
      have hE := HE.out
      generalize w.alloc (.cells #[.slice A (cn n).length c, .bool _, .bool _] 125) = W at *
      obtain ⟨x0, x1, x2, -⟩ := hX.facts
      go_wp2_with (first
        | (go_at_call 106; refine (hbt _ h').mono ?_; rintro z w1 ⟨rfl, rfl⟩))
      first
        | (go_ret2; exact ⟨_, _, rfl, h', hE⟩)
        | (go_region_held3 (fun w' => w'.cell? ⟨w.heap.size, 0, none⟩ = some (.slice A (cn n).length c))
            (first | go_keep | (refine Ext.cell (w := W) (by assumption) ?_; assumption))
            (first
              | (go_at_call 77; (with_reducible refine (hfr _).mono ?_); rintro z w5 ⟨v, rfl, ho5, hb5⟩; obtain ⟨A5, c5, rfl, hr5⟩ := ho5.rd; have hE5 : Ext W w5 := (Ext.refl W).drew.tr hb5)
              | (go_at_call 107; (with_reducible refine (had A5 c5 _ (h'.ext hE5) hr5).mono ?_); rintro z w6 ⟨v, rfl, ho6, hb6⟩; obtain ⟨A6, c6, rfl, hr6⟩ := ho6.rd; have hE6 : Ext W w6 := hE5.tr hb6))
           go_wp2
           go_ret2
           exact ⟨_, _, rfl, hr6, hE.tr hE6⟩)
end Go.Proofs.YtehlmacgjlgjaaaGreatDoor
namespace Go.Proofs.YtehlmacgjlgjaaaGreatDoor
open Go.RowKit
attribute [local go_sem ↓] Go.wp_at_zero Go.wp_at_succ

theorem boxesGR (w : World) (k p : Int) : ∀ W, W = ((w.alloc (.cells #[.int .i64 k, .int .i64 p] 47)).alloc (.cells #[.int .i64 0, .bool false, .int .i64 0, .slice none 0 0] 41)) →
    Bg W w.heap.size (.int .i64 k) (.int .i64 p) ∧ Br W (w.heap.size + 1) (.int .i64 0) (.bool false) (.int .i64 0) (.slice none 0 0) ∧ Ext w W := by
  rintro W rfl
  have x2 := Br.new (w.alloc (.cells #[.int .i64 k, .int .i64 p] 47)) (.int .i64 0) (.bool false) (.int .i64 0) (.slice none 0 0)
  rw [World.size_alloc] at x2
  exact ⟨(Bg.new w _ _).ext ((Ext.refl _).al _), x2, ((Ext.refl w).al _).al _⟩
set_option maxHeartbeats 8000000 in
set_option maxRecDepth 100000 in
theorem beyond_c (k p r : Int) (neg : Bool) (w : World) (hR : Rgt k p) (hr0 : 0 ≤ r) (hr4 : r ≤ 4) :
    Calls Tryz.prog 70 #[.agg #[.int .i64 k, .int .i64 p], .int .i64 r, .bool neg] w (FlrR w (overF k p r neg)) := by
  obtain ⟨hG, hY, hE⟩ := boxesGR w k p _ rfl
  have htp := fun w => rtop_c k p w hR
  unfold FlrR at htp ⊢
  unfold overF
  have HG := Lib.hid hG
  have HY := Lib.hid hY
  have HE := Lib.hid hE
  clear hG hY hE hR
  have hr : r = 0 ∨ r = 1 ∨ r = 2 ∨ r = 3 ∨ r = 4 := by omega
  clear hr0 hr4
  have hc : (grB r neg = true ∧ ((r = 2) ∨ (r = 3 ∧ neg = true) ∨ (r = 4 ∧ neg = false))) ∨ (grB r neg = false ∧ (r = 0 ∨ r = 1 ∨ (r = 3 ∧ neg = false) ∨ (r = 4 ∧ neg = true))) := by
    rcases hr with rfl | rfl | rfl | rfl | rfl <;> cases neg <;> simp [grB]
  clear hr
  rcases hc with ⟨hg, hc⟩ | ⟨hg, hc⟩
  · rw [if_pos hg]
    clear hg
    rcases hc with rfl | ⟨rfl, rfl⟩ | ⟨rfl, rfl⟩
    · go_enter Tryz.func70, Tryz.ntmps70
      go_wp2_with fail
      have hG := HG.out
      have hY := HY.out
      have hE := HE.out
      generalize ((w.alloc (.cells #[.int .i64 k, .int .i64 p] 47)).alloc (.cells #[.int .i64 0, .bool false, .int .i64 0, .slice none 0 0] 41)) = W at *
      clear HG HY HE
      obtain ⟨g0, g1⟩ := hG.facts
      go_wp2_with fail
      refine (htp _).mono ?_
      rintro z w1 ⟨u, rfl, ⟨v, rfl, ho1⟩, hb1⟩
      obtain ⟨A1, c1, rfl, -⟩ := ho1.rd
      simp only at ho1 ⊢
      generalize hT : gr k - p + 1 = T at *
      have HT := Lib.hid hT
      generalize hX1 : cn (2 ^ p.toNat - 1) = X1 at *
      have HX1 := Lib.hid hX1
      clear hX1 hT g0 g1
      have hlY := hY.lt
      have hY1 := hY.ext hb1
      have hE1 := hE.tr hb1
      have hs1 := hE1.size
      have hl1 : w.heap.size + 1 < w1.heap.size := hY1.lt
      have hR2 := (hY1.put (.int .i64 1) (.bool neg) (.int .i64 T) (.slice A1 X1.length c1)).ext ((Ext.refl _).al (.cells #[.int .i64 1, .bool neg, .int .i64 T, .slice A1 X1.length c1] 41))
      have hE2 := (hE1.put (g := w.heap.size + 1) (by omega) (.int .i64 1) (.bool neg) (.int .i64 T) (.slice A1 X1.length c1)).al (.cells #[.int .i64 1, .bool neg, .int .i64 T, .slice A1 X1.length c1] 41)
      have ho2 := ((ho1.putBelow (g := w.heap.size + 1) hlY (.int .i64 1) (.bool neg) (.int .i64 T) (.slice A1 X1.length c1)).ext ((Ext.refl _).al (.cells #[.int .i64 1, .bool neg, .int .i64 T, .slice A1 X1.length c1] 41))).low (b := w.heap.size) hE.size
      have HR2 := Lib.hid hR2
      have HE2 := Lib.hid hE2
      have HO2 := Lib.hid ho2
      clear hR2 hE2 ho2
      obtain ⟨y0, y1, y2, y3, yf⟩ := hY1.facts
      go_wp2_with fail
      obtain ⟨s0, s1, s2, s3, -⟩ := HR2.out.facts
      refine bodyPost_ret (v := flV 1 neg T (.slice A1 X1.length c1)) (by simp [results, Tryz.results70, go_sem, s0, s1, s2, s3]) rfl ?_
      exact ⟨_, rfl, ⟨.slice A1 X1.length c1, by show flV 1 neg T _ = flV 1 neg (gr k - p + 1) _; rw [HT.out], by show Own _ _ _ (cn (2 ^ p.toNat - 1)); rw [HX1.out]; exact HO2.out⟩, HE2.out⟩
    · go_enter Tryz.func70, Tryz.ntmps70
      go_wp2_with fail
      have hG := HG.out
      have hY := HY.out
      have hE := HE.out
      generalize ((w.alloc (.cells #[.int .i64 k, .int .i64 p] 47)).alloc (.cells #[.int .i64 0, .bool false, .int .i64 0, .slice none 0 0] 41)) = W at *
      clear HG HY HE
      obtain ⟨g0, g1⟩ := hG.facts
      go_wp2_with fail
      refine (htp _).mono ?_
      rintro z w1 ⟨u, rfl, ⟨v, rfl, ho1⟩, hb1⟩
      obtain ⟨A1, c1, rfl, -⟩ := ho1.rd
      simp only at ho1 ⊢
      generalize hT : gr k - p + 1 = T at *
      have HT := Lib.hid hT
      generalize hX1 : cn (2 ^ p.toNat - 1) = X1 at *
      have HX1 := Lib.hid hX1
      clear hX1 hT g0 g1
      have hlY := hY.lt
      have hY1 := hY.ext hb1
      have hE1 := hE.tr hb1
      have hs1 := hE1.size
      have hl1 : w.heap.size + 1 < w1.heap.size := hY1.lt
      have hR2 := (hY1.put (.int .i64 1) (.bool true) (.int .i64 T) (.slice A1 X1.length c1)).ext ((Ext.refl _).al (.cells #[.int .i64 1, .bool true, .int .i64 T, .slice A1 X1.length c1] 41))
      have hE2 := (hE1.put (g := w.heap.size + 1) (by omega) (.int .i64 1) (.bool true) (.int .i64 T) (.slice A1 X1.length c1)).al (.cells #[.int .i64 1, .bool true, .int .i64 T, .slice A1 X1.length c1] 41)
      have ho2 := ((ho1.putBelow (g := w.heap.size + 1) hlY (.int .i64 1) (.bool true) (.int .i64 T) (.slice A1 X1.length c1)).ext ((Ext.refl _).al (.cells #[.int .i64 1, .bool true, .int .i64 T, .slice A1 X1.length c1] 41))).low (b := w.heap.size) hE.size
      have HR2 := Lib.hid hR2
      have HE2 := Lib.hid hE2
      have HO2 := Lib.hid ho2
      clear hR2 hE2 ho2
      obtain ⟨y0, y1, y2, y3, yf⟩ := hY1.facts
      go_wp2_with fail
      obtain ⟨s0, s1, s2, s3, -⟩ := HR2.out.facts
      refine bodyPost_ret (v := flV 1 true T (.slice A1 X1.length c1)) (by simp [results, Tryz.results70, go_sem, s0, s1, s2, s3]) rfl ?_
      exact ⟨_, rfl, ⟨.slice A1 X1.length c1, by show flV 1 true T _ = flV 1 true (gr k - p + 1) _; rw [HT.out], by show Own _ _ _ (cn (2 ^ p.toNat - 1)); rw [HX1.out]; exact HO2.out⟩, HE2.out⟩
    · go_enter Tryz.func70, Tryz.ntmps70
      go_wp2_with fail
      have hG := HG.out
      have hY := HY.out
      have hE := HE.out
      generalize ((w.alloc (.cells #[.int .i64 k, .int .i64 p] 47)).alloc (.cells #[.int .i64 0, .bool false, .int .i64 0, .slice none 0 0] 41)) = W at *
      clear HG HY HE
      obtain ⟨g0, g1⟩ := hG.facts
      go_wp2_with fail
      refine (htp _).mono ?_
      rintro z w1 ⟨u, rfl, ⟨v, rfl, ho1⟩, hb1⟩
      obtain ⟨A1, c1, rfl, -⟩ := ho1.rd
      simp only at ho1 ⊢
      generalize hT : gr k - p + 1 = T at *
      have HT := Lib.hid hT
      generalize hX1 : cn (2 ^ p.toNat - 1) = X1 at *
      have HX1 := Lib.hid hX1
      clear hX1 hT g0 g1
      have hlY := hY.lt
      have hY1 := hY.ext hb1
      have hE1 := hE.tr hb1
      have hs1 := hE1.size
      have hl1 : w.heap.size + 1 < w1.heap.size := hY1.lt
      have hR2 := (hY1.put (.int .i64 1) (.bool false) (.int .i64 T) (.slice A1 X1.length c1)).ext ((Ext.refl _).al (.cells #[.int .i64 1, .bool false, .int .i64 T, .slice A1 X1.length c1] 41))
      have hE2 := (hE1.put (g := w.heap.size + 1) (by omega) (.int .i64 1) (.bool false) (.int .i64 T) (.slice A1 X1.length c1)).al (.cells #[.int .i64 1, .bool false, .int .i64 T, .slice A1 X1.length c1] 41)
      have ho2 := ((ho1.putBelow (g := w.heap.size + 1) hlY (.int .i64 1) (.bool false) (.int .i64 T) (.slice A1 X1.length c1)).ext ((Ext.refl _).al (.cells #[.int .i64 1, .bool false, .int .i64 T, .slice A1 X1.length c1] 41))).low (b := w.heap.size) hE.size
      have HR2 := Lib.hid hR2
      have HE2 := Lib.hid hE2
      have HO2 := Lib.hid ho2
      clear hR2 hE2 ho2
      obtain ⟨y0, y1, y2, y3, yf⟩ := hY1.facts
      go_wp2_with fail
      obtain ⟨s0, s1, s2, s3, -⟩ := HR2.out.facts
      refine bodyPost_ret (v := flV 1 false T (.slice A1 X1.length c1)) (by simp [results, Tryz.results70, go_sem, s0, s1, s2, s3]) rfl ?_
      exact ⟨_, rfl, ⟨.slice A1 X1.length c1, by show flV 1 false T _ = flV 1 false (gr k - p + 1) _; rw [HT.out], by show Own _ _ _ (cn (2 ^ p.toNat - 1)); rw [HX1.out]; exact HO2.out⟩, HE2.out⟩
  · rw [if_neg (by rw [hg]; decide)]
    clear hg
    rcases hc with rfl | rfl | ⟨rfl, rfl⟩ | ⟨rfl, rfl⟩
    · go_enter Tryz.func70, Tryz.ntmps70
      have hB := Br.new (w.alloc (.cells #[.int .i64 k, .int .i64 p] 47)) (.int .i64 2) (.bool neg) (.int .i64 0) (.slice none 0 0)
      have hEB := ((Ext.refl w).al (.cells #[.int .i64 k, .int .i64 p] 47)).al (.cells #[.int .i64 2, .bool neg, .int .i64 0, .slice none 0 0] 41)
      rw [World.size_alloc] at hB
      obtain ⟨y0, y1, y2, y3, yf⟩ := HY.out.facts
      have HB := Lib.hid hB
      have HEB := Lib.hid hEB
      clear hB hEB
      go_wp2_with fail
      obtain ⟨s0, s1, s2, s3, -⟩ := HB.out.facts
      refine bodyPost_ret (v := flV 2 neg 0 (.slice none 0 0)) (by simp [results, Tryz.results70, go_sem, s0, s1, s2, s3]) rfl ?_
      exact ⟨_, rfl, ⟨_, rfl, by rw [show cn 0 = [] from digs_zero B]; exact Own.nil _ _⟩, HEB.out⟩
    · go_enter Tryz.func70, Tryz.ntmps70
      have hB := Br.new (w.alloc (.cells #[.int .i64 k, .int .i64 p] 47)) (.int .i64 2) (.bool neg) (.int .i64 0) (.slice none 0 0)
      have hEB := ((Ext.refl w).al (.cells #[.int .i64 k, .int .i64 p] 47)).al (.cells #[.int .i64 2, .bool neg, .int .i64 0, .slice none 0 0] 41)
      rw [World.size_alloc] at hB
      obtain ⟨y0, y1, y2, y3, yf⟩ := HY.out.facts
      have HB := Lib.hid hB
      have HEB := Lib.hid hEB
      clear hB hEB
      go_wp2_with fail
      obtain ⟨s0, s1, s2, s3, -⟩ := HB.out.facts
      refine bodyPost_ret (v := flV 2 neg 0 (.slice none 0 0)) (by simp [results, Tryz.results70, go_sem, s0, s1, s2, s3]) rfl ?_
      exact ⟨_, rfl, ⟨_, rfl, by rw [show cn 0 = [] from digs_zero B]; exact Own.nil _ _⟩, HEB.out⟩
    · go_enter Tryz.func70, Tryz.ntmps70
      have hB := Br.new (w.alloc (.cells #[.int .i64 k, .int .i64 p] 47)) (.int .i64 2) (.bool false) (.int .i64 0) (.slice none 0 0)
      have hEB := ((Ext.refl w).al (.cells #[.int .i64 k, .int .i64 p] 47)).al (.cells #[.int .i64 2, .bool false, .int .i64 0, .slice none 0 0] 41)
      rw [World.size_alloc] at hB
      obtain ⟨y0, y1, y2, y3, yf⟩ := HY.out.facts
      have HB := Lib.hid hB
      have HEB := Lib.hid hEB
      clear hB hEB
      go_wp2_with fail
      obtain ⟨s0, s1, s2, s3, -⟩ := HB.out.facts
      refine bodyPost_ret (v := flV 2 false 0 (.slice none 0 0)) (by simp [results, Tryz.results70, go_sem, s0, s1, s2, s3]) rfl ?_
      exact ⟨_, rfl, ⟨_, rfl, by rw [show cn 0 = [] from digs_zero B]; exact Own.nil _ _⟩, HEB.out⟩
    · go_enter Tryz.func70, Tryz.ntmps70
      have hB := Br.new (w.alloc (.cells #[.int .i64 k, .int .i64 p] 47)) (.int .i64 2) (.bool true) (.int .i64 0) (.slice none 0 0)
      have hEB := ((Ext.refl w).al (.cells #[.int .i64 k, .int .i64 p] 47)).al (.cells #[.int .i64 2, .bool true, .int .i64 0, .slice none 0 0] 41)
      rw [World.size_alloc] at hB
      obtain ⟨y0, y1, y2, y3, yf⟩ := HY.out.facts
      have HB := Lib.hid hB
      have HEB := Lib.hid hEB
      clear hB hEB
      go_wp2_with fail
      obtain ⟨s0, s1, s2, s3, -⟩ := HB.out.facts
      refine bodyPost_ret (v := flV 2 true 0 (.slice none 0 0)) (by simp [results, Tryz.results70, go_sem, s0, s1, s2, s3]) rfl ?_
      exact ⟨_, rfl, ⟨_, rfl, by rw [show cn 0 = [] from digs_zero B]; exact Own.nil _ _⟩, HEB.out⟩
/-- A real number in new memory. -/
def RealR (w : World) (neg : Bool) (m : Nat) (exp : Int) (e : Ending) (w' : World) : Prop := ∃ v1 v2, e = .returned (realV neg v1 v2 exp) ∧ Own w' w.heap.size v1 (cn m) ∧ Own w' w.heap.size v2 (cn 1) ∧ Ext w w'
theorem Bi.apart5 {w : World} {g g' : Nat} {a b : Value} (x : Bi w g a b) (hne : g ≠ g') (a' b' c' d' e' : Value) : Bi (((((w.setCell ⟨g', 0, none⟩ a').setCell ⟨g', 1, none⟩ b').setCell ⟨g', 2, none⟩ c').setCell ⟨g', 3, none⟩ d').setCell ⟨g', 4, none⟩ e') g a b := by
  have h := x.h
  constructor
  simp [World.setCell, Array.getElem?_modify, h, Ne.symm hne]
theorem Ext.put5 {w w1 : World} (h : Ext w w1) {g : Nat} (hg : w.heap.size ≤ g) (a b c d e : Value) : Ext w (((((w1.setCell ⟨g, 0, none⟩ a).setCell ⟨g, 1, none⟩ b).setCell ⟨g, 2, none⟩ c).setCell ⟨g, 3, none⟩ d).setCell ⟨g, 4, none⟩ e) :=
  ((((h.set hg 0 a).set hg 1 b).set hg 2 c).set hg 3 d).set hg 4 e
theorem Own.put5 {w : World} {base : Nat} {v : Value} {xs : List Nat} (h : Own w base v xs) {g : Nat} (hg : g < base) (a b c d e : Value) : Own (((((w.setCell ⟨g, 0, none⟩ a).setCell ⟨g, 1, none⟩ b).setCell ⟨g, 2, none⟩ c).setCell ⟨g, 3, none⟩ d).setCell ⟨g, 4, none⟩ e) base v xs :=
  ((((h.setBelow (a := ⟨g, 0, none⟩) hg a).setBelow (a := ⟨g, 1, none⟩) hg b).setBelow (a := ⟨g, 2, none⟩) hg c).setBelow (a := ⟨g, 3, none⟩) hg d).setBelow (a := ⟨g, 4, none⟩) hg e
theorem boxesIZ (w : World) (neg : Bool) (v : Value) : ∀ W, W = ((w.alloc (.cells #[.bool neg, v] 64)).alloc (.cells #[.bool false, .slice none 0 0, .slice none 0 0, .int .i64 0, .int .i64 0] 80)) →
    Bi W w.heap.size (.bool neg) v ∧ Bz W (w.heap.size + 1) (.bool false) (.slice none 0 0) (.slice none 0 0) (.int .i64 0) (.int .i64 0) ∧ Ext w W := by
  rintro W rfl
  have x2 := Bz.new (w.alloc (.cells #[.bool neg, v] 64)) (.bool false) (.slice none 0 0) (.slice none 0 0) (.int .i64 0) (.int .i64 0)
  rw [World.size_alloc] at x2
  exact ⟨(Bi.new w _ _).ext ((Ext.refl _).al _), x2, ((Ext.refl w).al _).al _⟩
set_option maxHeartbeats 4000000 in
set_option maxRecDepth 100000 in
theorem scaled_c (neg : Bool) (A : Option Addr) (c m : Nat) (exp : Int) (w : World) (h : Rd w A c (cn m)) (hm : 0 < m) (hl : (cn m).length ≤ 100000) :
    Calls Tryz.prog 36 #[intV neg A (cn m).length c, .int .i64 exp] w (RealR w neg m exp) := by
  obtain ⟨hI, hY, hE⟩ := boxesIZ w neg (.slice A (cn m).length c) _ rfl
  have hsg := fun w h => rsign11_c neg A c (cn m) w h (by omega)
  have htr := fun w h => rtrim_c A c (cn m) w h (by omega)
  have hfr : ∀ w, Calls Tryz.prog 77 #[.int .u64 1] w (Res w (cn 1)) := fun w => rfrom_c 1 w (by rw [B_eq]; omega)
  rw [val_cn] at hsg htr
  obtain ⟨t, ht⟩ : ∃ t, sgn (sg neg m) = t := ⟨_, rfl⟩
  have htn : decide (t < 0) = neg := by
    rw [← ht]
    unfold sgn sg
    cases neg
    · show decide ((if (m : Int) < 0 then (-1 : Int) else if (0 : Int) < m then 1 else 0) < 0) = false
      rw [if_neg (by omega), if_pos (by omega)]
      decide
    · show decide ((if -(m : Int) < 0 then (-1 : Int) else if (0 : Int) < -m then 1 else 0) < 0) = true
      rw [if_pos (by omega)]
      decide
  rw [ht] at hsg
  unfold RealR
  clear ht hm hl
  generalize cn m = X at *
  generalize cn 1 = O at *
  have HI := Lib.hid hI
  have HY := Lib.hid hY
  have HE := Lib.hid hE
  clear hI hY hE
  go_enter Tryz.func36, Tryz.ntmps36
  go_wp2_with fail
  have hI := HI.out
  have hY := HY.out
  have hE := HE.out
  clear HI HY HE
  generalize ((w.alloc (.cells #[.bool neg, .slice A X.length c] 64)).alloc (.cells #[.bool false, .slice none 0 0, .slice none 0 0, .int .i64 0, .int .i64 0] 80)) = W at *
  obtain ⟨i0, i1, -⟩ := hI.facts
  have hlY := hY.lt
  go_region_held3 (fun w' => w'.cell? ⟨w.heap.size, 0, none⟩ = some (.bool neg) ∧ w'.cell? ⟨w.heap.size, 1, none⟩ = some (.slice A X.length c))
    (first | (go_split_ands; refine ⟨?_, ?_⟩ <;> first | with_reducible assumption | (with_reducible refine Ext.cell (w := W) (by assumption) ?_; with_reducible assumption)) | go_keep)
    (first
      | (go_at_call 75; (with_reducible refine (hsg _ ?hr).mono ?_); (case hr => exact (h.ext hE).drew); rintro z w4 ⟨rfl, hb4⟩; have hE4 : Ext W w4 := (Ext.refl W).drew.tr hb4)
      | (go_at_call 76; (with_reducible refine (htr _ (h.ext (hE.tr hE4))).mono ?_); rintro z w5 ⟨v, rfl, ho5, hb5⟩; obtain ⟨A5, c5, rfl, -⟩ := ho5.rd; have hE5 : Ext W w5 := hE4.tr hb5)
      | (go_at_call 77; (with_reducible refine (hfr _).mono ?_); rintro z w6 ⟨v, rfl, ho6, hb6⟩; obtain ⟨A6, c6, rfl, -⟩ := ho6.rd; have hE6 : Ext W w6 := hE5.tr hb6; have hX1 := hY.ext hE6; obtain ⟨a0, a1, a2, a3, a4, af⟩ := hX1.facts; obtain ⟨j0, j1, -⟩ := ((hI.ext hE6).apart5 (g' := w.heap.size + 1) (by omega) (.bool neg) (.slice A5 X.length c5) (.slice A6 O.length c6) (.int .i64 exp) (.int .i64 1)).facts))
  have hs5 := hE5.size
  have hs4 := hE4.size
  have hR := hX1.put (.bool neg) (.slice A5 X.length c5) (.slice A6 O.length c6) (.int .i64 exp) (.int .i64 1)
  have q1 := ((ho5.ext hb6).put5 (g := w.heap.size + 1) (by omega) (.bool neg) (.slice A5 X.length c5) (.slice A6 O.length c6) (.int .i64 exp) (.int .i64 1)).low (b := w.heap.size) (by have := hE.size; omega)
  have q2 := (ho6.put5 (g := w.heap.size + 1) (by omega) (.bool neg) (.slice A5 X.length c5) (.slice A6 O.length c6) (.int .i64 exp) (.int .i64 1)).low (b := w.heap.size) (by have := hE.size; omega)
  have qE := (hE.tr hE6).put5 (g := w.heap.size + 1) (by omega) (.bool neg) (.slice A5 X.length c5) (.slice A6 O.length c6) (.int .i64 exp) (.int .i64 1)
  have HR := Lib.hid hR
  have Q1 := Lib.hid q1
  have Q2 := Lib.hid q2
  have QE := Lib.hid qE
  clear hR q1 q2 qE
  go_wp2
  obtain ⟨m0, m1, m2, m3, m4, -⟩ := HR.out.facts
  refine bodyPost_ret (v := realV neg (.slice A5 X.length c5) (.slice A6 O.length c6) exp) (by simp [results, Tryz.results36, go_sem, m0, m1, m2, m3, m4]) rfl ?_
  exact ⟨_, _, rfl, Q1.out, Q2.out, QE.out⟩
end Go.Proofs.YtehlmacgjlgjaaaGreatDoor
namespace Go.Proofs.YtehlmacgjlgjaaaGreatDoor
open Go.RowKit
attribute [local go_sem ↓] Go.wp_at_zero Go.wp_at_succ

theorem boxesRo (w : World) (k p : Int) (neg : Bool) (v1 v2 : Value) (exp : Int) : ∀ W, W = (((w.alloc (.cells #[.int .i64 k, .int .i64 p] 47)).alloc (.cells #[.bool neg, v1, v2, .int .i64 exp, .int .i64 1] 80)).alloc (.cells #[.int .i64 0, .bool false, .int .i64 0, .slice none 0 0] 41)) →
    Bg W w.heap.size (.int .i64 k) (.int .i64 p) ∧ Bz W (w.heap.size + 1) (.bool neg) v1 v2 (.int .i64 exp) (.int .i64 1) ∧ Br W (w.heap.size + 1 + 1) (.int .i64 0) (.bool false) (.int .i64 0) (.slice none 0 0) ∧ Ext w W := by
  rintro W rfl
  have x2 := Bz.new (w.alloc (.cells #[.int .i64 k, .int .i64 p] 47)) (.bool neg) v1 v2 (.int .i64 exp) (.int .i64 1)
  have x3 := Br.new ((w.alloc (.cells #[.int .i64 k, .int .i64 p] 47)).alloc (.cells #[.bool neg, v1, v2, .int .i64 exp, .int .i64 1] 80)) (.int .i64 0) (.bool false) (.int .i64 0) (.slice none 0 0)
  rw [World.size_alloc] at x2
  rw [World.size_alloc, World.size_alloc] at x3
  exact ⟨((Bg.new w _ _).ext ((Ext.refl _).al _)).ext ((Ext.refl _).al _), x2.ext ((Ext.refl _).al _), x3, (((Ext.refl w).al _).al _).al _⟩
/-- All that Round decides on, and its answer. -/
theorem round_pack {k p r exp : Int} {neg : Bool} (hR : Rgt k p) {m : Nat} (hm : 0 < m) (e : Int) (he : (bl m : Int) - 1 + exp = e) :
    (gr k < e → fltF k p r neg m exp = overF k p r neg ∧ fltK k p r neg m exp = 5) ∧
    (gr k + 1 < (bl (fN k p r neg m exp) : Int) + fU k p m exp → fltF k p r neg m exp = overF k p r neg ∧ fltK k p r neg m exp = 5) ∧
    (¬ gr k + 1 < (bl (fN k p r neg m exp) : Int) + fU k p m exp → fN k p r neg m exp = 0 → fltF k p r neg m exp = ⟨0, neg, 0, 0⟩ ∧ fltK k p r neg m exp = 3) ∧
    (¬ gr k + 1 < (bl (fN k p r neg m exp) : Int) + fU k p m exp → fN k p r neg m exp ≠ 0 → canon 1 neg (fU k p m exp) (fN k p r neg m exp) = some (fltF k p r neg m exp) ∧
      fltK k p r neg m exp = (if cutX m (fU k p m exp - exp) = 0 then 0 else if e < le k then 3 else 1)) ∧
    max e (le k) - p + 1 = fU k p m exp := by
  obtain ⟨r1, r2, r3, r4⟩ := hR
  have hgb := gr_bd r1 r2
  have hle : le k = 1 - gr k := rfl
  have hti : ti k p = le k - (p - 1) := rfl
  have he' : exp + bl m - 1 = e := by omega
  refine ⟨fun h => ?_, fun h => ?_, fun h h0 => ?_, fun h h0 => ?_, ?_⟩
  · have h1 := flt_over (r := r) (neg := neg) (exp := exp) ⟨r1, r2, r3, r4⟩ hm (by omega)
    unfold fltF fltK
    rw [if_pos h1, if_pos h1]
    exact ⟨rfl, rfl⟩
  · unfold fltF fltK
    rw [if_pos (by omega), if_pos (by omega)]
    exact ⟨rfl, rfl⟩
  · obtain ⟨h1, h2⟩ := flt_gone ⟨r1, r2, r3, r4⟩ hm h0
    unfold fltF fltK
    rw [if_neg (by omega), if_neg (by omega), if_neg h1, if_pos h2, h0]
    unfold mkF
    rw [if_pos rfl]
    exact ⟨rfl, rfl⟩
  · have hp : 0 < fN k p r neg m exp := by omega
    obtain ⟨-, -, c3⟩ := cut_bits (exp := exp) ⟨r1, r2, r3, r4⟩ hm
    have htl := tz_lt_bl _ hp
    unfold fltF fltK
    rw [if_neg (by omega), if_neg (by omega), he']
    refine ⟨?_, rfl⟩
    unfold mkF
    rw [if_neg h0]
    unfold canon
    rw [if_neg (by omega), if_neg (by omega), if_pos rfl, if_neg (by omega), if_pos (by omega)]
  · unfold fU stepN
    rw [he']
    split <;> omega
set_option maxHeartbeats 8000000 in
set_option maxRecDepth 100000 in
theorem round_c (k p r : Int) (neg : Bool) (A A' : Option Addr) (c c' m : Nat) (exp : Int) (w : World) (hR : Rgt k p) (hr0 : 0 ≤ r) (hr4 : r ≤ 4) (h : Rd w A c (cn m)) (h' : Rd w A' c' (cn 1)) (hm : 0 < m) (hl : (cn m).length ≤ 4096) (hx1 : -2000000 ≤ exp) (hx2 : exp ≤ 2000000) :
    Calls Tryz.prog 35 #[.agg #[.int .i64 k, .int .i64 p], .int .i64 r, realV neg (.slice A (cn m).length c) (.slice A' (cn 1).length c') exp] w (FErr w (fltK k p r neg m exp) (fltF k p r neg m exp)) := by
  obtain ⟨hG, hZ, hY, hE⟩ := boxesRo w k p neg (.slice A (cn m).length c) (.slice A' (cn 1).length c') exp _ rfl
  have hbm : bl m ≤ 262144 := by
    have h2 := bl_val_le (W64.cn m)
    rw [val_cn] at h2
    omega
  have hub := step_bd (e := exp + bl m - 1) hR (by omega) (by omega)
  have hpp : p.toNat ≤ 256 := by have := hR.2.2.2; omega
  have hNb := fN_bits (r := r) (neg := neg) (exp := exp) hR hm
  have hNl : (cn (fN k p r neg m exp)).length ≤ 5 := cn_len_pow2 hNb hpp
  have hbN : bl (fN k p r neg m exp) ≤ 320 := by
    have h2 := bl_val_le (W64.cn (fN k p r neg m exp))
    rw [val_cn] at h2
    omega
  have hnl0 : (cn (cutM m (fU k p m exp - exp))).length ≤ 5 := by
    refine cn_len_pow2 (e := p.toNat) ?_ hpp
    obtain ⟨u1, -⟩ := upN_le r neg (cutM m (fU k p m exp - exp)) (cutX m (fU k p m exp - exp))
    exact Nat.le_trans u1 hNb
  have hex := fun w h h' => exponent16_c neg A A' c c' m exp w h h' hm hl (by omega) (by omega)
  obtain ⟨e, he⟩ : ∃ e, (bl m : Int) - 1 + exp = e := ⟨_, rfl⟩
  obtain ⟨k1, k2, k3, k4, k5⟩ := round_pack (r := r) (neg := neg) hR hm e he
  rw [he] at hex
  have hgt := fun w => rgreat_c k p w hR.1 hR.2.1
  have hls := fun w => rleast_c k p w hR.1 hR.2.1
  have hby := fun w => beyond_c k p r neg w hR hr0 hr4
  have hst := fun w h h' => steps_c neg A A' c c' m exp (fU k p m exp) w h h' hl (by omega) (by omega) (by unfold fU; omega) (by unfold fU; omega)
  obtain ⟨hq1, hq2⟩ := rf_cut m (fU k p m exp - exp)
  have hrd := fun A3 c3 w h => rounded_c r neg ((rfQ m (1 - (fU k p m exp - exp))).testBit 0) (rfT m (1 - (fU k p m exp - exp))) A3 c3 (cutM m (fU k p m exp - exp)) w hr0 hr4 h (by omega)
  rw [← hq2] at hrd
  have hfn : upN r neg (cutM m (fU k p m exp - exp)) (cutX m (fU k p m exp - exp)) = fN k p r neg m exp := rfl
  rw [hfn] at hrd
  have hxb : (cutX m (fU k p m exp - exp) = 0) = ((!(rfQ m (1 - (fU k p m exp - exp))).testBit 0 && !rfT m (1 - (fU k p m exp - exp))) = true) := by
    rw [hq2]
    generalize (rfQ m (1 - (fU k p m exp - exp))).testBit 0 = b1
    generalize rfT m (1 - (fU k p m exp - exp)) = b2
    cases b1 <;> cases b2 <;> simp [xOf]
  have hln := fun A3 c3 w h => rlen_c A3 c3 (cn (fN k p r neg m exp)) w h (by omega)
  have hiz := fun A3 c3 w h => riszero_c A3 c3 (cn (fN k p r neg m exp)) w h (by omega)
  rw [val_cn] at hln hiz
  have hcn := fun A3 c3 w h f hf => rcanonical_c 1 (fU k p m exp) neg A3 c3 (cn (fN k p r neg m exp)) w h (by omega) f hf
  rw [val_cn] at hcn
  have hUb : -2200000 ≤ fU k p m exp ∧ fU k p m exp ≤ 2300000 := hub
  have hb0 := bl_pos hm
  have heb : -2000000 ≤ e ∧ e ≤ 2300000 := by omega
  obtain ⟨r1, r2, r3, r4⟩ := hR
  have hgb := gr_bd r1 r2
  have hlb : le k = 1 - gr k := rfl
  have hlb1 : -16383 ≤ le k ∧ le k ≤ 0 := by omega
  clear hlb hfn hq1 hq2 hnl0 hNb hub he
  unfold PartR at hst
  unfold NbR at hrd
  unfold FlrR at hby
  unfold FErr
  generalize (!(rfQ m (1 - (fU k p m exp - exp))).testBit 0 && !rfT m (1 - (fU k p m exp - exp))) = xb at *
  generalize (rfQ m (1 - (fU k p m exp - exp))).testBit 0 = b1 at *
  generalize rfT m (1 - (fU k p m exp - exp)) = b2 at *
  generalize cutX m (fU k p m exp - exp) = cx at *
  generalize cutM m (fU k p m exp - exp) = n0 at *
  generalize fltF k p r neg m exp = F at *
  generalize fltK k p r neg m exp = K at *
  generalize fN k p r neg m exp = N at *
  generalize fU k p m exp = U at *
  obtain ⟨M, hM⟩ : ∃ M, max e (le k) = M := ⟨_, rfl⟩
  rw [hM] at k5
  have hMb : -2000000 ≤ M ∧ M ≤ 2300000 := by rw [← hM]; exact ⟨Int.le_trans heb.1 (Int.le_max_left ..), Int.max_le.2 ⟨heb.2, by omega⟩⟩
  obtain ⟨hU1, hU2⟩ := hUb
  obtain ⟨he1, he2⟩ := heb
  obtain ⟨hg1, hg2⟩ := hgb
  obtain ⟨hl1, hl2⟩ := hlb1
  obtain ⟨hM1, hM2⟩ := hMb
  have K1 := Lib.hid k1
  have K2 := Lib.hid k2
  have K3 := Lib.hid k3
  have K4 := Lib.hid k4
  have HG := Lib.hid hG
  have HZ := Lib.hid hZ
  have HY := Lib.hid hY
  have HE := Lib.hid hE
  have HXB := Lib.hid hxb
  clear k1 k2 k3 k4 hG hZ hY hE hxb hm hl
  generalize bl N = bN at *
  generalize bl m = bm at *
  generalize cn m = X at *
  generalize cn 1 = O at *
  go_enter Tryz.func35, Tryz.ntmps35
  go_wp2_with fail
  have hG := HG.out
  have hZ := HZ.out
  have hY := HY.out
  have hE := HE.out
  clear HG HZ HY HE
  generalize (((w.alloc (.cells #[.int .i64 k, .int .i64 p] 47)).alloc (.cells #[.bool neg, .slice A X.length c, .slice A' O.length c', .int .i64 exp, .int .i64 1] 80)).alloc (.cells #[.int .i64 0, .bool false, .int .i64 0, .slice none 0 0] 41)) = W at *
  refine (hex _ (h.ext hE) (h'.ext hE)).mono ?_
  rintro z w1 ⟨rfl, hb1⟩
  have hE1 := hE.tr hb1
  have hG1 := hG.ext hb1
  have hZ1 := hZ.ext hb1
  have hY1 := hY.ext hb1
  obtain ⟨g0, g1⟩ := hG1.facts
  go_wp2_with fail
  refine (hgt _).mono ?_
  rintro z w2 ⟨rfl, hb2⟩
  have hE2 := hE1.tr hb2
  have hG2 := hG1.ext hb2
  have hZ2 := hZ1.ext hb2
  have hY2 := hY1.ext hb2
  clear g0 g1 hG1 hZ1 hY1 hG hZ hY hex
  obtain ⟨g0, g1⟩ := hG2.facts
  obtain ⟨z0, z1, z2, z3, z4, -⟩ := hZ2.facts
  have hlY := hY2.lt
  have hs2 := hE2.size
  by_cases hA : gr k < e
  · have hd : decide (gr k < e) = true := decide_eq_true hA
    obtain ⟨e1, e2⟩ := K1.out hA
    subst e2
    rw [← e1] at hby
    clear hA K1 K2 K3 K4 e1
    go_wp2_with fail
    refine (hby _).mono ?_
    rintro z w3 ⟨u, rfl, ⟨v, rfl, ho3⟩, hb3⟩
    obtain ⟨A3, c3, rfl, -⟩ := ho3.rd
    have hY3 := hY2.ext hb3
    have hE3 := hE2.tr hb3
    have hY4 := hY3.put (.int .i64 F.kind) (.bool F.neg) (.int .i64 F.exp) (.slice A3 (cn F.mag).length c3)
    have hE4 := hE3.put (g := w.heap.size + 1 + 1) (by omega) (.int .i64 F.kind) (.bool F.neg) (.int .i64 F.exp) (.slice A3 (cn F.mag).length c3)
    have ho4 := (ho3.putBelow (g := w.heap.size + 1 + 1) hlY (.int .i64 F.kind) (.bool F.neg) (.int .i64 F.exp) (.slice A3 (cn F.mag).length c3)).low (b := w.heap.size) hs2
    have HY4 := Lib.hid hY4
    have HE4 := Lib.hid hE4
    have HO4 := Lib.hid ho4
    clear hY4 hE4 ho4 g0 g1 z0 z1 z2 z3 z4
    obtain ⟨y0, y1, y2, y3, yf⟩ := hY3.facts
    go_wp2_with fail
    obtain ⟨s0, s1, s2, s3, -⟩ := HY4.out.facts
    refine bodyPost_ret (v := .tuple #[flV F.kind F.neg F.exp (.slice A3 (cn F.mag).length c3), .int .i64 5]) (by simp [results, Tryz.results35, go_sem, s0, s1, s2, s3]) rfl ?_
    exact ⟨_, rfl, ⟨_, rfl, HO4.out⟩, HE4.out⟩
  have hd : decide (gr k < e) = false := decide_eq_false hA
  clear hA K1
  go_wp2_with fail
  have g0' := Later.cell g0
  have g1' := Later.cell g1
  refine wp_region_later (by kernel_rfl) (by kernel_rfl) ?_
  repeat (go_big_quiet_step (first
    | (go_at_call 71; (with_reducible refine Calls.later (hls _)))
    | fail))
  refine wpQuiet_nil ?_
  intro w3 hw'
  obtain ⟨⟨_, hb3⟩, rfl⟩ := hw'
  have hE3 := hE2.tr hb3
  have hG3 := hG2.ext hb3
  have hZ3 := hZ2.ext hb3
  have hY3 := hY2.ext hb3
  clear g0 g1 g0' g1' z0 z1 z2 z3 z4 hG2 hZ2 hY2
  obtain ⟨z0, z1, z2, z3, z4, -⟩ := hZ3.facts
  go_wp2_with fail
  go_region_held3 (fun w' => w'.cell? ⟨w.heap.size + 1, 0, none⟩ = some (.bool neg) ∧ w'.cell? ⟨w.heap.size + 1, 1, none⟩ = some (.slice A X.length c) ∧ w'.cell? ⟨w.heap.size + 1, 2, none⟩ = some (.slice A' O.length c') ∧ w'.cell? ⟨w.heap.size + 1, 3, none⟩ = some (.int .i64 exp) ∧ w'.cell? ⟨w.heap.size + 1, 4, none⟩ = some (.int .i64 1))
    (first | (go_split_ands; refine ⟨?_, ?_, ?_, ?_, ?_⟩ <;> first | with_reducible assumption | (with_reducible refine Ext.cell (w := w3) (by assumption) ?_; with_reducible assumption)) | go_keep)
    (first
      | (go_at_call 73; (with_reducible refine (hst _ ?hr ?hs).mono ?_); (case hr => exact (h.ext hE3).drew); (case hs => exact (h'.ext hE3).drew); rintro z w5 ⟨v, rfl, ho5, hb5⟩; obtain ⟨A5, c5, rfl, hr5⟩ := ho5.rd; have hE5 : Ext w3 w5 := (Ext.refl w3).drew.tr hb5)
      | (go_at_call 72; (with_reducible refine (hrd A5 c5 _ hr5).mono ?_); rintro z w6 ⟨A6, c6, rfl, hr6, hb6⟩; have hE6 : Ext w3 w6 := hE5.tr hb6))
  have hE7 := hE3.tr hE6
  have hG7 := hG3.ext hE6
  have hZ7 := hZ3.ext hE6
  have hY7 := hY3.ext hE6
  clear z0 z1 z2 z3 z4 hG3 hZ3 hY3 hst hrd
  obtain ⟨g0, g1⟩ := hG7.facts
  go_wp2_with fail
  have g0' := Later.cell g0
  have g1' := Later.cell g1
  refine wp_region_later (by kernel_rfl) (by kernel_rfl) ?_
  repeat (go_big_quiet_step (first
    | (go_at_call 30; (with_reducible refine Calls.later_same (hln A6 c6 _ (hr6.ext (Later.h _)))))
    | (go_at_call 69; (with_reducible refine Calls.later (hgt _)))
    | fail))
  refine wpQuiet_nil ?_
  intro w8 hw'
  obtain ⟨⟨_, hb8⟩, rfl⟩ := hw'
  have hE8 := hE7.tr hb8
  have hG8 := hG7.ext hb8
  have hZ8 := hZ7.ext hb8
  have hY8 := hY7.ext hb8
  have hr8 := hr6.ext hb8
  clear g0 g1 g0' g1' hG7 hZ7 hY7 hln
  obtain ⟨g0, g1⟩ := hG8.facts
  obtain ⟨z0, z1, z2, z3, z4, -⟩ := hZ8.facts
  have hlY8 := hY8.lt
  have hs8 := hE8.size
  by_cases hB : gr k + 1 < (bN : Int) + U
  · have hBd : decide (gr k + 1 < (bN : Int) + U) = true := decide_eq_true hB
    rw [hBd]
    obtain ⟨e1, e2⟩ := K2.out hB
    subst e2
    rw [← e1] at hby
    clear hB K2 K3 K4 e1
    go_wp2_with fail
    refine (hby _).mono ?_
    rintro z w9 ⟨u, rfl, ⟨v, rfl, ho3⟩, hb3⟩
    obtain ⟨A3, c3, rfl, -⟩ := ho3.rd
    have hY3 := hY8.ext hb3
    have hE3 := hE8.tr hb3
    have hY4 := hY3.put (.int .i64 F.kind) (.bool F.neg) (.int .i64 F.exp) (.slice A3 (cn F.mag).length c3)
    have hE4 := hE3.put (g := w.heap.size + 1 + 1) (by omega) (.int .i64 F.kind) (.bool F.neg) (.int .i64 F.exp) (.slice A3 (cn F.mag).length c3)
    have ho4 := (ho3.putBelow (g := w.heap.size + 1 + 1) hlY8 (.int .i64 F.kind) (.bool F.neg) (.int .i64 F.exp) (.slice A3 (cn F.mag).length c3)).low (b := w.heap.size) hs8
    have HY4 := Lib.hid hY4
    have HE4 := Lib.hid hE4
    have HO4 := Lib.hid ho4
    clear hY4 hE4 ho4 g0 g1 z0 z1 z2 z3 z4
    obtain ⟨y0, y1, y2, y3, yf⟩ := hY3.facts
    go_wp2_with fail
    obtain ⟨s0, s1, s2, s3, -⟩ := HY4.out.facts
    refine bodyPost_ret (v := .tuple #[flV F.kind F.neg F.exp (.slice A3 (cn F.mag).length c3), .int .i64 5]) (by simp [results, Tryz.results35, go_sem, s0, s1, s2, s3]) rfl ?_
    exact ⟨_, rfl, ⟨_, rfl, HO4.out⟩, HE4.out⟩
  have hBd : decide (gr k + 1 < (bN : Int) + U) = false := decide_eq_false hB
  rw [hBd]
  have hK3 := K3.out (by omega)
  have hK4 := K4.out (by omega)
  have K3' := Lib.hid hK3
  have K4' := Lib.hid hK4
  clear hB K2 K3 K4 hK3 hK4
  by_cases hN0 : N = 0
  · obtain ⟨e1, e2⟩ := K3'.out hN0
    subst e1 e2
    have hz := hiz A6 c6
    rw [decide_eq_true hN0] at hz
    have hY4 := hY8.put (.int .i64 0) (.bool neg) (.int .i64 0) (.slice none 0 0)
    have hE4 := hE8.put (g := w.heap.size + 1 + 1) (by omega) (.int .i64 0) (.bool neg) (.int .i64 0) (.slice none 0 0)
    have HY4 := Lib.hid hY4
    have HE4 := Lib.hid hE4
    clear hY4 hE4 hN0 K3' K4'
    obtain ⟨y0, y1, y2, y3, yf⟩ := hY8.facts
    go_wp2_with fail
    refine (hz _ hr8).mono ?_
    rintro z w9 ⟨rfl, rfl⟩
    go_wp2_with fail
    obtain ⟨s0, s1, s2, s3, -⟩ := HY4.out.facts
    refine bodyPost_ret (v := .tuple #[flV 0 neg 0 (.slice none 0 0), .int .i64 3]) (by simp [results, Tryz.results35, go_sem, s0, s1, s2, s3]) rfl ?_
    exact ⟨_, rfl, ⟨_, rfl, by rw [show cn 0 = [] from digs_zero B]; exact Own.nil _ _⟩, HE4.out⟩
  obtain ⟨hcf, hK⟩ := K4'.out hN0
  have hz := hiz A6 c6
  rw [decide_eq_false hN0] at hz
  have hcn' := fun w h => hcn A6 c6 w h F hcf
  replace hK : K = if xb = true then 0 else if e < le k then 3 else 1 := by
    rw [hK]
    by_cases hc : cx = 0
    · rw [if_pos hc, if_pos (HXB.out.mp hc)]
    · rw [if_neg hc, if_neg (fun hh => hc (HXB.out.mpr hh))]
  clear hcf hcn hiz K3' K4' hN0
  cases xb with
  | true =>
    rw [if_pos rfl] at hK
    subst hK
    go_wp2_with fail
    refine (hz _ hr8).mono ?_
    rintro z w9 ⟨rfl, rfl⟩
    go_wp2_with fail
    refine (hcn' _ hr8).mono ?_
    rintro z w9 ⟨u, rfl, ⟨v, rfl, ho3⟩, hb3⟩
    obtain ⟨A3, c3, rfl, -⟩ := ho3.rd
    have hY3 := hY8.ext hb3
    have hE3 := hE8.tr hb3
    have hl3 := hY3.lt
    have hY4 := (hY3.put (.int .i64 F.kind) (.bool F.neg) (.int .i64 F.exp) (.slice A3 (cn F.mag).length c3)).ext ((Ext.refl _).al (.cells #[.int .i64 F.kind, .bool F.neg, .int .i64 F.exp, .slice A3 (cn F.mag).length c3] 41))
    have hE4 := (hE3.put (g := w.heap.size + 1 + 1) (by omega) (.int .i64 F.kind) (.bool F.neg) (.int .i64 F.exp) (.slice A3 (cn F.mag).length c3)).al (.cells #[.int .i64 F.kind, .bool F.neg, .int .i64 F.exp, .slice A3 (cn F.mag).length c3] 41)
    have ho4 := ((ho3.putBelow (g := w.heap.size + 1 + 1) hlY8 (.int .i64 F.kind) (.bool F.neg) (.int .i64 F.exp) (.slice A3 (cn F.mag).length c3)).ext ((Ext.refl _).al (.cells #[.int .i64 F.kind, .bool F.neg, .int .i64 F.exp, .slice A3 (cn F.mag).length c3] 41))).low (b := w.heap.size) hs8
    have HY4 := Lib.hid hY4
    have HE4 := Lib.hid hE4
    have HO4 := Lib.hid ho4
    clear hY4 hE4 ho4 g0 g1 z0 z1 z2 z3 z4
    obtain ⟨y0, y1, y2, y3, yf⟩ := hY3.facts
    go_wp2_with fail
    obtain ⟨s0, s1, s2, s3, -⟩ := HY4.out.facts
    refine bodyPost_ret (v := .tuple #[flV F.kind F.neg F.exp (.slice A3 (cn F.mag).length c3), .int .i64 0]) (by simp [results, Tryz.results35, go_sem, s0, s1, s2, s3]) rfl ?_
    exact ⟨_, rfl, ⟨_, rfl, HO4.out⟩, HE4.out⟩
  | false =>
    rw [if_neg (by decide)] at hK
    have HK := Lib.hid hK
    clear hK
    go_wp2_with fail
    refine (hz _ hr8).mono ?_
    rintro z w9 ⟨rfl, rfl⟩
    go_wp2_with fail
    refine (hcn' _ hr8).mono ?_
    rintro z w9 ⟨u, rfl, ⟨v, rfl, ho3⟩, hb3⟩
    obtain ⟨A3, c3, rfl, -⟩ := ho3.rd
    have hX3 := Br.new w9 (.int .i64 F.kind) (.bool F.neg) (.int .i64 F.exp) (.slice A3 (cn F.mag).length c3)
    have hA3 := (Ext.refl w9).al (.cells #[.int .i64 F.kind, .bool F.neg, .int .i64 F.exp, .slice A3 (cn F.mag).length c3] 41)
    have hG3 := (hG8.ext hb3).ext hA3
    have hY3 := (hY8.ext hb3).ext hA3
    have hE3 := (hE8.tr hb3).tr hA3
    have ho3' := ho3.ext hA3
    clear g0 g1 z0 z1 z2 z3 z4
    obtain ⟨g0, g1⟩ := hG3.facts
    go_wp2_with fail
    generalize w9.alloc (.cells #[.int .i64 F.kind, .bool F.neg, .int .i64 F.exp, .slice A3 (cn F.mag).length c3] 41) = w10 at *
    refine (hls _).mono ?_
    rintro z w11 ⟨rfl, hb11⟩
    have hY5 := hY3.ext hb11
    have hE5 := hE3.tr hb11
    have hX5 := hX3.ext hb11
    have ho5 := ho3'.ext hb11
    have hY4 := hY5.put (.int .i64 F.kind) (.bool F.neg) (.int .i64 F.exp) (.slice A3 (cn F.mag).length c3)
    have hE4 := hE5.put (g := w.heap.size + 1 + 1) (by omega) (.int .i64 F.kind) (.bool F.neg) (.int .i64 F.exp) (.slice A3 (cn F.mag).length c3)
    have ho4 := (ho5.putBelow (g := w.heap.size + 1 + 1) hlY8 (.int .i64 F.kind) (.bool F.neg) (.int .i64 F.exp) (.slice A3 (cn F.mag).length c3)).low (b := w.heap.size) hs8
    have HY4 := Lib.hid hY4
    have HE4 := Lib.hid hE4
    have HO4 := Lib.hid ho4
    clear hY4 hE4 ho4 g0 g1
    obtain ⟨y0, y1, y2, y3, yf⟩ := hY5.facts
    obtain ⟨x0, x1, x2, x3, xf⟩ := hX5.facts
    by_cases hel : e < le k
    · have hK := HK.out
      rw [if_pos hel] at hK
      subst hK
      have hed : decide (e < le k) = true := decide_eq_true hel
      clear hel HK
      go_wp2_with fail
      obtain ⟨s0, s1, s2, s3, -⟩ := HY4.out.facts
      refine bodyPost_ret (v := .tuple #[flV F.kind F.neg F.exp (.slice A3 (cn F.mag).length c3), .int .i64 3]) (by simp [results, Tryz.results35, go_sem, s0, s1, s2, s3]) rfl ?_
      exact ⟨_, rfl, ⟨_, rfl, HO4.out⟩, HE4.out⟩
    · have hK := HK.out
      rw [if_neg hel] at hK
      subst hK
      have hed : decide (e < le k) = false := decide_eq_false hel
      clear hel HK
      go_wp2_with fail
      obtain ⟨s0, s1, s2, s3, -⟩ := HY4.out.facts
      refine bodyPost_ret (v := .tuple #[flV F.kind F.neg F.exp (.slice A3 (cn F.mag).length c3), .int .i64 1]) (by simp [results, Tryz.results35, go_sem, s0, s1, s2, s3]) rfl ?_
      exact ⟨_, rfl, ⟨_, rfl, HO4.out⟩, HE4.out⟩
end Go.Proofs.YtehlmacgjlgjaaaGreatDoor
namespace Go.Proofs.YtehlmacgjlgjaaaGreatDoor
open Go.RowKit
attribute [local go_sem ↓] Go.wp_at_zero Go.wp_at_succ

theorem Br.apart4 {w : World} {g g' : Nat} {a b c d : Value} (x : Br w g a b c d) (hne : g ≠ g') (a' b' c' d' : Value) : Br ((((w.setCell ⟨g', 0, none⟩ a').setCell ⟨g', 1, none⟩ b').setCell ⟨g', 2, none⟩ c').setCell ⟨g', 3, none⟩ d') g a b c d := by
  have h := x.h
  constructor
  simp [World.setCell, Array.getElem?_modify, h, Ne.symm hne]
theorem Bg.apart4 {w : World} {g g' : Nat} {a b : Value} (x : Bg w g a b) (hne : g ≠ g') (a' b' c' d' : Value) : Bg ((((w.setCell ⟨g', 0, none⟩ a').setCell ⟨g', 1, none⟩ b').setCell ⟨g', 2, none⟩ c').setCell ⟨g', 3, none⟩ d') g a b := by
  have h := x.h
  constructor
  simp [World.setCell, Array.getElem?_modify, h, Ne.symm hne]
theorem boxesSc (w : World) (k p : Int) (a b c d : Value) : ∀ W, W = (((w.alloc (.cells #[.int .i64 k, .int .i64 p] 47)).alloc (.cells #[a, b, c, d] 41)).alloc (.cells #[.int .i64 0, .bool false, .int .i64 0, .slice none 0 0] 41)) →
    Bg W w.heap.size (.int .i64 k) (.int .i64 p) ∧ Br W (w.heap.size + 1) a b c d ∧ Br W (w.heap.size + 1 + 1) (.int .i64 0) (.bool false) (.int .i64 0) (.slice none 0 0) ∧ Ext w W := by
  rintro W rfl
  have x2 := Br.new (w.alloc (.cells #[.int .i64 k, .int .i64 p] 47)) a b c d
  have x3 := Br.new ((w.alloc (.cells #[.int .i64 k, .int .i64 p] 47)).alloc (.cells #[a, b, c, d] 41)) (.int .i64 0) (.bool false) (.int .i64 0) (.slice none 0 0)
  rw [World.size_alloc] at x2
  rw [World.size_alloc, World.size_alloc] at x3
  exact ⟨((Bg.new w _ _).ext ((Ext.refl _).al _)).ext ((Ext.refl _).al _), x2.ext ((Ext.refl _).al _), x3, (((Ext.refl w).al _).al _).al _⟩
set_option maxHeartbeats 4000000 in
set_option maxRecDepth 100000 in
theorem scale21_c (k p r n : Int) (a : FA) (f : Fl) (w : World) (ha : Rd w a.A a.c a.xs) (hs : a.xs.length ≤ 4096) (hR : Rgt k p) (hr : 0 ≤ r ∧ r ≤ 4) (hn : -100000 ≤ n ∧ n ≤ 100000) (hcan : a.can = some f) (hf : FOf k p f) :
    Calls Tryz.prog 15 #[.agg #[.int .i64 k, .int .i64 p], .int .i64 r, a.v, .int .i64 n] w (FErr w (scK k p r f n) (scF k p r f n)) := by
  obtain ⟨hG, hX, hY, hE⟩ := boxesSc w k p (.int .i64 a.k) (.bool a.neg) (.int .i64 a.e) (.slice a.A a.xs.length a.c) _ rfl
  have hkk : f.kind = a.k := canon_kind hcan
  have hcn := fun w h => rcanonical_c a.k a.e a.neg a.A a.c a.xs w h hs f hcan
  by_cases hk : f.kind = 1
  · unfold scK scF
    rw [if_pos hk, if_pos hk]
    have hmp : 0 < f.mag := by have := hf.ok.odd hk; omega
    have hlo := hf.ok.lo
    have hhi := hf.ok.hi
    have hmk : ∀ A c w, Rd w A c (cn f.mag) → Calls Tryz.prog 37 #[.bool f.neg, .slice A (cn f.mag).length c] w fun z w' => ∃ A1 c1, z = .returned (intV f.neg A1 (cn f.mag).length c1) ∧ Own w' w.heap.size (.slice A1 (cn f.mag).length c1) (cn f.mag) ∧ Ext w w' := by
      intro A c w h
      have h1 := rmake11_c f.neg A c (cn f.mag) w h (by have := hf.len; omega)
      unfold IntR at h1
      rw [val_cn, sg_abs, sg_neg, decide_eq_true hmp, Bool.and_true] at h1
      exact h1
    have hsc := fun A c w h => scaled_c f.neg A c f.mag (f.exp + n) w h hmp (by have := hf.len; omega)
    have hrd := fun A c A' c' w h h' => round_c k p r f.neg A A' c c' f.mag (f.exp + n) w hR hr.1 hr.2 h h' hmp hf.len (by omega) (by omega)
    have hka : a.k = 1 := by rw [← hkk]; exact hk
    unfold RealR at hsc
    unfold FErr at hrd ⊢
    generalize fltF k p r f.neg f.mag (f.exp + n) = F at *
    generalize fltK k p r f.neg f.mag (f.exp + n) = K at *
    clear hf hcan hs hkk hR hr hmp
    obtain ⟨ak, an, ae, aA, ac, axs⟩ := a
    obtain ⟨fk, fn, fe, fm⟩ := f
    simp only at hk hka hG hX hY hE hlo hhi hsc hrd hmk hcn ha
    subst hk hka
    obtain ⟨hn1, hn2⟩ := hn
    have hw1 : IntKind.i64.wrap (fe + n) = fe + n := by rw [IntKind.wrap_i64]; omega
    have HG := Lib.hid hG
    have HX := Lib.hid hX
    have HY := Lib.hid hY
    have HE := Lib.hid hE
    clear hG hX hY hE
    generalize cn 1 = O at *
    go_enter Tryz.func15, Tryz.ntmps15
    go_wp2_with fail
    have hG := HG.out
    have hX := HX.out
    have hY := HY.out
    have hE := HE.out
    clear HG HX HY HE
    generalize (((w.alloc (.cells #[.int .i64 k, .int .i64 p] 47)).alloc (.cells #[.int .i64 1, .bool an, .int .i64 ae, .slice aA axs.length ac] 41)).alloc (.cells #[.int .i64 0, .bool false, .int .i64 0, .slice none 0 0] 41)) = W at *
    refine (hcn _ (ha.ext hE)).mono ?_
    rintro z w1 ⟨u, rfl, ⟨v, rfl, ho1⟩, hb1⟩
    obtain ⟨A1, c1, rfl, -⟩ := ho1.rd
    simp only
    have hlY := hY.lt
    have hG1 := hG.ext hb1
    have hX1 := hX.ext hb1
    have hY1 := hY.ext hb1
    have hE1 := hE.tr hb1
    have hX2 := hX1.put (.int .i64 1) (.bool fn) (.int .i64 fe) (.slice A1 (cn fm).length c1)
    have hG2 := hG1.apart4 (g' := w.heap.size + 1) (by omega) (.int .i64 1) (.bool fn) (.int .i64 fe) (.slice A1 (cn fm).length c1)
    have hY2 := hY1.apart4 (g' := w.heap.size + 1) (by omega) (.int .i64 1) (.bool fn) (.int .i64 fe) (.slice A1 (cn fm).length c1)
    have hE2 := hE1.put (g := w.heap.size + 1) (by omega) (.int .i64 1) (.bool fn) (.int .i64 fe) (.slice A1 (cn fm).length c1)
    have ho2 := ho1.putBelow (g := w.heap.size + 1) (by omega) (.int .i64 1) (.bool fn) (.int .i64 fe) (.slice A1 (cn fm).length c1)
    have HX2 := Lib.hid hX2
    have HG2 := Lib.hid hG2
    have HY2 := Lib.hid hY2
    have HE2 := Lib.hid hE2
    have HO2 := Lib.hid ho2
    clear hX2 hG2 hY2 hE2 ho2
    obtain ⟨x0, x1, x2, x3, xf⟩ := hX1.facts
    go_wp2_with fail
    clear x0 x1 x2 x3 xf hX1 hG1 hY1 hG hX hY hE hb1 ho1 hE1 hcn
    generalize (((w1.setCell ⟨w.heap.size + 1, 0, none⟩ (.int .i64 1)).setCell ⟨w.heap.size + 1, 1, none⟩ (.bool fn)).setCell ⟨w.heap.size + 1, 2, none⟩ (.int .i64 fe)).setCell ⟨w.heap.size + 1, 3, none⟩ (.slice A1 (cn fm).length c1) = w2 at *
    obtain ⟨-, hr2⟩ := HO2.out.rdAt
    have hX2 := HX2.out
    have hG2 := HG2.out
    have hY2 := HY2.out
    have hE2 := HE2.out
    clear HX2 HG2 HY2 HE2 HO2
    obtain ⟨x0, x1, x2, x3, -⟩ := hX2.facts
    obtain ⟨g0, g1⟩ := hG2.facts
    have hs2 := hE2.size
    have hlY2 := hY2.lt
    go_region_held3 (fun w' => w'.cell? ⟨w.heap.size, 0, none⟩ = some (.int .i64 k) ∧ w'.cell? ⟨w.heap.size, 1, none⟩ = some (.int .i64 p) ∧ w'.cell? ⟨w.heap.size + 1, 1, none⟩ = some (.bool fn) ∧ w'.cell? ⟨w.heap.size + 1, 2, none⟩ = some (.int .i64 fe) ∧ w'.cell? ⟨w.heap.size + 1, 3, none⟩ = some (.slice A1 (cn fm).length c1))
      (first | (go_split_ands; refine ⟨?_, ?_, ?_, ?_, ?_⟩ <;> first | with_reducible assumption | (with_reducible refine Ext.cell (w := w2) (by assumption) ?_; with_reducible assumption)) | go_keep)
      (first
        | (go_at_call 37; (with_reducible refine (hmk A1 c1 _ ?hr).mono ?_); (case hr => exact hr2.ext (Ext.refl w2).drew); rintro z w4 ⟨A4, c4, rfl, ho4, hb4⟩; have hr4 := ho4.rdAt.2; have hE4 : Ext w2 w4 := (Ext.refl w2).drew.tr hb4)
        | (go_at_call 36; (with_reducible refine (hsc A4 c4 _ hr4).mono ?_); rintro z w5 ⟨v1, v2, rfl, ho5, ho5', hb5⟩; obtain ⟨A5, c5, rfl, hr5⟩ := ho5.rd; obtain ⟨A6, c6, rfl, hr6⟩ := ho5'.rd; have hE5 : Ext w2 w5 := hE4.tr hb5)
        | (go_at_call 35; (with_reducible refine (hrd A5 c5 A6 c6 _ hr5 hr6).mono ?_); rintro z w7 ⟨u, rfl, ⟨v, rfl, ho7⟩, hb7⟩; obtain ⟨A7, c7, rfl, -⟩ := ho7.rd; have hE7 : Ext w2 w7 := hE5.tr hb7; have hY7 := hY2.ext hE7; obtain ⟨y0, y1, y2, y3, yf⟩ := hY7.facts; obtain ⟨j0, j1⟩ := ((hG2.ext hE7).apart4 (g' := w.heap.size + 1 + 1) (by omega) (.int .i64 F.kind) (.bool F.neg) (.int .i64 F.exp) (.slice A7 (cn F.mag).length c7)).facts; obtain ⟨l0, l1, l2, l3, -⟩ := ((hX2.ext hE7).apart4 (g' := w.heap.size + 1 + 1) (by omega) (.int .i64 F.kind) (.bool F.neg) (.int .i64 F.exp) (.slice A7 (cn F.mag).length c7)).facts))
    have hs7 := hE5.size
    have hR7 := hY7.put (.int .i64 F.kind) (.bool F.neg) (.int .i64 F.exp) (.slice A7 (cn F.mag).length c7)
    have q1 := (ho7.putBelow (g := w.heap.size + 1 + 1) (by omega) (.int .i64 F.kind) (.bool F.neg) (.int .i64 F.exp) (.slice A7 (cn F.mag).length c7)).low (b := w.heap.size) (by omega)
    have qE := (hE2.tr hE7).put (g := w.heap.size + 1 + 1) (by omega) (.int .i64 F.kind) (.bool F.neg) (.int .i64 F.exp) (.slice A7 (cn F.mag).length c7)
    have HR := Lib.hid hR7
    have Q1 := Lib.hid q1
    have QE := Lib.hid qE
    clear hR7 q1 qE
    go_wp2
    obtain ⟨m0, m1, m2, m3, -⟩ := HR.out.facts
    refine bodyPost_ret (v := .tuple #[flV F.kind F.neg F.exp (.slice A7 (cn F.mag).length c7), .int .i64 K]) (by simp [results, Tryz.results15, go_sem, m0, m1, m2, m3]) rfl ?_
    exact ⟨_, rfl, ⟨_, rfl, Q1.out⟩, QE.out⟩
  · unfold scK scF FErr
    rw [if_neg hk, if_neg hk]
    have hka : (a.k == 1) = false := by rw [← hkk, beq_eq_false_iff_ne]; exact hk
    clear hf hcan hs hkk hR hr hn hk
    obtain ⟨ak, an, ae, aA, ac, axs⟩ := a
    simp only at hka hG hX hY hE hcn ha
    have HG := Lib.hid hG
    have HX := Lib.hid hX
    have HY := Lib.hid hY
    have HE := Lib.hid hE
    clear hG hX hY hE
    go_enter Tryz.func15, Tryz.ntmps15
    go_wp2_with fail
    have hY := HY.out
    have hE := HE.out
    clear HG HX HY HE
    generalize (((w.alloc (.cells #[.int .i64 k, .int .i64 p] 47)).alloc (.cells #[.int .i64 ak, .bool an, .int .i64 ae, .slice aA axs.length ac] 41)).alloc (.cells #[.int .i64 0, .bool false, .int .i64 0, .slice none 0 0] 41)) = W at *
    refine (hcn _ (ha.ext hE)).mono ?_
    rintro z w1 ⟨u, rfl, ⟨v, rfl, ho1⟩, hb1⟩
    obtain ⟨A1, c1, rfl, -⟩ := ho1.rd
    have hlY := hY.lt
    have hsE := hE.size
    have hY1 := hY.ext hb1
    have hE1 := hE.tr hb1
    have hR7 := hY1.put (.int .i64 f.kind) (.bool f.neg) (.int .i64 f.exp) (.slice A1 (cn f.mag).length c1)
    have q1 := (ho1.putBelow (g := w.heap.size + 1 + 1) hlY (.int .i64 f.kind) (.bool f.neg) (.int .i64 f.exp) (.slice A1 (cn f.mag).length c1)).low (b := w.heap.size) hsE
    have qE := hE1.put (g := w.heap.size + 1 + 1) (by omega) (.int .i64 f.kind) (.bool f.neg) (.int .i64 f.exp) (.slice A1 (cn f.mag).length c1)
    have HR := Lib.hid hR7
    have Q1 := Lib.hid q1
    have QE := Lib.hid qE
    clear hR7 q1 qE
    obtain ⟨y0, y1, y2, y3, yf⟩ := hY1.facts
    go_wp2_with fail
    obtain ⟨m0, m1, m2, m3, -⟩ := HR.out.facts
    refine bodyPost_ret (v := .tuple #[flV f.kind f.neg f.exp (.slice A1 (cn f.mag).length c1), .int .i64 0]) (by simp [results, Tryz.results15, go_sem, m0, m1, m2, m3]) rfl ?_
    exact ⟨_, rfl, ⟨_, rfl, Q1.out⟩, QE.out⟩
end Go.Proofs.YtehlmacgjlgjaaaGreatDoor
namespace Go.Proofs.YtehlmacgjlgjaaaGreatDoor
open Go.RowKit
attribute [local go_sem ↓] Go.wp_at_zero Go.wp_at_succ

theorem boxesHs (w : World) (k p : Int) (a : FA) : ∀ W, W = ((w.alloc (.cells #[.int .i64 k, .int .i64 p] 23)).alloc (.cells #[.int .i64 a.k, .bool a.neg, .int .i64 a.e, .slice a.A a.xs.length a.c] 29)) →
    Bf W w.heap.size (.int .i64 k) (.int .i64 p) ∧ Bx W (w.heap.size + 1) (.int .i64 a.k) (.bool a.neg) (.int .i64 a.e) (.slice a.A a.xs.length a.c) ∧ Ext w W ∧ W.heap.size = w.heap.size + 1 + 1 := by
  rintro W rfl
  have x := Bx.new (w.alloc (.cells #[.int .i64 k, .int .i64 p] 23)) (.int .i64 a.k) (.bool a.neg) (.int .i64 a.e) (.slice a.A a.xs.length a.c)
  rw [World.size_alloc] at x
  exact ⟨(Bf.new w _ _).ext ((Ext.refl _).al _), x, ((Ext.refl w).al _).al _, by simp only [World.size_alloc]⟩
theorem Br.drewS {w : World} {g : Nat} {a b c d : Value} (x : Br w g a b c d) : Br w.drew g a b c d := ⟨x.h⟩
set_option maxHeartbeats 2000000 in
set_option maxRecDepth 100000 in
theorem fits_bad (ec : Int) (hec : ec ≠ 0) (K : Int) (F : Fl) (hF : K = 0 ∧ F = ⟨0, false, 0, 0⟩) (A : Option Addr) (c : Nat) (w : World) :
    Calls Tryz.prog 14 #[flV F.kind F.neg F.exp (.slice A (cn F.mag).length c), .int .i64 K, .int .i64 ec, flV 0 false 0 (.slice none 0 0), .int .i64 0, .int .i64 ec] w fun e w' => e = .returned (.bool true) ∧ Ext w w' := by
  obtain ⟨rfl, rfl⟩ := hF
  simp only [show cn 0 = [] from digs_zero B, List.length_nil]
  have hE := ((Ext.refl w).al (.cells #[.int .i64 0, .bool false, .int .i64 0, .slice A 0 c] 29)).al (.cells #[.int .i64 0, .bool false, .int .i64 0, .slice none 0 0] 41)
  have hnn := fun w => none_c 0 0 false A 0 c w
  simp only [show decide ((0 : Int) = 0 ∧ false = false ∧ (0 : Int) = 0 ∧ (0 : Nat) = 0) = true by decide] at hnn
  have hb : (ec == 0) = false := beq_eq_false_iff_ne.2 hec
  have hb2 : (ec = 0) = False := eq_false hec
  have HE := Lib.hid hE
  clear hE hec
  go_enter Tryz.func14, Tryz.ntmps14
  go_wp2_with fail
  refine (hnn _).mono ?_
  rintro e w2 ⟨rfl, hb2⟩
  go_wp2
  go_ret
  exact ⟨rfl, HE.out.tr hb2⟩
set_option maxHeartbeats 2000000 in
set_option maxRecDepth 100000 in
theorem fits_ok (K : Int) (F : Fl) (hcf : canon F.kind F.neg F.exp F.mag = some F) (hlf : (cn F.mag).length ≤ 4096) (A A' : Option Addr) (c c' : Nat) (w : World) (h : Rd w A c (cn F.mag)) (h' : Rd w A' c' (cn F.mag)) :
    Calls Tryz.prog 14 #[flV F.kind F.neg F.exp (.slice A (cn F.mag).length c), .int .i64 K, .int .i64 0, flV F.kind F.neg F.exp (.slice A' (cn F.mag).length c'), .int .i64 K, .int .i64 0] w fun e w' => e = .returned (.bool true) ∧ Ext w w' := by
  have hX := Bx.new w (.int .i64 F.kind) (.bool F.neg) (.int .i64 F.exp) (.slice A (cn F.mag).length c)
  have hA1 := (Ext.refl w).al (.cells #[.int .i64 F.kind, .bool F.neg, .int .i64 F.exp, .slice A (cn F.mag).length c] 29)
  have hA2 := (Ext.refl (w.alloc (.cells #[.int .i64 F.kind, .bool F.neg, .int .i64 F.exp, .slice A (cn F.mag).length c] 29))).al (.cells #[.int .i64 F.kind, .bool F.neg, .int .i64 F.exp, .slice A' (cn F.mag).length c'] 41)
  have hE := hA1.tr hA2
  have hli := fun w h h' => lis_c F.kind F.kind F.exp F.exp F.neg F.neg A A' c c' (cn F.mag) (cn F.mag) w h h' hlf F (by rw [val_cn]; exact hcf)
  simp only [true_and, decide_true] at hli
  have HE := Lib.hid hE
  clear hE hcf hlf hX hA1 hA2
  go_enter Tryz.func14, Tryz.ntmps14
  go_wp2_with fail
  refine (hli _ (h.ext HE.out) (h'.ext HE.out)).mono ?_
  rintro e w2 ⟨rfl, hb2⟩
  go_wp2
  go_ret
  exact ⟨rfl, HE.out.tr hb2⟩
set_option maxHeartbeats 16000000 in
set_option maxRecDepth 100000 in
theorem scales_err (k p r n : Int) (a : FA) (w : World) (hT : Tab w) (hM : MoreT w) (ha : Rd w a.A a.c a.xs) (hs : a.xs.length ≤ 40) (C E ec K : Int) (F : Fl) (b g : Int)
    (hsc : ∀ w, Tab w → MoreT w → Rd w a.A a.c a.xs → Calls Tryz.prog 8 #[.agg #[.int .i64 k, .int .i64 p], .int .i64 r, a.v, .int .i64 n] w (ScR w ec K F))
    (hex : ∀ w, Tab w → Rd w a.A a.c a.xs → Calls Tryz.prog 9 #[.agg #[.int .i64 k, .int .i64 p], a.v] w fun e w' => e = .returned (.tuple #[.int .i64 b, .int .i64 g]) ∧ Ext w w')
    (hck : chkS k p [a] = C) (hE0 : kaS k p r [a] = E)
    (hcE : C ≠ 0 ∧ g = C ∧ b = 0)
    (hcN : (E ≠ 2 ∧ n < -100000 ∧ ec = 1) ∨ (E ≠ 2 ∧ 100000 < n ∧ ec = 1) ∨ (-100000 ≤ n ∧ n ≤ 100000 ∧ ec = E ∧ E ≠ 2))
    (hz : ec ≠ 0 → K = 0 ∧ F = ⟨0, false, 0, 0⟩)
    (hgood : ec = 0 → (canon F.kind F.neg F.exp F.mag = some F ∧ (cn F.mag).length ≤ 4096) ∧ ∀ w, Rd w a.A a.c a.xs → Calls Tryz.prog 15 #[.agg #[.int .i64 k, .int .i64 p], .int .i64 r, a.v, .int .i64 n] w (FErr w K F)) :
    Calls Tryz.prog 3 #[.agg #[.int .i64 k, .int .i64 p], .int .i64 r, a.v, .int .i64 n] w fun e w' => e = .returned (.bool true) ∧ Ext w w' := by
  obtain ⟨hF, hX, hE, hsz⟩ := boxesHs w k p a _ rfl
  have HF := Lib.hid hF
  have HX := Lib.hid hX
  have HE := Lib.hid hE
  have HS := Lib.hid hsz
  clear hF hX hE hsz
  have hall : [a].all (fun a => decide (a.xs.length ≤ 40)) = true := by simpa using hs
  have hsh := fun A c w h => short_c A c [a] w h
  rw [hall] at hsh
  clear hall
  have h96 : ∀ i (hi : i < [a].length), [a][i].xs.length ≤ 4096 := fun i hi => by
    obtain rfl : i = 0 := by simpa using hi
    show a.xs.length ≤ 4096
    omega
  have hka := fun A c w h => kargs_c k p r A c [a] w h h96
  have hck' := fun A c w h => check21_c k p A c [a] w h h96
  rw [hE0] at hka
  rw [hck] at hck'
  have hth := fun w => their_c a.k a.e a.neg a.A a.xs.length a.c w
  have hfm := fun w => fmt_c k p w
  have hc4 : (decide (n < -100000) = true ∧ (-100000 ≤ n) = False ∧ (E == 2) = false ∧ (E = 2) = False ∧ ec = 1 ∧ ec ≠ 0) ∨ (decide (n < -100000) = false ∧ decide (100000 < n) = true ∧ (-100000 ≤ n) = True ∧ (n ≤ 100000) = False ∧ (E == 2) = false ∧ (E = 2) = False ∧ ec = 1 ∧ ec ≠ 0) ∨
      (decide (n < -100000) = false ∧ decide (100000 < n) = false ∧ (-100000 ≤ n) = True ∧ (n ≤ 100000) = True ∧ (ec == 0) = false ∧ (ec = 0) = False ∧ (ec == 2) = false ∧ (ec = 2) = False ∧ ec = E ∧ ec ≠ 0) ∨ (decide (n < -100000) = false ∧ decide (100000 < n) = false ∧ (-100000 ≤ n) = True ∧ (n ≤ 100000) = True ∧ E = 0 ∧ ec = 0) := by
    rcases hcN with ⟨h1, h2, h3⟩ | ⟨h1, h2, h3⟩ | ⟨h1, h2, h3, h5⟩
    · exact .inl ⟨decide_eq_true h2, eq_false (by omega), beq_eq_false_iff_ne.2 h1, eq_false h1, h3, by omega⟩
    · exact .inr (.inl ⟨decide_eq_false (by omega), decide_eq_true h2, eq_true (by omega), eq_false (by omega), beq_eq_false_iff_ne.2 h1, eq_false h1, h3, by omega⟩)
    · by_cases h4 : ec = 0
      · exact .inr (.inr (.inr ⟨decide_eq_false (by omega), decide_eq_false (by omega), eq_true h1, eq_true h2, by omega, h4⟩))
      · exact .inr (.inr (.inl ⟨decide_eq_false (by omega), decide_eq_false (by omega), eq_true h1, eq_true h2, beq_eq_false_iff_ne.2 h4, eq_false h4, beq_eq_false_iff_ne.2 (by omega), eq_false (by omega), h3, h4⟩))
  clear hcN h96 hs hck hE0
  unfold ScR at hsc
  unfold FErr at hgood
  obtain ⟨ak, an, ae, aA, ac, as1⟩ := a
  simp only at HF HX HE HS ha hsc hex hgood hth hcE
  obtain ⟨hC, rfl, rfl⟩ := hcE
  have c0 : (g == 0) = false := beq_eq_false_iff_ne.2 hC
  have c1 : (g = 0) = False := eq_false hC
  clear hC
  have HC4 := Lib.hid hc4
  have HZ := Lib.hid hz
  have HGD := Lib.hid hgood
  clear hc4 hz hgood
  go_enter Tryz.func3, Tryz.ntmps3
  go_wp2_with fail
  have hF := HF.out
  have hX := HX.out
  have hE := HE.out
  have hsz := HS.out
  clear HF HX HE HS
  generalize ((w.alloc (.cells #[.int .i64 k, .int .i64 p] 23)).alloc (.cells #[.int .i64 ak, .bool an, .int .i64 ae, .slice aA as1.length ac] 29)) = W at *
  have hL := oneRow W ⟨ak, an, ae, aA, ac, as1⟩ _ hsz (ha.ext hE)
  have hA := (Ext.refl W).al (.cells #[.int .i64 ak, .bool an, .int .i64 ae, .slice aA as1.length ac] 29)
  refine (hsh _ _ _ hL).mono ?_
  rintro z w1 ⟨rfl, rfl⟩
  have hE1 := hE.tr hA
  have hF1 := hF.ext hA
  have hX1 := hX.ext hA
  clear hL hsz hF hX hA hE
  generalize W.alloc (.cells #[.int .i64 ak, .bool an, .int .i64 ae, .slice aA as1.length ac] 29) = V at *
  obtain ⟨f0, f1⟩ := hF1.facts
  obtain ⟨x0, x1, x2, x3, -⟩ := hX1.facts
  go_wp2_with fail
  refine (hsc _ (hT.ext hE1) (hM.ext hE1) (ha.ext hE1)).mono ?_
  rintro z w2 ⟨u, rfl, ⟨v, rfl, ho2⟩, hb2⟩
  obtain ⟨A2, c2, rfl, hr2⟩ := ho2.rd
  have hP2 := Bx.new w2 (.int .i64 F.kind) (.bool F.neg) (.int .i64 F.exp) (.slice A2 (cn F.mag).length c2)
  have hA2 := (Ext.refl w2).al (.cells #[.int .i64 F.kind, .bool F.neg, .int .i64 F.exp, .slice A2 (cn F.mag).length c2] 29)
  have hE2 := (hE1.tr hb2).tr hA2
  have hF2 := (hF1.ext hb2).ext hA2
  have hX2 := (hX1.ext hb2).ext hA2
  have hr2' := hr2.ext hA2
  clear f0 f1 x0 x1 x2 x3 hsc hF1 hX1 hE1 hb2 ho2 hr2
  obtain ⟨f0, f1⟩ := hF2.facts
  obtain ⟨x0, x1, x2, x3, -⟩ := hX2.facts
  go_wp2_with fail
  generalize w2.alloc (.cells #[.int .i64 F.kind, .bool F.neg, .int .i64 F.exp, .slice A2 (cn F.mag).length c2] 29) = V2 at *
  refine (hex _ (hT.ext hE2) (ha.ext hE2)).mono ?_
  rintro z w3 ⟨rfl, hb3⟩
  have hE3 := hE2.tr hb3
  have hF3 := hF2.ext hb3
  have hX3 := hX2.ext hb3
  have hP3 := hP2.ext hb3
  have hr3 := hr2'.ext hb3
  clear f0 f1 x0 x1 x2 x3 hex hF2 hX2 hE2 hP2 hr2' hb3 hA2
  obtain ⟨f0, f1⟩ := hF3.facts
  obtain ⟨x0, x1, x2, x3, -⟩ := hX3.facts
  go_wp2_with fail
  have hL := oneRow w3 ⟨ak, an, ae, aA, ac, as1⟩ _ rfl (ha.ext hE3)
  have hA3 := (Ext.refl w3).al (.cells #[.int .i64 ak, .bool an, .int .i64 ae, .slice aA as1.length ac] 29)
  simp only at hL
  refine (hck' _ _ _ hL).mono ?_
  rintro z w4 ⟨rfl, hb4⟩
  have hE4 := (hE3.tr hA3).tr hb4
  have hF4 := (hF3.ext hA3).ext hb4
  have hX4 := (hX3.ext hA3).ext hb4
  have hP4 := (hP3.ext hA3).ext hb4
  have hr4 := (hr3.ext hA3).ext hb4
  clear f0 f1 x0 x1 x2 x3 hck' hL hF3 hX3 hE3 hP3 hr3 hb4 hA3
  obtain ⟨f0, f1⟩ := hF4.facts
  obtain ⟨x0, x1, x2, x3, -⟩ := hX4.facts
  go_wp2_with fail
  have hL := oneRow w4 ⟨ak, an, ae, aA, ac, as1⟩ _ rfl (ha.ext hE4)
  have hA5 := (Ext.refl w4).al (.cells #[.int .i64 ak, .bool an, .int .i64 ae, .slice aA as1.length ac] 29)
  simp only at hL
  refine (hka _ _ _ hL).mono ?_
  rintro z w7 ⟨rfl, hb7⟩
  have hE7 := (hE4.tr hA5).tr hb7
  have hF7 := (hF4.ext hA5).ext hb7
  have hX7 := (hX4.ext hA5).ext hb7
  have hP7 := (hP4.ext hA5).ext hb7
  have hr7 := (hr4.ext hA5).ext hb7
  clear f0 f1 x0 x1 x2 x3 hka hL hF4 hX4 hE4 hP4 hr4 hb7 hA5
  obtain ⟨f0, f1⟩ := hF7.facts
  obtain ⟨x0, x1, x2, x3, -⟩ := hX7.facts
  obtain ⟨p0, p1, p2, p3, -⟩ := hP7.facts
  rcases HC4.out with ⟨d1, d2, d3, d4, rfl, hec⟩ | ⟨d1, d2, d3, d4, d5, d6, rfl, hec⟩ | ⟨d1, d2, d3, d4, d5, d6, d7, d8, rfl, hec⟩ | ⟨d1, d2, d3, d4, rfl, rfl⟩
  · have hft := fun w => fits_bad _ hec K F (HZ.out hec) A2 c2 w
    clear HC4 HZ HGD hec hfm hth
    go_wp2_with fail
    refine (hft _).mono ?_
    rintro z w8 ⟨rfl, hb8⟩
    have hE8 := hE7.tr hb8
    go_wp2_with fail
    refine (awake21_c _ (hT.ext hE8)).mono ?_
    rintro z w9 ⟨rfl, hb9⟩
    go_wp2
    go_ret
    exact ⟨rfl, hE8.tr hb9⟩
  · have hft := fun w => fits_bad _ hec K F (HZ.out hec) A2 c2 w
    clear HC4 HZ HGD hec hfm hth
    go_wp2_with fail
    refine (hft _).mono ?_
    rintro z w8 ⟨rfl, hb8⟩
    have hE8 := hE7.tr hb8
    go_wp2_with fail
    refine (awake21_c _ (hT.ext hE8)).mono ?_
    rintro z w9 ⟨rfl, hb9⟩
    go_wp2
    go_ret
    exact ⟨rfl, hE8.tr hb9⟩
  · have hft := fun w => fits_bad _ hec K F (HZ.out hec) A2 c2 w
    clear HC4 HZ HGD hec hfm hth
    go_wp2_with fail
    refine (hft _).mono ?_
    rintro z w8 ⟨rfl, hb8⟩
    have hE8 := hE7.tr hb8
    go_wp2_with fail
    refine (awake21_c _ (hT.ext hE8)).mono ?_
    rintro z w9 ⟨rfl, hb9⟩
    go_wp2
    go_ret
    exact ⟨rfl, hE8.tr hb9⟩
  · obtain ⟨⟨hcf, hlf⟩, hgs⟩ := HGD.out rfl
    have hft := fun A' c' w h h' => fits_ok K F hcf hlf A2 A' c2 c' w h h'
    clear HC4 HZ HGD hcf hlf
    have hA0 := (Ext.refl w7).al (.cells #[.int .i64 0, .bool false, .int .i64 0, .slice none 0 0] 41)
    have hY0' : Br (w7.drew.alloc (.cells #[.int .i64 0, .bool false, .int .i64 0, .slice none 0 0] 41)) w7.heap.size (.int .i64 0) (.bool false) (.int .i64 0) (.slice none 0 0) := Br.new w7.drew (.int .i64 0) (.bool false) (.int .i64 0) (.slice none 0 0)
    have hY0 := Br.new w7 (.int .i64 0) (.bool false) (.int .i64 0) (.slice none 0 0)
    go_wp2_with fail
    go_region_held3 (fun w' => w'.cell? ⟨w.heap.size, 0, none⟩ = some (.int .i64 k) ∧ w'.cell? ⟨w.heap.size, 1, none⟩ = some (.int .i64 p) ∧ w'.cell? ⟨w.heap.size + 1, 0, none⟩ = some (.int .i64 ak) ∧ w'.cell? ⟨w.heap.size + 1, 1, none⟩ = some (.bool an) ∧ w'.cell? ⟨w.heap.size + 1, 2, none⟩ = some (.int .i64 ae) ∧ w'.cell? ⟨w.heap.size + 1, 3, none⟩ = some (.slice aA as1.length ac))
      (first | (go_split_ands; (repeat' apply And.intro) <;> first | (with_reducible assumption) | (refine Ext.cell (w := w7) ?_ ?_ <;> (with_reducible assumption))) | go_keep)
      (first
        | (go_at_call 16; (with_reducible refine (hfm _).mono ?_); rintro e wa ⟨rfl, hba⟩; (have hEa : Ext w7 wa := (by first | with_reducible exact (Ext.refl w7).drew.tr hba | with_reducible exact hA0.drew.tr hba | with_reducible exact ((Ext.refl w7).drew.al _).tr hba)); (try have hYa : Br wa w7.heap.size (.int .i64 0) (.bool false) (.int .i64 0) (.slice none 0 0) := (by first | with_reducible exact hY0.drewS.ext hba | with_reducible exact hY0'.ext hba)))
        | (go_at_call 12; (with_reducible refine (hth _).mono ?_); rintro e wb ⟨rfl, hbb⟩; (have hbb' : Ext wa wb := (by first | with_reducible exact hbb | with_reducible exact ((Ext.refl wa).al _).tr hbb)); have hEb : Ext w7 wb := hEa.tr hbb'; (try (with_reducible replace hYa := hYa.ext hbb')); (try have hYb : Br wb wa.heap.size (.int .i64 0) (.bool false) (.int .i64 0) (.slice none 0 0) := (by with_reducible exact (Br.new wa (.int .i64 0) (.bool false) (.int .i64 0) (.slice none 0 0)).ext hbb)))
        | (go_at_call 15; (with_reducible refine (hgs _ ?hr).mono ?_); (case hr => first | with_reducible exact ha.ext (hE7.tr hEb) | with_reducible exact ha.ext ((hE7.tr hEb).al _)); rintro e wc ⟨u, rfl, ⟨v, rfl, ho6⟩, hbc⟩; obtain ⟨A6, c6, rfl, hr6⟩ := ho6.rd; (have hbc' : Ext wb wc := (by first | with_reducible exact hbc | with_reducible exact ((Ext.refl wb).al _).tr hbc)); have hEc : Ext w7 wc := hEb.tr hbc'; (try have hla := hYa.lt); (try have hlb := hYb.lt); (try (with_reducible replace hYa := hYa.ext hbc')); (try (with_reducible replace hYb := hYb.ext hbc')); (try have hYc : Br wc wb.heap.size (.int .i64 0) (.bool false) (.int .i64 0) (.slice none 0 0) := (by with_reducible exact (Br.new wb (.int .i64 0) (.bool false) (.int .i64 0) (.slice none 0 0)).ext hbc)); (try obtain ⟨y0, y1, y2, y3, yf⟩ := hYa.facts); (try obtain ⟨y0, y1, y2, y3, yf⟩ := hYb.facts); (try obtain ⟨y0, y1, y2, y3, yf⟩ := hYc.facts); have hE7a := hEc.al (.cells #[.int .i64 F.kind, .bool F.neg, .int .i64 F.exp, .slice A6 (cn F.mag).length c6] 41); have hE7b := hEc.put (g := w7.heap.size) (Nat.le_refl _) (.int .i64 F.kind) (.bool F.neg) (.int .i64 F.exp) (.slice A6 (cn F.mag).length c6); have hE7c := hEc.put (g := wa.heap.size) hEa.size (.int .i64 F.kind) (.bool F.neg) (.int .i64 F.exp) (.slice A6 (cn F.mag).length c6); have hE7d := hEc.put (g := wb.heap.size) hEb.size (.int .i64 F.kind) (.bool F.neg) (.int .i64 F.exp) (.slice A6 (cn F.mag).length c6))
        | fail)
    · have hEU0 := hE7a
      have hU := Br.new wc (.int .i64 F.kind) (.bool F.neg) (.int .i64 F.exp) (.slice A6 (cn F.mag).length c6)
      have hrU := hr6.ext ((Ext.refl wc).al (.cells #[.int .i64 F.kind, .bool F.neg, .int .i64 F.exp, .slice A6 (cn F.mag).length c6] 41))
      generalize (wc.alloc (.cells #[.int .i64 F.kind, .bool F.neg, .int .i64 F.exp, .slice A6 (cn F.mag).length c6] 41)) = U at hEU0 hU hrU ⊢
      have hEU := hE7.tr hEU0
      have hPU := hP7.ext hEU0
      have hr7U := hr7.ext hEU0
      obtain ⟨u0, u1, u2, u3, -⟩ := hU.facts
      clear p0 p1 p2 p3 f0 f1 x0 x1 x2 x3
      obtain ⟨p0, p1, p2, p3, -⟩ := hPU.facts
      go_wp2_with fail
      refine (hft A6 c6 _ hr7U hrU).mono ?_
      rintro z w20 ⟨rfl, hb20⟩
      have hE20 := hEU.tr hb20
      clear p0 p1 p2 p3 u0 u1 u2 u3
      go_wp2_with fail
      refine (awake21_c _ (hT.ext hE20)).mono ?_
      rintro z w21 ⟨rfl, hb21⟩
      go_wp2
      go_ret
      exact ⟨rfl, hE20.tr hb21⟩
    · have hEU0 := hE7d
      have ho6 := ho6.low (b := wb.heap.size + 1) (by simp)
      have hU := hYc.put (.int .i64 F.kind) (.bool F.neg) (.int .i64 F.exp) (.slice A6 (cn F.mag).length c6)
      have hrU := (ho6.putBelow (g := wb.heap.size) (Nat.lt_succ_self _) (.int .i64 F.kind) (.bool F.neg) (.int .i64 F.exp) (.slice A6 (cn F.mag).length c6)).rdAt.2
      generalize ((((wc.setCell ⟨wb.heap.size, 0, none⟩ (.int .i64 F.kind)).setCell ⟨wb.heap.size, 1, none⟩ (.bool F.neg)).setCell ⟨wb.heap.size, 2, none⟩ (.int .i64 F.exp)).setCell ⟨wb.heap.size, 3, none⟩ (.slice A6 (cn F.mag).length c6)) = U at hEU0 hU hrU ⊢
      have hEU := hE7.tr hEU0
      have hPU := hP7.ext hEU0
      have hr7U := hr7.ext hEU0
      obtain ⟨u0, u1, u2, u3, -⟩ := hU.facts
      clear p0 p1 p2 p3 f0 f1 x0 x1 x2 x3
      obtain ⟨p0, p1, p2, p3, -⟩ := hPU.facts
      go_wp2_with fail
      refine (hft A6 c6 _ hr7U hrU).mono ?_
      rintro z w20 ⟨rfl, hb20⟩
      have hE20 := hEU.tr hb20
      clear p0 p1 p2 p3 u0 u1 u2 u3
      go_wp2_with fail
      refine (awake21_c _ (hT.ext hE20)).mono ?_
      rintro z w21 ⟨rfl, hb21⟩
      go_wp2
      go_ret
      exact ⟨rfl, hE20.tr hb21⟩
    · have hEU0 := hE7c
      have hU := hYb.put (.int .i64 F.kind) (.bool F.neg) (.int .i64 F.exp) (.slice A6 (cn F.mag).length c6)
      have hrU := (ho6.putBelow (g := wa.heap.size) hlb (.int .i64 F.kind) (.bool F.neg) (.int .i64 F.exp) (.slice A6 (cn F.mag).length c6)).rdAt.2
      generalize ((((wc.setCell ⟨wa.heap.size, 0, none⟩ (.int .i64 F.kind)).setCell ⟨wa.heap.size, 1, none⟩ (.bool F.neg)).setCell ⟨wa.heap.size, 2, none⟩ (.int .i64 F.exp)).setCell ⟨wa.heap.size, 3, none⟩ (.slice A6 (cn F.mag).length c6)) = U at hEU0 hU hrU ⊢
      have hEU := hE7.tr hEU0
      have hPU := hP7.ext hEU0
      have hr7U := hr7.ext hEU0
      obtain ⟨u0, u1, u2, u3, -⟩ := hU.facts
      clear p0 p1 p2 p3 f0 f1 x0 x1 x2 x3
      obtain ⟨p0, p1, p2, p3, -⟩ := hPU.facts
      go_wp2_with fail
      refine (hft A6 c6 _ hr7U hrU).mono ?_
      rintro z w20 ⟨rfl, hb20⟩
      have hE20 := hEU.tr hb20
      clear p0 p1 p2 p3 u0 u1 u2 u3
      go_wp2_with fail
      refine (awake21_c _ (hT.ext hE20)).mono ?_
      rintro z w21 ⟨rfl, hb21⟩
      go_wp2
      go_ret
      exact ⟨rfl, hE20.tr hb21⟩
    · have hEU0 := hE7b
      have hU := hYa.put (.int .i64 F.kind) (.bool F.neg) (.int .i64 F.exp) (.slice A6 (cn F.mag).length c6)
      have hrU := (ho6.putBelow (g := w7.heap.size) hla (.int .i64 F.kind) (.bool F.neg) (.int .i64 F.exp) (.slice A6 (cn F.mag).length c6)).rdAt.2
      generalize ((((wc.setCell ⟨w7.heap.size, 0, none⟩ (.int .i64 F.kind)).setCell ⟨w7.heap.size, 1, none⟩ (.bool F.neg)).setCell ⟨w7.heap.size, 2, none⟩ (.int .i64 F.exp)).setCell ⟨w7.heap.size, 3, none⟩ (.slice A6 (cn F.mag).length c6)) = U at hEU0 hU hrU ⊢
      have hEU := hE7.tr hEU0
      have hPU := hP7.ext hEU0
      have hr7U := hr7.ext hEU0
      obtain ⟨u0, u1, u2, u3, -⟩ := hU.facts
      clear p0 p1 p2 p3 f0 f1 x0 x1 x2 x3
      obtain ⟨p0, p1, p2, p3, -⟩ := hPU.facts
      go_wp2_with fail
      refine (hft A6 c6 _ hr7U hrU).mono ?_
      rintro z w20 ⟨rfl, hb20⟩
      have hE20 := hEU.tr hb20
      clear p0 p1 p2 p3 u0 u1 u2 u3
      go_wp2_with fail
      refine (awake21_c _ (hT.ext hE20)).mono ?_
      rintro z w21 ⟨rfl, hb21⟩
      go_wp2
      go_ret
      exact ⟨rfl, hE20.tr hb21⟩
set_option maxHeartbeats 16000000 in
set_option maxRecDepth 100000 in
theorem scales_still (k p r n : Int) (a : FA) (w : World) (hT : Tab w) (hM : MoreT w) (ha : Rd w a.A a.c a.xs) (hs : a.xs.length ≤ 40) (C E ec K : Int) (F : Fl) (b g : Int)
    (hsc : ∀ w, Tab w → MoreT w → Rd w a.A a.c a.xs → Calls Tryz.prog 8 #[.agg #[.int .i64 k, .int .i64 p], .int .i64 r, a.v, .int .i64 n] w (ScR w ec K F))
    (hex : ∀ w, Tab w → Rd w a.A a.c a.xs → Calls Tryz.prog 9 #[.agg #[.int .i64 k, .int .i64 p], a.v] w fun e w' => e = .returned (.tuple #[.int .i64 b, .int .i64 g]) ∧ Ext w w')
    (hck : chkS k p [a] = C) (hE0 : kaS k p r [a] = E)
    (hcE : C = 0 ∧ a.k ≠ 1 ∧ g = 4 ∧ b = 0)
    (hcN : (E ≠ 2 ∧ n < -100000 ∧ ec = 1) ∨ (E ≠ 2 ∧ 100000 < n ∧ ec = 1) ∨ (-100000 ≤ n ∧ n ≤ 100000 ∧ ec = E ∧ E ≠ 2))
    (hz : ec ≠ 0 → K = 0 ∧ F = ⟨0, false, 0, 0⟩)
    (hgood : ec = 0 → (canon F.kind F.neg F.exp F.mag = some F ∧ (cn F.mag).length ≤ 4096) ∧ ∀ w, Rd w a.A a.c a.xs → Calls Tryz.prog 15 #[.agg #[.int .i64 k, .int .i64 p], .int .i64 r, a.v, .int .i64 n] w (FErr w K F)) :
    Calls Tryz.prog 3 #[.agg #[.int .i64 k, .int .i64 p], .int .i64 r, a.v, .int .i64 n] w fun e w' => e = .returned (.bool true) ∧ Ext w w' := by
  obtain ⟨hF, hX, hE, hsz⟩ := boxesHs w k p a _ rfl
  have HF := Lib.hid hF
  have HX := Lib.hid hX
  have HE := Lib.hid hE
  have HS := Lib.hid hsz
  clear hF hX hE hsz
  have hall : [a].all (fun a => decide (a.xs.length ≤ 40)) = true := by simpa using hs
  have hsh := fun A c w h => short_c A c [a] w h
  rw [hall] at hsh
  clear hall
  have h96 : ∀ i (hi : i < [a].length), [a][i].xs.length ≤ 4096 := fun i hi => by
    obtain rfl : i = 0 := by simpa using hi
    show a.xs.length ≤ 4096
    omega
  have hka := fun A c w h => kargs_c k p r A c [a] w h h96
  have hck' := fun A c w h => check21_c k p A c [a] w h h96
  rw [hE0] at hka
  rw [hck] at hck'
  have hth := fun w => their_c a.k a.e a.neg a.A a.xs.length a.c w
  have hfm := fun w => fmt_c k p w
  have hc4 : (decide (n < -100000) = true ∧ (-100000 ≤ n) = False ∧ (E == 2) = false ∧ (E = 2) = False ∧ ec = 1 ∧ ec ≠ 0) ∨ (decide (n < -100000) = false ∧ decide (100000 < n) = true ∧ (-100000 ≤ n) = True ∧ (n ≤ 100000) = False ∧ (E == 2) = false ∧ (E = 2) = False ∧ ec = 1 ∧ ec ≠ 0) ∨
      (decide (n < -100000) = false ∧ decide (100000 < n) = false ∧ (-100000 ≤ n) = True ∧ (n ≤ 100000) = True ∧ (ec == 0) = false ∧ (ec = 0) = False ∧ (ec == 2) = false ∧ (ec = 2) = False ∧ ec = E ∧ ec ≠ 0) ∨ (decide (n < -100000) = false ∧ decide (100000 < n) = false ∧ (-100000 ≤ n) = True ∧ (n ≤ 100000) = True ∧ E = 0 ∧ ec = 0) := by
    rcases hcN with ⟨h1, h2, h3⟩ | ⟨h1, h2, h3⟩ | ⟨h1, h2, h3, h5⟩
    · exact .inl ⟨decide_eq_true h2, eq_false (by omega), beq_eq_false_iff_ne.2 h1, eq_false h1, h3, by omega⟩
    · exact .inr (.inl ⟨decide_eq_false (by omega), decide_eq_true h2, eq_true (by omega), eq_false (by omega), beq_eq_false_iff_ne.2 h1, eq_false h1, h3, by omega⟩)
    · by_cases h4 : ec = 0
      · exact .inr (.inr (.inr ⟨decide_eq_false (by omega), decide_eq_false (by omega), eq_true h1, eq_true h2, by omega, h4⟩))
      · exact .inr (.inr (.inl ⟨decide_eq_false (by omega), decide_eq_false (by omega), eq_true h1, eq_true h2, beq_eq_false_iff_ne.2 h4, eq_false h4, beq_eq_false_iff_ne.2 (by omega), eq_false (by omega), h3, h4⟩))
  clear hcN h96 hs hck hE0
  unfold ScR at hsc
  unfold FErr at hgood
  obtain ⟨ak, an, ae, aA, ac, as1⟩ := a
  simp only at HF HX HE HS ha hsc hex hgood hth hcE
  obtain ⟨rfl, hk1, rfl, rfl⟩ := hcE
  have c0 : (ak == 1) = false := beq_eq_false_iff_ne.2 hk1
  have c1 : (ak = 1) = False := eq_false hk1
  clear hk1
  have HC4 := Lib.hid hc4
  have HZ := Lib.hid hz
  have HGD := Lib.hid hgood
  clear hc4 hz hgood
  go_enter Tryz.func3, Tryz.ntmps3
  go_wp2_with fail
  have hF := HF.out
  have hX := HX.out
  have hE := HE.out
  have hsz := HS.out
  clear HF HX HE HS
  generalize ((w.alloc (.cells #[.int .i64 k, .int .i64 p] 23)).alloc (.cells #[.int .i64 ak, .bool an, .int .i64 ae, .slice aA as1.length ac] 29)) = W at *
  have hL := oneRow W ⟨ak, an, ae, aA, ac, as1⟩ _ hsz (ha.ext hE)
  have hA := (Ext.refl W).al (.cells #[.int .i64 ak, .bool an, .int .i64 ae, .slice aA as1.length ac] 29)
  refine (hsh _ _ _ hL).mono ?_
  rintro z w1 ⟨rfl, rfl⟩
  have hE1 := hE.tr hA
  have hF1 := hF.ext hA
  have hX1 := hX.ext hA
  clear hL hsz hF hX hA hE
  generalize W.alloc (.cells #[.int .i64 ak, .bool an, .int .i64 ae, .slice aA as1.length ac] 29) = V at *
  obtain ⟨f0, f1⟩ := hF1.facts
  obtain ⟨x0, x1, x2, x3, -⟩ := hX1.facts
  go_wp2_with fail
  refine (hsc _ (hT.ext hE1) (hM.ext hE1) (ha.ext hE1)).mono ?_
  rintro z w2 ⟨u, rfl, ⟨v, rfl, ho2⟩, hb2⟩
  obtain ⟨A2, c2, rfl, hr2⟩ := ho2.rd
  have hP2 := Bx.new w2 (.int .i64 F.kind) (.bool F.neg) (.int .i64 F.exp) (.slice A2 (cn F.mag).length c2)
  have hA2 := (Ext.refl w2).al (.cells #[.int .i64 F.kind, .bool F.neg, .int .i64 F.exp, .slice A2 (cn F.mag).length c2] 29)
  have hE2 := (hE1.tr hb2).tr hA2
  have hF2 := (hF1.ext hb2).ext hA2
  have hX2 := (hX1.ext hb2).ext hA2
  have hr2' := hr2.ext hA2
  clear f0 f1 x0 x1 x2 x3 hsc hF1 hX1 hE1 hb2 ho2 hr2
  obtain ⟨f0, f1⟩ := hF2.facts
  obtain ⟨x0, x1, x2, x3, -⟩ := hX2.facts
  go_wp2_with fail
  generalize w2.alloc (.cells #[.int .i64 F.kind, .bool F.neg, .int .i64 F.exp, .slice A2 (cn F.mag).length c2] 29) = V2 at *
  refine (hex _ (hT.ext hE2) (ha.ext hE2)).mono ?_
  rintro z w3 ⟨rfl, hb3⟩
  have hE3 := hE2.tr hb3
  have hF3 := hF2.ext hb3
  have hX3 := hX2.ext hb3
  have hP3 := hP2.ext hb3
  have hr3 := hr2'.ext hb3
  clear f0 f1 x0 x1 x2 x3 hex hF2 hX2 hE2 hP2 hr2' hb3 hA2
  obtain ⟨f0, f1⟩ := hF3.facts
  obtain ⟨x0, x1, x2, x3, -⟩ := hX3.facts
  go_wp2_with fail
  have hL := oneRow w3 ⟨ak, an, ae, aA, ac, as1⟩ _ rfl (ha.ext hE3)
  have hA3 := (Ext.refl w3).al (.cells #[.int .i64 ak, .bool an, .int .i64 ae, .slice aA as1.length ac] 29)
  simp only at hL
  refine (hck' _ _ _ hL).mono ?_
  rintro z w4 ⟨rfl, hb4⟩
  have hE4 := (hE3.tr hA3).tr hb4
  have hF4 := (hF3.ext hA3).ext hb4
  have hX4 := (hX3.ext hA3).ext hb4
  have hP4 := (hP3.ext hA3).ext hb4
  have hr4 := (hr3.ext hA3).ext hb4
  clear f0 f1 x0 x1 x2 x3 hck' hL hF3 hX3 hE3 hP3 hr3 hb4 hA3
  obtain ⟨f0, f1⟩ := hF4.facts
  obtain ⟨x0, x1, x2, x3, -⟩ := hX4.facts
  go_wp2_with fail
  have hL := oneRow w4 ⟨ak, an, ae, aA, ac, as1⟩ _ rfl (ha.ext hE4)
  have hA5 := (Ext.refl w4).al (.cells #[.int .i64 ak, .bool an, .int .i64 ae, .slice aA as1.length ac] 29)
  simp only at hL
  refine (hka _ _ _ hL).mono ?_
  rintro z w7 ⟨rfl, hb7⟩
  have hE7 := (hE4.tr hA5).tr hb7
  have hF7 := (hF4.ext hA5).ext hb7
  have hX7 := (hX4.ext hA5).ext hb7
  have hP7 := (hP4.ext hA5).ext hb7
  have hr7 := (hr4.ext hA5).ext hb7
  clear f0 f1 x0 x1 x2 x3 hka hL hF4 hX4 hE4 hP4 hr4 hb7 hA5
  obtain ⟨f0, f1⟩ := hF7.facts
  obtain ⟨x0, x1, x2, x3, -⟩ := hX7.facts
  obtain ⟨p0, p1, p2, p3, -⟩ := hP7.facts
  rcases HC4.out with ⟨d1, d2, d3, d4, rfl, hec⟩ | ⟨d1, d2, d3, d4, d5, d6, rfl, hec⟩ | ⟨d1, d2, d3, d4, d5, d6, d7, d8, rfl, hec⟩ | ⟨d1, d2, d3, d4, rfl, rfl⟩
  · have hft := fun w => fits_bad _ hec K F (HZ.out hec) A2 c2 w
    clear HC4 HZ HGD hec hfm hth
    go_wp2_with fail
    refine (hft _).mono ?_
    rintro z w8 ⟨rfl, hb8⟩
    have hE8 := hE7.tr hb8
    go_wp2_with fail
    refine (awake21_c _ (hT.ext hE8)).mono ?_
    rintro z w9 ⟨rfl, hb9⟩
    go_wp2
    go_ret
    exact ⟨rfl, hE8.tr hb9⟩
  · have hft := fun w => fits_bad _ hec K F (HZ.out hec) A2 c2 w
    clear HC4 HZ HGD hec hfm hth
    go_wp2_with fail
    refine (hft _).mono ?_
    rintro z w8 ⟨rfl, hb8⟩
    have hE8 := hE7.tr hb8
    go_wp2_with fail
    refine (awake21_c _ (hT.ext hE8)).mono ?_
    rintro z w9 ⟨rfl, hb9⟩
    go_wp2
    go_ret
    exact ⟨rfl, hE8.tr hb9⟩
  · have hft := fun w => fits_bad _ hec K F (HZ.out hec) A2 c2 w
    clear HC4 HZ HGD hec hfm hth
    go_wp2_with fail
    refine (hft _).mono ?_
    rintro z w8 ⟨rfl, hb8⟩
    have hE8 := hE7.tr hb8
    go_wp2_with fail
    refine (awake21_c _ (hT.ext hE8)).mono ?_
    rintro z w9 ⟨rfl, hb9⟩
    go_wp2
    go_ret
    exact ⟨rfl, hE8.tr hb9⟩
  · obtain ⟨⟨hcf, hlf⟩, hgs⟩ := HGD.out rfl
    have hft := fun A' c' w h h' => fits_ok K F hcf hlf A2 A' c2 c' w h h'
    clear HC4 HZ HGD hcf hlf
    have hA0 := (Ext.refl w7).al (.cells #[.int .i64 0, .bool false, .int .i64 0, .slice none 0 0] 41)
    have hY0' : Br (w7.drew.alloc (.cells #[.int .i64 0, .bool false, .int .i64 0, .slice none 0 0] 41)) w7.heap.size (.int .i64 0) (.bool false) (.int .i64 0) (.slice none 0 0) := Br.new w7.drew (.int .i64 0) (.bool false) (.int .i64 0) (.slice none 0 0)
    have hY0 := Br.new w7 (.int .i64 0) (.bool false) (.int .i64 0) (.slice none 0 0)
    go_wp2_with fail
    go_region_held3 (fun w' => w'.cell? ⟨w.heap.size, 0, none⟩ = some (.int .i64 k) ∧ w'.cell? ⟨w.heap.size, 1, none⟩ = some (.int .i64 p) ∧ w'.cell? ⟨w.heap.size + 1, 0, none⟩ = some (.int .i64 ak) ∧ w'.cell? ⟨w.heap.size + 1, 1, none⟩ = some (.bool an) ∧ w'.cell? ⟨w.heap.size + 1, 2, none⟩ = some (.int .i64 ae) ∧ w'.cell? ⟨w.heap.size + 1, 3, none⟩ = some (.slice aA as1.length ac))
      (first | (go_split_ands; (repeat' apply And.intro) <;> first | (with_reducible assumption) | (refine Ext.cell (w := w7) ?_ ?_ <;> (with_reducible assumption))) | go_keep)
      (first
        | (go_at_call 16; (with_reducible refine (hfm _).mono ?_); rintro e wa ⟨rfl, hba⟩; (have hEa : Ext w7 wa := (by first | with_reducible exact (Ext.refl w7).drew.tr hba | with_reducible exact hA0.drew.tr hba | with_reducible exact ((Ext.refl w7).drew.al _).tr hba)); (try have hYa : Br wa w7.heap.size (.int .i64 0) (.bool false) (.int .i64 0) (.slice none 0 0) := (by first | with_reducible exact hY0.drewS.ext hba | with_reducible exact hY0'.ext hba)))
        | (go_at_call 12; (with_reducible refine (hth _).mono ?_); rintro e wb ⟨rfl, hbb⟩; (have hbb' : Ext wa wb := (by first | with_reducible exact hbb | with_reducible exact ((Ext.refl wa).al _).tr hbb)); have hEb : Ext w7 wb := hEa.tr hbb'; (try (with_reducible replace hYa := hYa.ext hbb')); (try have hYb : Br wb wa.heap.size (.int .i64 0) (.bool false) (.int .i64 0) (.slice none 0 0) := (by with_reducible exact (Br.new wa (.int .i64 0) (.bool false) (.int .i64 0) (.slice none 0 0)).ext hbb)))
        | (go_at_call 15; (with_reducible refine (hgs _ ?hr).mono ?_); (case hr => first | with_reducible exact ha.ext (hE7.tr hEb) | with_reducible exact ha.ext ((hE7.tr hEb).al _)); rintro e wc ⟨u, rfl, ⟨v, rfl, ho6⟩, hbc⟩; obtain ⟨A6, c6, rfl, hr6⟩ := ho6.rd; (have hbc' : Ext wb wc := (by first | with_reducible exact hbc | with_reducible exact ((Ext.refl wb).al _).tr hbc)); have hEc : Ext w7 wc := hEb.tr hbc'; (try have hla := hYa.lt); (try have hlb := hYb.lt); (try (with_reducible replace hYa := hYa.ext hbc')); (try (with_reducible replace hYb := hYb.ext hbc')); (try have hYc : Br wc wb.heap.size (.int .i64 0) (.bool false) (.int .i64 0) (.slice none 0 0) := (by with_reducible exact (Br.new wb (.int .i64 0) (.bool false) (.int .i64 0) (.slice none 0 0)).ext hbc)); (try obtain ⟨y0, y1, y2, y3, yf⟩ := hYa.facts); (try obtain ⟨y0, y1, y2, y3, yf⟩ := hYb.facts); (try obtain ⟨y0, y1, y2, y3, yf⟩ := hYc.facts); have hE7a := hEc.al (.cells #[.int .i64 F.kind, .bool F.neg, .int .i64 F.exp, .slice A6 (cn F.mag).length c6] 41); have hE7b := hEc.put (g := w7.heap.size) (Nat.le_refl _) (.int .i64 F.kind) (.bool F.neg) (.int .i64 F.exp) (.slice A6 (cn F.mag).length c6); have hE7c := hEc.put (g := wa.heap.size) hEa.size (.int .i64 F.kind) (.bool F.neg) (.int .i64 F.exp) (.slice A6 (cn F.mag).length c6); have hE7d := hEc.put (g := wb.heap.size) hEb.size (.int .i64 F.kind) (.bool F.neg) (.int .i64 F.exp) (.slice A6 (cn F.mag).length c6))
        | fail)
    · have hEU0 := hE7a
      have hU := Br.new wc (.int .i64 F.kind) (.bool F.neg) (.int .i64 F.exp) (.slice A6 (cn F.mag).length c6)
      have hrU := hr6.ext ((Ext.refl wc).al (.cells #[.int .i64 F.kind, .bool F.neg, .int .i64 F.exp, .slice A6 (cn F.mag).length c6] 41))
      generalize (wc.alloc (.cells #[.int .i64 F.kind, .bool F.neg, .int .i64 F.exp, .slice A6 (cn F.mag).length c6] 41)) = U at hEU0 hU hrU ⊢
      have hEU := hE7.tr hEU0
      have hPU := hP7.ext hEU0
      have hr7U := hr7.ext hEU0
      obtain ⟨u0, u1, u2, u3, -⟩ := hU.facts
      clear p0 p1 p2 p3 f0 f1 x0 x1 x2 x3
      obtain ⟨p0, p1, p2, p3, -⟩ := hPU.facts
      go_wp2_with fail
      refine (hft A6 c6 _ hr7U hrU).mono ?_
      rintro z w20 ⟨rfl, hb20⟩
      have hE20 := hEU.tr hb20
      clear p0 p1 p2 p3 u0 u1 u2 u3
      go_wp2_with fail
      refine (awake21_c _ (hT.ext hE20)).mono ?_
      rintro z w21 ⟨rfl, hb21⟩
      go_wp2
      go_ret
      exact ⟨rfl, hE20.tr hb21⟩
    · have hEU0 := hE7d
      have ho6 := ho6.low (b := wb.heap.size + 1) (by simp)
      have hU := hYc.put (.int .i64 F.kind) (.bool F.neg) (.int .i64 F.exp) (.slice A6 (cn F.mag).length c6)
      have hrU := (ho6.putBelow (g := wb.heap.size) (Nat.lt_succ_self _) (.int .i64 F.kind) (.bool F.neg) (.int .i64 F.exp) (.slice A6 (cn F.mag).length c6)).rdAt.2
      generalize ((((wc.setCell ⟨wb.heap.size, 0, none⟩ (.int .i64 F.kind)).setCell ⟨wb.heap.size, 1, none⟩ (.bool F.neg)).setCell ⟨wb.heap.size, 2, none⟩ (.int .i64 F.exp)).setCell ⟨wb.heap.size, 3, none⟩ (.slice A6 (cn F.mag).length c6)) = U at hEU0 hU hrU ⊢
      have hEU := hE7.tr hEU0
      have hPU := hP7.ext hEU0
      have hr7U := hr7.ext hEU0
      obtain ⟨u0, u1, u2, u3, -⟩ := hU.facts
      clear p0 p1 p2 p3 f0 f1 x0 x1 x2 x3
      obtain ⟨p0, p1, p2, p3, -⟩ := hPU.facts
      go_wp2_with fail
      refine (hft A6 c6 _ hr7U hrU).mono ?_
      rintro z w20 ⟨rfl, hb20⟩
      have hE20 := hEU.tr hb20
      clear p0 p1 p2 p3 u0 u1 u2 u3
      go_wp2_with fail
      refine (awake21_c _ (hT.ext hE20)).mono ?_
      rintro z w21 ⟨rfl, hb21⟩
      go_wp2
      go_ret
      exact ⟨rfl, hE20.tr hb21⟩
    · have hEU0 := hE7c
      have hU := hYb.put (.int .i64 F.kind) (.bool F.neg) (.int .i64 F.exp) (.slice A6 (cn F.mag).length c6)
      have hrU := (ho6.putBelow (g := wa.heap.size) hlb (.int .i64 F.kind) (.bool F.neg) (.int .i64 F.exp) (.slice A6 (cn F.mag).length c6)).rdAt.2
      generalize ((((wc.setCell ⟨wa.heap.size, 0, none⟩ (.int .i64 F.kind)).setCell ⟨wa.heap.size, 1, none⟩ (.bool F.neg)).setCell ⟨wa.heap.size, 2, none⟩ (.int .i64 F.exp)).setCell ⟨wa.heap.size, 3, none⟩ (.slice A6 (cn F.mag).length c6)) = U at hEU0 hU hrU ⊢
      have hEU := hE7.tr hEU0
      have hPU := hP7.ext hEU0
      have hr7U := hr7.ext hEU0
      obtain ⟨u0, u1, u2, u3, -⟩ := hU.facts
      clear p0 p1 p2 p3 f0 f1 x0 x1 x2 x3
      obtain ⟨p0, p1, p2, p3, -⟩ := hPU.facts
      go_wp2_with fail
      refine (hft A6 c6 _ hr7U hrU).mono ?_
      rintro z w20 ⟨rfl, hb20⟩
      have hE20 := hEU.tr hb20
      clear p0 p1 p2 p3 u0 u1 u2 u3
      go_wp2_with fail
      refine (awake21_c _ (hT.ext hE20)).mono ?_
      rintro z w21 ⟨rfl, hb21⟩
      go_wp2
      go_ret
      exact ⟨rfl, hE20.tr hb21⟩
    · have hEU0 := hE7b
      have hU := hYa.put (.int .i64 F.kind) (.bool F.neg) (.int .i64 F.exp) (.slice A6 (cn F.mag).length c6)
      have hrU := (ho6.putBelow (g := w7.heap.size) hla (.int .i64 F.kind) (.bool F.neg) (.int .i64 F.exp) (.slice A6 (cn F.mag).length c6)).rdAt.2
      generalize ((((wc.setCell ⟨w7.heap.size, 0, none⟩ (.int .i64 F.kind)).setCell ⟨w7.heap.size, 1, none⟩ (.bool F.neg)).setCell ⟨w7.heap.size, 2, none⟩ (.int .i64 F.exp)).setCell ⟨w7.heap.size, 3, none⟩ (.slice A6 (cn F.mag).length c6)) = U at hEU0 hU hrU ⊢
      have hEU := hE7.tr hEU0
      have hPU := hP7.ext hEU0
      have hr7U := hr7.ext hEU0
      obtain ⟨u0, u1, u2, u3, -⟩ := hU.facts
      clear p0 p1 p2 p3 f0 f1 x0 x1 x2 x3
      obtain ⟨p0, p1, p2, p3, -⟩ := hPU.facts
      go_wp2_with fail
      refine (hft A6 c6 _ hr7U hrU).mono ?_
      rintro z w20 ⟨rfl, hb20⟩
      have hE20 := hEU.tr hb20
      clear p0 p1 p2 p3 u0 u1 u2 u3
      go_wp2_with fail
      refine (awake21_c _ (hT.ext hE20)).mono ?_
      rintro z w21 ⟨rfl, hb21⟩
      go_wp2
      go_ret
      exact ⟨rfl, hE20.tr hb21⟩
set_option maxHeartbeats 16000000 in
set_option maxRecDepth 100000 in
theorem scales_num (k p r n : Int) (a : FA) (w : World) (hT : Tab w) (hM : MoreT w) (ha : Rd w a.A a.c a.xs) (hs : a.xs.length ≤ 40) (C E ec K : Int) (F : Fl) (b g : Int)
    (hsc : ∀ w, Tab w → MoreT w → Rd w a.A a.c a.xs → Calls Tryz.prog 8 #[.agg #[.int .i64 k, .int .i64 p], .int .i64 r, a.v, .int .i64 n] w (ScR w ec K F))
    (hex : ∀ w, Tab w → Rd w a.A a.c a.xs → Calls Tryz.prog 9 #[.agg #[.int .i64 k, .int .i64 p], a.v] w fun e w' => e = .returned (.tuple #[.int .i64 b, .int .i64 g]) ∧ Ext w w')
    (hck : chkS k p [a] = C) (hE0 : kaS k p r [a] = E)
    (hcE : C = 0 ∧ a.k = 1 ∧ g = 0 ∧ b = (bl (val a.xs) : Int) - 1 + a.e ∧ -1048576 ≤ a.e ∧ a.e ≤ 1048576)
    (hcN : (E ≠ 2 ∧ n < -100000 ∧ ec = 1) ∨ (E ≠ 2 ∧ 100000 < n ∧ ec = 1) ∨ (-100000 ≤ n ∧ n ≤ 100000 ∧ ec = E ∧ E ≠ 2))
    (hz : ec ≠ 0 → K = 0 ∧ F = ⟨0, false, 0, 0⟩)
    (hgood : ec = 0 → (canon F.kind F.neg F.exp F.mag = some F ∧ (cn F.mag).length ≤ 4096) ∧ ∀ w, Rd w a.A a.c a.xs → Calls Tryz.prog 15 #[.agg #[.int .i64 k, .int .i64 p], .int .i64 r, a.v, .int .i64 n] w (FErr w K F)) :
    Calls Tryz.prog 3 #[.agg #[.int .i64 k, .int .i64 p], .int .i64 r, a.v, .int .i64 n] w fun e w' => e = .returned (.bool true) ∧ Ext w w' := by
  obtain ⟨hF, hX, hE, hsz⟩ := boxesHs w k p a _ rfl
  have HF := Lib.hid hF
  have HX := Lib.hid hX
  have HE := Lib.hid hE
  have HS := Lib.hid hsz
  clear hF hX hE hsz
  have hall : [a].all (fun a => decide (a.xs.length ≤ 40)) = true := by simpa using hs
  have hsh := fun A c w h => short_c A c [a] w h
  rw [hall] at hsh
  clear hall
  have h96 : ∀ i (hi : i < [a].length), [a][i].xs.length ≤ 4096 := fun i hi => by
    obtain rfl : i = 0 := by simpa using hi
    show a.xs.length ≤ 4096
    omega
  have hka := fun A c w h => kargs_c k p r A c [a] w h h96
  have hck' := fun A c w h => check21_c k p A c [a] w h h96
  rw [hE0] at hka
  rw [hck] at hck'
  have hth := fun w => their_c a.k a.e a.neg a.A a.xs.length a.c w
  have hfm := fun w => fmt_c k p w
  have hxe := fun w h => rexp_c a.k a.e a.neg a.A a.c a.xs w h (by omega) hcE.2.2.2.2.1 hcE.2.2.2.2.2
  rw [← hcE.2.2.2.1] at hxe
  have hc4 : (decide (n < -100000) = true ∧ (-100000 ≤ n) = False ∧ (E == 2) = false ∧ (E = 2) = False ∧ ec = 1 ∧ ec ≠ 0) ∨ (decide (n < -100000) = false ∧ decide (100000 < n) = true ∧ (-100000 ≤ n) = True ∧ (n ≤ 100000) = False ∧ (E == 2) = false ∧ (E = 2) = False ∧ ec = 1 ∧ ec ≠ 0) ∨
      (decide (n < -100000) = false ∧ decide (100000 < n) = false ∧ (-100000 ≤ n) = True ∧ (n ≤ 100000) = True ∧ (ec == 0) = false ∧ (ec = 0) = False ∧ (ec == 2) = false ∧ (ec = 2) = False ∧ ec = E ∧ ec ≠ 0) ∨ (decide (n < -100000) = false ∧ decide (100000 < n) = false ∧ (-100000 ≤ n) = True ∧ (n ≤ 100000) = True ∧ E = 0 ∧ ec = 0) := by
    rcases hcN with ⟨h1, h2, h3⟩ | ⟨h1, h2, h3⟩ | ⟨h1, h2, h3, h5⟩
    · exact .inl ⟨decide_eq_true h2, eq_false (by omega), beq_eq_false_iff_ne.2 h1, eq_false h1, h3, by omega⟩
    · exact .inr (.inl ⟨decide_eq_false (by omega), decide_eq_true h2, eq_true (by omega), eq_false (by omega), beq_eq_false_iff_ne.2 h1, eq_false h1, h3, by omega⟩)
    · by_cases h4 : ec = 0
      · exact .inr (.inr (.inr ⟨decide_eq_false (by omega), decide_eq_false (by omega), eq_true h1, eq_true h2, by omega, h4⟩))
      · exact .inr (.inr (.inl ⟨decide_eq_false (by omega), decide_eq_false (by omega), eq_true h1, eq_true h2, beq_eq_false_iff_ne.2 h4, eq_false h4, beq_eq_false_iff_ne.2 (by omega), eq_false (by omega), h3, h4⟩))
  clear hcN h96 hs hck hE0
  unfold ScR at hsc
  unfold FErr at hgood
  obtain ⟨ak, an, ae, aA, ac, as1⟩ := a
  simp only at HF HX HE HS ha hsc hex hgood hth hcE hxe
  obtain ⟨rfl, rfl, rfl, -, -, -⟩ := hcE
  have HC4 := Lib.hid hc4
  have HZ := Lib.hid hz
  have HGD := Lib.hid hgood
  clear hc4 hz hgood
  go_enter Tryz.func3, Tryz.ntmps3
  go_wp2_with fail
  have hF := HF.out
  have hX := HX.out
  have hE := HE.out
  have hsz := HS.out
  clear HF HX HE HS
  generalize ((w.alloc (.cells #[.int .i64 k, .int .i64 p] 23)).alloc (.cells #[.int .i64 1, .bool an, .int .i64 ae, .slice aA as1.length ac] 29)) = W at *
  have hL := oneRow W ⟨1, an, ae, aA, ac, as1⟩ _ hsz (ha.ext hE)
  have hA := (Ext.refl W).al (.cells #[.int .i64 1, .bool an, .int .i64 ae, .slice aA as1.length ac] 29)
  refine (hsh _ _ _ hL).mono ?_
  rintro z w1 ⟨rfl, rfl⟩
  have hE1 := hE.tr hA
  have hF1 := hF.ext hA
  have hX1 := hX.ext hA
  clear hL hsz hF hX hA hE
  generalize W.alloc (.cells #[.int .i64 1, .bool an, .int .i64 ae, .slice aA as1.length ac] 29) = V at *
  obtain ⟨f0, f1⟩ := hF1.facts
  obtain ⟨x0, x1, x2, x3, -⟩ := hX1.facts
  go_wp2_with fail
  refine (hsc _ (hT.ext hE1) (hM.ext hE1) (ha.ext hE1)).mono ?_
  rintro z w2 ⟨u, rfl, ⟨v, rfl, ho2⟩, hb2⟩
  obtain ⟨A2, c2, rfl, hr2⟩ := ho2.rd
  have hP2 := Bx.new w2 (.int .i64 F.kind) (.bool F.neg) (.int .i64 F.exp) (.slice A2 (cn F.mag).length c2)
  have hA2 := (Ext.refl w2).al (.cells #[.int .i64 F.kind, .bool F.neg, .int .i64 F.exp, .slice A2 (cn F.mag).length c2] 29)
  have hE2 := (hE1.tr hb2).tr hA2
  have hF2 := (hF1.ext hb2).ext hA2
  have hX2 := (hX1.ext hb2).ext hA2
  have hr2' := hr2.ext hA2
  clear f0 f1 x0 x1 x2 x3 hsc hF1 hX1 hE1 hb2 ho2 hr2
  obtain ⟨f0, f1⟩ := hF2.facts
  obtain ⟨x0, x1, x2, x3, -⟩ := hX2.facts
  go_wp2_with fail
  generalize w2.alloc (.cells #[.int .i64 F.kind, .bool F.neg, .int .i64 F.exp, .slice A2 (cn F.mag).length c2] 29) = V2 at *
  refine (hex _ (hT.ext hE2) (ha.ext hE2)).mono ?_
  rintro z w3 ⟨rfl, hb3⟩
  have hE3 := hE2.tr hb3
  have hF3 := hF2.ext hb3
  have hX3 := hX2.ext hb3
  have hP3 := hP2.ext hb3
  have hr3 := hr2'.ext hb3
  clear f0 f1 x0 x1 x2 x3 hex hF2 hX2 hE2 hP2 hr2' hb3 hA2
  obtain ⟨f0, f1⟩ := hF3.facts
  obtain ⟨x0, x1, x2, x3, -⟩ := hX3.facts
  go_wp2_with fail
  have hL := oneRow w3 ⟨1, an, ae, aA, ac, as1⟩ _ rfl (ha.ext hE3)
  have hA3 := (Ext.refl w3).al (.cells #[.int .i64 1, .bool an, .int .i64 ae, .slice aA as1.length ac] 29)
  simp only at hL
  refine (hck' _ _ _ hL).mono ?_
  rintro z w4 ⟨rfl, hb4⟩
  have hE4 := (hE3.tr hA3).tr hb4
  have hF4 := (hF3.ext hA3).ext hb4
  have hX4 := (hX3.ext hA3).ext hb4
  have hP4 := (hP3.ext hA3).ext hb4
  have hr4 := (hr3.ext hA3).ext hb4
  clear f0 f1 x0 x1 x2 x3 hck' hL hF3 hX3 hE3 hP3 hr3 hb4 hA3
  obtain ⟨f0, f1⟩ := hF4.facts
  obtain ⟨x0, x1, x2, x3, -⟩ := hX4.facts
  go_wp2_with fail
  refine (hth _).mono ?_
  rintro z w5 ⟨rfl, hb5⟩
  have hE5 := hE4.tr hb5
  go_wp2_with fail
  refine (hxe _ (ha.ext hE5)).mono ?_
  rintro z w6 ⟨rfl, hb6⟩
  have hbb := hb5.tr hb6
  replace hE4 := hE4.tr hbb
  replace hF4 := hF4.ext hbb
  replace hX4 := hX4.ext hbb
  replace hP4 := hP4.ext hbb
  replace hr4 := hr4.ext hbb
  clear f0 f1 x0 x1 x2 x3 hxe hE5 hb5 hb6 hbb
  generalize w6 = w4' at *
  obtain ⟨f0, f1⟩ := hF4.facts
  obtain ⟨x0, x1, x2, x3, -⟩ := hX4.facts
  go_wp2_with fail
  have hL := oneRow w4' ⟨1, an, ae, aA, ac, as1⟩ _ rfl (ha.ext hE4)
  have hA5 := (Ext.refl w4').al (.cells #[.int .i64 1, .bool an, .int .i64 ae, .slice aA as1.length ac] 29)
  simp only at hL
  refine (hka _ _ _ hL).mono ?_
  rintro z w7 ⟨rfl, hb7⟩
  have hE7 := (hE4.tr hA5).tr hb7
  have hF7 := (hF4.ext hA5).ext hb7
  have hX7 := (hX4.ext hA5).ext hb7
  have hP7 := (hP4.ext hA5).ext hb7
  have hr7 := (hr4.ext hA5).ext hb7
  clear f0 f1 x0 x1 x2 x3 hka hL hF4 hX4 hE4 hP4 hr4 hb7 hA5
  obtain ⟨f0, f1⟩ := hF7.facts
  obtain ⟨x0, x1, x2, x3, -⟩ := hX7.facts
  obtain ⟨p0, p1, p2, p3, -⟩ := hP7.facts
  rcases HC4.out with ⟨d1, d2, d3, d4, rfl, hec⟩ | ⟨d1, d2, d3, d4, d5, d6, rfl, hec⟩ | ⟨d1, d2, d3, d4, d5, d6, d7, d8, rfl, hec⟩ | ⟨d1, d2, d3, d4, rfl, rfl⟩
  · have hft := fun w => fits_bad _ hec K F (HZ.out hec) A2 c2 w
    clear HC4 HZ HGD hec hfm hth
    go_wp2_with fail
    refine (hft _).mono ?_
    rintro z w8 ⟨rfl, hb8⟩
    have hE8 := hE7.tr hb8
    go_wp2_with fail
    refine (awake21_c _ (hT.ext hE8)).mono ?_
    rintro z w9 ⟨rfl, hb9⟩
    go_wp2
    go_ret
    exact ⟨rfl, hE8.tr hb9⟩
  · have hft := fun w => fits_bad _ hec K F (HZ.out hec) A2 c2 w
    clear HC4 HZ HGD hec hfm hth
    go_wp2_with fail
    refine (hft _).mono ?_
    rintro z w8 ⟨rfl, hb8⟩
    have hE8 := hE7.tr hb8
    go_wp2_with fail
    refine (awake21_c _ (hT.ext hE8)).mono ?_
    rintro z w9 ⟨rfl, hb9⟩
    go_wp2
    go_ret
    exact ⟨rfl, hE8.tr hb9⟩
  · have hft := fun w => fits_bad _ hec K F (HZ.out hec) A2 c2 w
    clear HC4 HZ HGD hec hfm hth
    go_wp2_with fail
    refine (hft _).mono ?_
    rintro z w8 ⟨rfl, hb8⟩
    have hE8 := hE7.tr hb8
    go_wp2_with fail
    refine (awake21_c _ (hT.ext hE8)).mono ?_
    rintro z w9 ⟨rfl, hb9⟩
    go_wp2
    go_ret
    exact ⟨rfl, hE8.tr hb9⟩
  · obtain ⟨⟨hcf, hlf⟩, hgs⟩ := HGD.out rfl
    have hft := fun A' c' w h h' => fits_ok K F hcf hlf A2 A' c2 c' w h h'
    clear HC4 HZ HGD hcf hlf
    have hA0 := (Ext.refl w7).al (.cells #[.int .i64 0, .bool false, .int .i64 0, .slice none 0 0] 41)
    have hY0' : Br (w7.drew.alloc (.cells #[.int .i64 0, .bool false, .int .i64 0, .slice none 0 0] 41)) w7.heap.size (.int .i64 0) (.bool false) (.int .i64 0) (.slice none 0 0) := Br.new w7.drew (.int .i64 0) (.bool false) (.int .i64 0) (.slice none 0 0)
    have hY0 := Br.new w7 (.int .i64 0) (.bool false) (.int .i64 0) (.slice none 0 0)
    go_wp2_with fail
    go_region_held3 (fun w' => w'.cell? ⟨w.heap.size, 0, none⟩ = some (.int .i64 k) ∧ w'.cell? ⟨w.heap.size, 1, none⟩ = some (.int .i64 p) ∧ w'.cell? ⟨w.heap.size + 1, 0, none⟩ = some (.int .i64 1) ∧ w'.cell? ⟨w.heap.size + 1, 1, none⟩ = some (.bool an) ∧ w'.cell? ⟨w.heap.size + 1, 2, none⟩ = some (.int .i64 ae) ∧ w'.cell? ⟨w.heap.size + 1, 3, none⟩ = some (.slice aA as1.length ac))
      (first | (go_split_ands; (repeat' apply And.intro) <;> first | (with_reducible assumption) | (refine Ext.cell (w := w7) ?_ ?_ <;> (with_reducible assumption))) | go_keep)
      (first
        | (go_at_call 16; (with_reducible refine (hfm _).mono ?_); rintro e wa ⟨rfl, hba⟩; (have hEa : Ext w7 wa := (by first | with_reducible exact (Ext.refl w7).drew.tr hba | with_reducible exact hA0.drew.tr hba | with_reducible exact ((Ext.refl w7).drew.al _).tr hba)); (try have hYa : Br wa w7.heap.size (.int .i64 0) (.bool false) (.int .i64 0) (.slice none 0 0) := (by first | with_reducible exact hY0.drewS.ext hba | with_reducible exact hY0'.ext hba)))
        | (go_at_call 12; (with_reducible refine (hth _).mono ?_); rintro e wb ⟨rfl, hbb⟩; (have hbb' : Ext wa wb := (by first | with_reducible exact hbb | with_reducible exact ((Ext.refl wa).al _).tr hbb)); have hEb : Ext w7 wb := hEa.tr hbb'; (try (with_reducible replace hYa := hYa.ext hbb')); (try have hYb : Br wb wa.heap.size (.int .i64 0) (.bool false) (.int .i64 0) (.slice none 0 0) := (by with_reducible exact (Br.new wa (.int .i64 0) (.bool false) (.int .i64 0) (.slice none 0 0)).ext hbb)))
        | (go_at_call 15; (with_reducible refine (hgs _ ?hr).mono ?_); (case hr => first | with_reducible exact ha.ext (hE7.tr hEb) | with_reducible exact ha.ext ((hE7.tr hEb).al _)); rintro e wc ⟨u, rfl, ⟨v, rfl, ho6⟩, hbc⟩; obtain ⟨A6, c6, rfl, hr6⟩ := ho6.rd; (have hbc' : Ext wb wc := (by first | with_reducible exact hbc | with_reducible exact ((Ext.refl wb).al _).tr hbc)); have hEc : Ext w7 wc := hEb.tr hbc'; (try have hla := hYa.lt); (try have hlb := hYb.lt); (try (with_reducible replace hYa := hYa.ext hbc')); (try (with_reducible replace hYb := hYb.ext hbc')); (try have hYc : Br wc wb.heap.size (.int .i64 0) (.bool false) (.int .i64 0) (.slice none 0 0) := (by with_reducible exact (Br.new wb (.int .i64 0) (.bool false) (.int .i64 0) (.slice none 0 0)).ext hbc)); (try obtain ⟨y0, y1, y2, y3, yf⟩ := hYa.facts); (try obtain ⟨y0, y1, y2, y3, yf⟩ := hYb.facts); (try obtain ⟨y0, y1, y2, y3, yf⟩ := hYc.facts); have hE7a := hEc.al (.cells #[.int .i64 F.kind, .bool F.neg, .int .i64 F.exp, .slice A6 (cn F.mag).length c6] 41); have hE7b := hEc.put (g := w7.heap.size) (Nat.le_refl _) (.int .i64 F.kind) (.bool F.neg) (.int .i64 F.exp) (.slice A6 (cn F.mag).length c6); have hE7c := hEc.put (g := wa.heap.size) hEa.size (.int .i64 F.kind) (.bool F.neg) (.int .i64 F.exp) (.slice A6 (cn F.mag).length c6); have hE7d := hEc.put (g := wb.heap.size) hEb.size (.int .i64 F.kind) (.bool F.neg) (.int .i64 F.exp) (.slice A6 (cn F.mag).length c6))
        | fail)
    · have hEU0 := hE7a
      have hU := Br.new wc (.int .i64 F.kind) (.bool F.neg) (.int .i64 F.exp) (.slice A6 (cn F.mag).length c6)
      have hrU := hr6.ext ((Ext.refl wc).al (.cells #[.int .i64 F.kind, .bool F.neg, .int .i64 F.exp, .slice A6 (cn F.mag).length c6] 41))
      generalize (wc.alloc (.cells #[.int .i64 F.kind, .bool F.neg, .int .i64 F.exp, .slice A6 (cn F.mag).length c6] 41)) = U at hEU0 hU hrU ⊢
      have hEU := hE7.tr hEU0
      have hPU := hP7.ext hEU0
      have hr7U := hr7.ext hEU0
      obtain ⟨u0, u1, u2, u3, -⟩ := hU.facts
      clear p0 p1 p2 p3 f0 f1 x0 x1 x2 x3
      obtain ⟨p0, p1, p2, p3, -⟩ := hPU.facts
      go_wp2_with fail
      refine (hft A6 c6 _ hr7U hrU).mono ?_
      rintro z w20 ⟨rfl, hb20⟩
      have hE20 := hEU.tr hb20
      clear p0 p1 p2 p3 u0 u1 u2 u3
      go_wp2_with fail
      refine (awake21_c _ (hT.ext hE20)).mono ?_
      rintro z w21 ⟨rfl, hb21⟩
      go_wp2
      go_ret
      exact ⟨rfl, hE20.tr hb21⟩
    · have hEU0 := hE7d
      have ho6 := ho6.low (b := wb.heap.size + 1) (by simp)
      have hU := hYc.put (.int .i64 F.kind) (.bool F.neg) (.int .i64 F.exp) (.slice A6 (cn F.mag).length c6)
      have hrU := (ho6.putBelow (g := wb.heap.size) (Nat.lt_succ_self _) (.int .i64 F.kind) (.bool F.neg) (.int .i64 F.exp) (.slice A6 (cn F.mag).length c6)).rdAt.2
      generalize ((((wc.setCell ⟨wb.heap.size, 0, none⟩ (.int .i64 F.kind)).setCell ⟨wb.heap.size, 1, none⟩ (.bool F.neg)).setCell ⟨wb.heap.size, 2, none⟩ (.int .i64 F.exp)).setCell ⟨wb.heap.size, 3, none⟩ (.slice A6 (cn F.mag).length c6)) = U at hEU0 hU hrU ⊢
      have hEU := hE7.tr hEU0
      have hPU := hP7.ext hEU0
      have hr7U := hr7.ext hEU0
      obtain ⟨u0, u1, u2, u3, -⟩ := hU.facts
      clear p0 p1 p2 p3 f0 f1 x0 x1 x2 x3
      obtain ⟨p0, p1, p2, p3, -⟩ := hPU.facts
      go_wp2_with fail
      refine (hft A6 c6 _ hr7U hrU).mono ?_
      rintro z w20 ⟨rfl, hb20⟩
      have hE20 := hEU.tr hb20
      clear p0 p1 p2 p3 u0 u1 u2 u3
      go_wp2_with fail
      refine (awake21_c _ (hT.ext hE20)).mono ?_
      rintro z w21 ⟨rfl, hb21⟩
      go_wp2
      go_ret
      exact ⟨rfl, hE20.tr hb21⟩
    · have hEU0 := hE7c
      have hU := hYb.put (.int .i64 F.kind) (.bool F.neg) (.int .i64 F.exp) (.slice A6 (cn F.mag).length c6)
      have hrU := (ho6.putBelow (g := wa.heap.size) hlb (.int .i64 F.kind) (.bool F.neg) (.int .i64 F.exp) (.slice A6 (cn F.mag).length c6)).rdAt.2
      generalize ((((wc.setCell ⟨wa.heap.size, 0, none⟩ (.int .i64 F.kind)).setCell ⟨wa.heap.size, 1, none⟩ (.bool F.neg)).setCell ⟨wa.heap.size, 2, none⟩ (.int .i64 F.exp)).setCell ⟨wa.heap.size, 3, none⟩ (.slice A6 (cn F.mag).length c6)) = U at hEU0 hU hrU ⊢
      have hEU := hE7.tr hEU0
      have hPU := hP7.ext hEU0
      have hr7U := hr7.ext hEU0
      obtain ⟨u0, u1, u2, u3, -⟩ := hU.facts
      clear p0 p1 p2 p3 f0 f1 x0 x1 x2 x3
      obtain ⟨p0, p1, p2, p3, -⟩ := hPU.facts
      go_wp2_with fail
      refine (hft A6 c6 _ hr7U hrU).mono ?_
      rintro z w20 ⟨rfl, hb20⟩
      have hE20 := hEU.tr hb20
      clear p0 p1 p2 p3 u0 u1 u2 u3
      go_wp2_with fail
      refine (awake21_c _ (hT.ext hE20)).mono ?_
      rintro z w21 ⟨rfl, hb21⟩
      go_wp2
      go_ret
      exact ⟨rfl, hE20.tr hb21⟩
    · have hEU0 := hE7b
      have hU := hYa.put (.int .i64 F.kind) (.bool F.neg) (.int .i64 F.exp) (.slice A6 (cn F.mag).length c6)
      have hrU := (ho6.putBelow (g := w7.heap.size) hla (.int .i64 F.kind) (.bool F.neg) (.int .i64 F.exp) (.slice A6 (cn F.mag).length c6)).rdAt.2
      generalize ((((wc.setCell ⟨w7.heap.size, 0, none⟩ (.int .i64 F.kind)).setCell ⟨w7.heap.size, 1, none⟩ (.bool F.neg)).setCell ⟨w7.heap.size, 2, none⟩ (.int .i64 F.exp)).setCell ⟨w7.heap.size, 3, none⟩ (.slice A6 (cn F.mag).length c6)) = U at hEU0 hU hrU ⊢
      have hEU := hE7.tr hEU0
      have hPU := hP7.ext hEU0
      have hr7U := hr7.ext hEU0
      obtain ⟨u0, u1, u2, u3, -⟩ := hU.facts
      clear p0 p1 p2 p3 f0 f1 x0 x1 x2 x3
      obtain ⟨p0, p1, p2, p3, -⟩ := hPU.facts
      go_wp2_with fail
      refine (hft A6 c6 _ hr7U hrU).mono ?_
      rintro z w20 ⟨rfl, hb20⟩
      have hE20 := hEU.tr hb20
      clear p0 p1 p2 p3 u0 u1 u2 u3
      go_wp2_with fail
      refine (awake21_c _ (hT.ext hE20)).mono ?_
      rintro z w21 ⟨rfl, hb21⟩
      go_wp2
      go_ret
      exact ⟨rfl, hE20.tr hb21⟩
end Go.Proofs.YtehlmacgjlgjaaaGreatDoor
namespace Go.Proofs.YtehlmacgjlgjaaaGreatDoor
open Go.RowKit
attribute [local go_sem ↓] Go.wp_at_zero Go.wp_at_succ

set_option maxHeartbeats 4000000 in
set_option maxRecDepth 100000 in
theorem scales_no (k p r n : Int) (a : FA) (w : World) (hT : Tab w) (ha : Rd w a.A a.c a.xs) (hs : ¬ a.xs.length ≤ 40) :
    Calls Tryz.prog 3 #[.agg #[.int .i64 k, .int .i64 p], .int .i64 r, a.v, .int .i64 n] w fun e w' => e = .returned (.bool true) ∧ Ext w w' := by
  obtain ⟨hF, hX, hE, hsz⟩ := boxesHs w k p a _ rfl
  have HE := Lib.hid hE
  have HS := Lib.hid hsz
  clear hF hX hE hsz
  have hall : [a].all (fun a => decide (a.xs.length ≤ 40)) = decide (a.xs.length ≤ 40) := by simp
  have hsh := fun A c w h => short_c A c [a] w h
  rw [hall, decide_eq_false hs] at hsh
  clear hall hs
  obtain ⟨ak, an, ae, aA, ac, as1⟩ := a
  simp only at HE HS ha
  go_enter Tryz.func3, Tryz.ntmps3
  go_wp2_with fail
  have hE := HE.out
  have hsz := HS.out
  clear HE HS
  generalize ((w.alloc (.cells #[.int .i64 k, .int .i64 p] 23)).alloc (.cells #[.int .i64 ak, .bool an, .int .i64 ae, .slice aA as1.length ac] 29)) = W at *
  have hL := oneRow W ⟨ak, an, ae, aA, ac, as1⟩ _ hsz (ha.ext hE)
  have hA := (Ext.refl W).al (.cells #[.int .i64 ak, .bool an, .int .i64 ae, .slice aA as1.length ac] 29)
  refine (hsh _ _ _ hL).mono ?_
  rintro z w1 ⟨rfl, rfl⟩
  have hE1 := hE.tr hA
  clear hL hsz
  generalize W.alloc (.cells #[.int .i64 ak, .bool an, .int .i64 ae, .slice aA as1.length ac] 29) = V at *
  go_wp2_with fail
  refine (awake21_c _ (hT.ext hE1)).mono ?_
  rintro z w2 ⟨rfl, hb2⟩
  go_wp2
  go_ret
  exact ⟨rfl, hE1.tr hb2⟩
theorem chk_not2 (k p : Int) (l : List FA) : chkS k p l ≠ 2 := by
  unfold chkS
  repeat' split
  all_goals omega
theorem scale_n {r n : Int} {E ec : Int} (hE : E ≠ 2) (h : ((¬ (0 ≤ r ∧ r ≤ 4) ∨ n < -100000 ∨ 100000 < n) → ec = 1) ∧ (¬ (0 ≤ r ∧ r ≤ 4) → E = 1) ∧ (¬ (¬ (0 ≤ r ∧ r ≤ 4) ∨ n < -100000 ∨ 100000 < n) → ec = E)) :
    (E ≠ 2 ∧ n < -100000 ∧ ec = 1) ∨ (E ≠ 2 ∧ 100000 < n ∧ ec = 1) ∨ (-100000 ≤ n ∧ n ≤ 100000 ∧ ec = E ∧ E ≠ 2) := by
  obtain ⟨h1, h2, h3⟩ := h
  by_cases n1 : n < -100000
  · exact .inl ⟨hE, n1, h1 (.inr (.inl n1))⟩
  · by_cases n2 : 100000 < n
    · exact .inr (.inl ⟨hE, n2, h1 (.inr (.inr n2))⟩)
    · refine .inr (.inr ⟨by omega, by omega, ?_, hE⟩)
      by_cases hr : 0 ≤ r ∧ r ≤ 4
      · exact h3 (fun h => h.elim (fun h => h hr) (fun h => by omega))
      · rw [h1 (.inl hr), h2 hr]
theorem orderScales_w (k p r : Int) (a : FA) (n : Int) (w : World) (hT : Tab w) (hM : MoreT w) (ha : Rd w a.A a.c a.xs) :
    Calls Tryz.prog 3 #[.agg #[.int .i64 k, .int .i64 p], .int .i64 r, a.v, .int .i64 n] w fun e w' => e = .returned (.bool true) ∧ Ext w w' := by
  by_cases hs : a.xs.length ≤ 40
  rotate_left
  · exact scales_no k p r n a w hT ha hs
  have hs4 : a.xs.length ≤ 4096 := by omega
  have hEn : ¬ (0 ≤ r ∧ r ≤ 4) → kaS k p r [a] = 1 := fun h => if_neg h
  have hEy : (0 ≤ r ∧ r ≤ 4) → kaS k p r [a] = chkS k p [a] := fun h => if_pos h
  have hE2 : kaS k p r [a] ≠ 2 := by
    by_cases hr : 0 ≤ r ∧ r ≤ 4
    · rw [hEy hr]; exact chk_not2 k p [a]
    · rw [hEn hr]; decide
  by_cases hC : chkS k p [a] = 0
  · obtain ⟨hR, hfs⟩ := chk_good hC
    obtain ⟨f, hc, hin⟩ := hfs a (by simp)
    have hf := of_good hc hin ha.w64 hs4
    have hfl := FlsS_one_ok hR hs4 hc hin
    have hkk : f.kind = a.k := canon_kind hc
    by_cases hbad : ¬ (0 ≤ r ∧ r ≤ 4) ∨ n < -100000 ∨ 100000 < n
    · have hsc := fun w (_ : Tab w) (_ : MoreT w) ha => Scale_arg k p r n a hs4 hbad w ha
      have hN := scale_n (r := r) (n := n) (ec := 1) hE2 ⟨fun _ => rfl, hEn, fun h => absurd hbad h⟩
      by_cases hk : f.kind = 1
      · have hk1 : a.k = 1 := hkk.symm.trans hk
        have hc' : canon a.k a.neg a.e (val a.xs) = some f := hc
        rw [hk1] at hc'
        obtain ⟨h1, h2, h3, h4⟩ := canon_fin hc'
        have hbd := bl_div_tz h2
        have hb : f.exp + bl f.mag - 1 = (bl (val a.xs) : Int) - 1 + a.e := by rw [h1]; simp only; omega
        exact scales_num k p r n a w hT hM ha hs _ _ 1 0 ⟨0, false, 0, 0⟩ _ _ hsc (fun w hT ha => Exponent_fin k p a f hfl hk hf.ok hf.len w hT ha) rfl rfl ⟨hC, hk1, rfl, hb, by omega, by omega⟩ hN (fun _ => ⟨rfl, rfl⟩) (fun h => absurd h (by decide))
      · exact scales_still k p r n a w hT hM ha hs _ _ 1 0 ⟨0, false, 0, 0⟩ _ _ hsc (fun w hT ha => Exponent_none k p a f hfl hk w hT ha) rfl rfl ⟨hC, by rw [← hkk]; exact hk, rfl, rfl⟩ hN (fun _ => ⟨rfl, rfl⟩) (fun h => absurd h (by decide))
    · have hr : 0 ≤ r ∧ r ≤ 4 := Classical.byContradiction fun h => hbad (.inl h)
      have hn : -100000 ≤ n ∧ n ≤ 100000 := by omega
      have hsc := fun w hT hM ha => Scale_good hR hr hn a f hf hfl hs4 w hT hM ha
      have hN := scale_n (r := r) (n := n) (ec := 0) hE2 ⟨fun h => absurd h hbad, hEn, fun _ => by rw [hEy hr, hC]⟩
      have hof := sc_of (r := r) hR hf n
      have hgd : (0 : Int) = 0 → (canon (scF k p r f n).kind (scF k p r f n).neg (scF k p r f n).exp (scF k p r f n).mag = some (scF k p r f n) ∧ (cn (scF k p r f n).mag).length ≤ 4096) ∧
          ∀ w, Rd w a.A a.c a.xs → Calls Tryz.prog 15 #[.agg #[.int .i64 k, .int .i64 p], .int .i64 r, a.v, .int .i64 n] w (FErr w (scK k p r f n) (scF k p r f n)) :=
        fun _ => ⟨⟨canon_self hof.ok, hof.len⟩, fun w ha => scale21_c k p r n a f w ha hs4 hR hr hn hc hf⟩
      by_cases hk : f.kind = 1
      · have hk1 : a.k = 1 := hkk.symm.trans hk
        have hc' : canon a.k a.neg a.e (val a.xs) = some f := hc
        rw [hk1] at hc'
        obtain ⟨h1, h2, h3, h4⟩ := canon_fin hc'
        have hbd := bl_div_tz h2
        have hb : f.exp + bl f.mag - 1 = (bl (val a.xs) : Int) - 1 + a.e := by rw [h1]; simp only; omega
        exact scales_num k p r n a w hT hM ha hs _ _ 0 _ _ _ _ hsc (fun w hT ha => Exponent_fin k p a f hfl hk hf.ok hf.len w hT ha) rfl rfl ⟨hC, hk1, rfl, hb, by omega, by omega⟩ hN (fun h => absurd rfl h) hgd
      · exact scales_still k p r n a w hT hM ha hs _ _ 0 _ _ _ _ hsc (fun w hT ha => Exponent_none k p a f hfl hk w hT ha) rfl rfl ⟨hC, by rw [← hkk]; exact hk, rfl, rfl⟩ hN (fun h => absurd rfl h) hgd
  · have hfl := FlsS_chk (k := k) (p := p) (l := [a]) (fun b hb => by obtain rfl := List.mem_singleton.1 hb; exact hs4) hC
    have hex := fun w hT ha => Exponent_bad k p a (chkS k p [a]) hfl hC w hT ha
    by_cases hbad : ¬ (0 ≤ r ∧ r ≤ 4) ∨ n < -100000 ∨ 100000 < n
    · have hsc := fun w (_ : Tab w) (_ : MoreT w) ha => Scale_arg k p r n a hs4 hbad w ha
      have hN := scale_n (r := r) (n := n) (ec := 1) hE2 ⟨fun _ => rfl, hEn, fun h => absurd hbad h⟩
      exact scales_err k p r n a w hT hM ha hs _ _ 1 0 ⟨0, false, 0, 0⟩ _ _ hsc hex rfl rfl ⟨hC, rfl, rfl⟩ hN (fun _ => ⟨rfl, rfl⟩) (fun h => absurd h (by decide))
    · have hr : 0 ≤ r ∧ r ≤ 4 := Classical.byContradiction fun h => hbad (.inl h)
      have hn : -100000 ≤ n ∧ n ≤ 100000 := by omega
      have hsc := fun w hT (_ : MoreT w) ha => Scale_bad k p r n (chkS k p [a]) a hs4 hr hn hfl hC w hT ha
      have hN := scale_n (r := r) (n := n) (ec := chkS k p [a]) hE2 ⟨fun h => absurd h hbad, hEn, fun _ => by rw [hEy hr]⟩
      exact scales_err k p r n a w hT hM ha hs _ _ _ 0 ⟨0, false, 0, 0⟩ _ _ hsc hex rfl rfl ⟨hC, rfl, rfl⟩ hN (fun _ => ⟨rfl, rfl⟩) (fun h => absurd h hC)
end Go.Proofs.YtehlmacgjlgjaaaGreatDoor
