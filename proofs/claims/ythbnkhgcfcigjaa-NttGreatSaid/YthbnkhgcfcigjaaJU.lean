/- NttGreat: the walk. -/
import Derived.Test.YthbnkhgcfcigjaaJS
import Derived.Test.YthbnkhgcfcigjaaR7
set_option linter.unusedVariables false
set_option linter.unusedSimpArgs false
namespace Go.Proofs.Ythbnkhgcfcigjaa
open Go.RowKit

/-- A number of at most k words. -/
def Sz (k n : Nat) : Prop := n < B ^ k
theorem Sz.len {k n : Nat} (h : Sz k n) : (cn n).length ≤ k := (cn_len_le n k).2 h
theorem Sz.mono {k l n : Nat} (h : Sz k n) (hk : k ≤ l) : Sz l n := Nat.lt_of_lt_of_le h (Nat.pow_le_pow_right B_pos hk)
theorem Sz.mul {k l m n : Nat} (h : Sz k m) (h' : Sz l n) : Sz (k + l) (m * n) := by
  unfold Sz at *
  rw [Nat.pow_add]
  exact Nat.mul_lt_mul'' h h'
theorem Sz.shl {k n s : Nat} (h : Sz k n) (j : Nat) (hs : s ≤ 64 * j) : Sz (k + j) (n * 2 ^ s) := by
  unfold Sz at *
  have h2 : 2 ^ s ≤ B ^ j := by
    rw [B_two, ← Nat.pow_mul]
    exact Nat.pow_le_pow_right (by omega) hs
  rw [Nat.pow_add]
  exact Nat.lt_of_lt_of_le (Nat.mul_lt_mul_of_pos_right h (Nat.two_pow_pos s)) (Nat.mul_le_mul_left _ h2)
theorem Sz.add {k m n : Nat} (h : Sz k m) (h' : Sz k n) : Sz (k + 1) (m + n) := by
  unfold Sz at *
  rw [Nat.pow_succ]
  have h2 : B ^ k * 2 ≤ B ^ k * B := Nat.mul_le_mul_left _ two_le_B
  omega
/-- Canonical rows: shifts and sums. -/
theorem lf_c (A : Option Addr) (c n k s : Nat) (w : World) (h : Rd w A c (cn n)) (hk : Sz k n) (hk2 : k ≤ 100000) (hs : s ≤ 10000000) : Calls Try.prog 30 #[.slice A (cn n).length c, .int .i64 (s : Int)] w (Res w (cn (n * 2 ^ s))) := by
  have := rleft_c A c (cn n) s w h hs (Nat.le_trans hk.len (by omega))
  rwa [val_cn] at this
theorem ac_c (A A' : Option Addr) (c c' m n k l : Nat) (w : World) (h : Rd w A c (cn m)) (h' : Rd w A' c' (cn n)) (hk : Sz k m) (hl : Sz l n) (hk2 : k ≤ 100000) (hl2 : l ≤ 100000) : Calls Try.prog 29 #[.slice A (cn m).length c, .slice A' (cn n).length c'] w (Res w (cn (m + n))) := by
  have := radd_c A A' c c' (cn m) (cn n) w h h' (Nat.le_trans hk.len (by omega)) (Nat.le_trans hl.len (by omega))
  rwa [val_cn, val_cn] at this
theorem great_one (A s t : Nat) : (A * 2 ^ s + A) * (A * 2 ^ t + A) = A * A * 2 ^ (s + t) + A * A * 2 ^ s + (A * A * 2 ^ t + A * A) := by
  rw [Nat.pow_add, Nat.add_mul, Nat.mul_add, Nat.mul_add]
  have e1 : A * 2 ^ s * (A * 2 ^ t) = A * A * (2 ^ s * 2 ^ t) := by ac_rfl
  have e2 : A * 2 ^ s * A = A * A * 2 ^ s := by ac_rfl
  have e3 : A * (A * 2 ^ t) = A * A * 2 ^ t := by ac_rfl
  rw [e1, e2, e3]
theorem great_two (A s : Nat) : (A * 2 ^ s + A) * (A * 2 ^ s + A) = A * A * 2 ^ (2 * s) + (A * A * 2 ^ (s + 1) + A * A) := by
  rw [great_one, Nat.pow_succ, show 2 * s = s + s by omega]
  have : A * A * (2 ^ s * 2) = A * A * 2 ^ s + A * A * 2 ^ s := by rw [← Nat.mul_assoc, Nat.mul_two]
  rw [this]
  omega
set_option maxHeartbeats 8000000 in
set_option maxRecDepth 100000 in
theorem nttGreat_c (A : Option Addr) (c : Nat) (xs : List Nat) (s0 t0 : Int) (w : World) (h : Rd w A c xs) :
    Calls Try.prog 6 #[.slice A xs.length c, .agg #[.int .i64 s0, .int .i64 t0]] w fun e w' => e = .returned (.bool true) ∧ Ext w w' := by
  obtain ⟨x1, hx1⟩ : ∃ x : Nat, IntKind.u64.wrap s0 = (x : Int) := ⟨(IntKind.u64.wrap s0).toNat, by rw [IntKind.wrap_u64]; omega⟩
  obtain ⟨x2, hx2⟩ : ∃ x : Nat, IntKind.u64.wrap t0 = (x : Int) := ⟨(IntKind.u64.wrap t0).toNat, by rw [IntKind.wrap_u64]; omega⟩
  obtain ⟨s, hs⟩ : ∃ s : Nat, x1 % 120000 = s := ⟨_, rfl⟩
  obtain ⟨t, ht⟩ : ∃ t : Nat, x2 % 120000 = t := ⟨_, rfl⟩
  have hs12 : s < 120000 := by omega
  have ht12 : t < 120000 := by omega
  have hm1 : (x1 : Int).tmod 120000 = (s : Int) := by rw [Int.tmod_eq_emod_of_nonneg (by omega)]; omega
  have hm2 : (x2 : Int).tmod 120000 = (t : Int) := by rw [Int.tmod_eq_emod_of_nonneg (by omega)]; omega
  have hn1 : (x1 : Int) % 120000 = (s : Int) := by omega
  have hn2 : (x2 : Int) % 120000 = (t : Int) := by omega
  have hfw := fun w h => few_c A c xs 4 w h (by omega)
  have hbx := (Ext.refl w).al (.cells #[.int .i64 s0, .int .i64 t0] 39)
  have q0 : (w.alloc (.cells #[.int .i64 s0, .int .i64 t0] 39)).cell? ⟨w.heap.size, 0, none⟩ = some (.int .i64 s0) := by rw [cell_of_row _ w.heap.size 0 _ _ _ (heap_alloc_new w _)]; rfl
  have q1 : (w.alloc (.cells #[.int .i64 s0, .int .i64 t0] 39)).cell? ⟨w.heap.size, 1, none⟩ = some (.int .i64 t0) := by rw [cell_of_row _ w.heap.size 1 _ _ _ (heap_alloc_new w _)]; rfl
  clear hs ht
  have hsz : Sz 4 (val (xs.take 4)) := Nat.lt_of_lt_of_le (val_lt (h.w64.take 4)) (Nat.pow_le_pow_right B_pos (by rw [List.length_take]; omega))
  have hla : (xs.take 4).length ≤ 4 := by rw [List.length_take]; omega
  generalize xs.take 4 = a at *
  have c1 := fun A c w h => rleft_c A c a s w h (by omega) (by omega)
  have c3 := fun A c w h => rleft_c A c a t w h (by omega) (by omega)
  have z1 := hsz.shl (s := s) 1876 (by omega)
  have z3 := hsz.shl (s := t) 1876 (by omega)
  have z2 := z1.add (hsz.mono (show 4 ≤ 4 + 1876 by omega))
  have z4 := z3.add (hsz.mono (show 4 ≤ 4 + 1876 by omega))
  have c2 := fun A A' c c' w h h' => radd_c A A' c c' (cn (val a * 2 ^ s)) a w h h' (Nat.le_trans z1.len (by omega)) (by omega)
  have c4 := fun A A' c c' w h h' => radd_c A A' c c' (cn (val a * 2 ^ t)) a w h h' (Nat.le_trans z3.len (by omega)) (by omega)
  simp only [val_cn] at c2 c4
  have c6 := fun A c w h => rmul_c A A c c a a w h h (by omega) (by omega)
  have zq := hsz.mul hsz
  have hp := fun A A' c c' w h h' => Mul_c A A' c c' (cn (val a * 2 ^ s + val a)) (cn (val a * 2 ^ t + val a)) w h h'
  have m1 := ml_ok (W64.cn (val a * 2 ^ s + val a)) (W64.cn (val a * 2 ^ t + val a)) (by have := z2.len; have := z4.len; omega)
  have hq := fun A c w h => Square_c A c (cn (val a * 2 ^ s + val a)) w h
  have m2 := ml_ok (W64.cn (val a * 2 ^ s + val a)) (W64.cn (val a * 2 ^ s + val a)) (by have := z2.len; omega)
  rw [val_cn, val_cn] at m1
  rw [val_cn] at m2
  simp only [m1.1, m1.2] at hp
  simp only [m2.1, m2.2] at hq
  rw [great_one] at hp
  rw [great_two] at hq
  have e1 := great_one (val a) s t
  generalize val a = V at *
  have y7 := zq.shl (s := s + t) 3751 (by omega)
  have y8 := zq.shl (s := s) 3751 (by omega)
  have y10 := zq.shl (s := t) 3751 (by omega)
  have y14 := zq.shl (s := 2 * s) 3751 (by omega)
  have y15 := zq.shl (s := s + 1) 3751 (by omega)
  have zq2 := zq.mono (show 4 + 4 ≤ 4 + 4 + 3751 by omega)
  have y9 := y7.add y8
  have y11 := y10.add zq2
  have y12 := y9.add y11
  have y16 := y15.add zq2
  have y17 := (y14.mono (show 4 + 4 + 3751 ≤ 4 + 4 + 3751 + 1 by omega)).add y16
  have c7 := fun A c w h => lf_c A c (V * V) _ (s + t) w h zq (by omega) (by omega)
  have c8 := fun A c w h => lf_c A c (V * V) _ (s) w h zq (by omega) (by omega)
  have c10 := fun A c w h => lf_c A c (V * V) _ (t) w h zq (by omega) (by omega)
  have c14 := fun A c w h => lf_c A c (V * V) _ (2 * s) w h zq (by omega) (by omega)
  have c15 := fun A c w h => lf_c A c (V * V) _ (s + 1) w h zq (by omega) (by omega)
  have c9 := fun A A' c c' w h h' => ac_c A A' c c' (V * V * 2 ^ (s + t)) (V * V * 2 ^ s) _ _ w h h' y7 y8 (by omega) (by omega)
  have c11 := fun A A' c c' w h h' => ac_c A A' c c' (V * V * 2 ^ t) (V * V) _ _ w h h' y10 zq (by omega) (by omega)
  have c12 := fun A A' c c' w h h' => ac_c A A' c c' (V * V * 2 ^ (s + t) + V * V * 2 ^ s) (V * V * 2 ^ t + V * V) _ _ w h h' y9 y11 (by omega) (by omega)
  have c16 := fun A A' c c' w h h' => ac_c A A' c c' (V * V * 2 ^ (s + 1)) (V * V) _ _ w h h' y15 zq (by omega) (by omega)
  have c17 := fun A A' c c' w h h' => ac_c A A' c c' (V * V * 2 ^ (2 * s)) (V * V * 2 ^ (s + 1) + V * V) _ _ w h h' y14 y16 (by omega) (by omega)
  have i1 := fun A A' c c' w h h' => is_cn A A' c c' (V * V * 2 ^ (s + t) + V * V * 2 ^ s + (V * V * 2 ^ t + V * V)) w h h' (Nat.le_trans y12.len (by omega))
  have i2 := fun A A' c c' w h h' => is_cn A A' c c' (V * V * 2 ^ (2 * s) + (V * V * 2 ^ (s + 1) + V * V)) w h h' (Nat.le_trans y17.len (by omega))
  have j1 : ((s + t : Nat) : Int) = (s : Int) + (t : Int) := by omega
  have j2 : ((2 * s : Nat) : Int) = 2 * (s : Int) := by omega
  have j3 : ((s + 1 : Nat) : Int) = (s : Int) + 1 := by omega
  rw [j1] at c7
  rw [j2] at c14
  rw [j3] at c15
  clear e1 m1 m2 j1 j2 j3 y7 y8 y9 y10 y11 y12 y14 y15 y16 y17 z1 z2 z3 z4 zq zq2 hsz
  generalize cn (V * V * 2 ^ (s + t) + V * V * 2 ^ s + (V * V * 2 ^ t + V * V)) = r12 at *
  generalize cn (V * V * 2 ^ (2 * s) + (V * V * 2 ^ (s + 1) + V * V)) = r17 at *
  generalize cn (V * V * 2 ^ (s + t) + V * V * 2 ^ s) = r9 at *
  generalize cn (V * V * 2 ^ t + V * V) = r11 at *
  generalize cn (V * V * 2 ^ (s + 1) + V * V) = r16 at *
  generalize cn (V * V * 2 ^ (s + t)) = r7 at *
  generalize cn (V * V * 2 ^ s) = r8 at *
  generalize cn (V * V * 2 ^ t) = r10 at *
  generalize cn (V * V * 2 ^ (2 * s)) = r14 at *
  generalize cn (V * V * 2 ^ (s + 1)) = r15 at *
  generalize cn (V * V) = r6 at *
  generalize cn (V * 2 ^ s + V) = r2 at *
  generalize cn (V * 2 ^ t + V) = r4 at *
  generalize cn (V * 2 ^ s) = r1 at *
  generalize cn (V * 2 ^ t) = r3 at *
  go_enter Try.func6, Try.ntmps6
  go_wp2_with fail
  refine (hfw _ (h.ext hbx)).mono ?_
  rintro z w0 ⟨v0, rfl, ho0, hE0⟩
  obtain ⟨A0, k0, rfl, h0⟩ := ho0.rd
  have hW := hbx.tr hE0
  replace q0 := hE0.cell q0
  replace q1 := hE0.cell q1
  clear ho0 hE0 hbx
  go_wp2_with fail
  go_quiet (fail)
  have hWq := hW.drewN nq
  have h0q := h0.drewN nq
  generalize w0.drewN nq = w1 at *
  clear q0 q1 hW h0
  go_wp2_with fail
  refine (c1 _ _ _ h0q).mono ?_
  rintro z w2 ⟨v1, rfl, ho1, hE1⟩
  obtain ⟨A1, k1, rfl, h1⟩ := ho1.rd
  replace h0q := h0q.ext hE1
  go_wp2_with fail
  refine (c2 _ _ _ _ _ h1 h0q).mono ?_
  rintro z w3 ⟨v2, rfl, ho2, hE2⟩
  obtain ⟨A2, k2, rfl, h2⟩ := ho2.rd
  replace h0q := h0q.ext hE2
  go_wp2_with fail
  refine (c3 _ _ _ h0q).mono ?_
  rintro z w4 ⟨v3, rfl, ho3, hE3⟩
  obtain ⟨A3, k3, rfl, h3⟩ := ho3.rd
  replace h0q := h0q.ext hE3
  replace h2 := h2.ext hE3
  go_wp2_with fail
  refine (c4 _ _ _ _ _ h3 h0q).mono ?_
  rintro z w5 ⟨v4, rfl, ho4, hE4⟩
  obtain ⟨A4, k4, rfl, h4⟩ := ho4.rd
  replace h0q := h0q.ext hE4
  replace h2 := h2.ext hE4
  go_wp2_with fail
  refine (hp _ _ _ _ _ h2 h4).mono ?_
  rintro z w6 ⟨v5, rfl, ho5, hE5⟩
  obtain ⟨A5, k5, rfl, h5⟩ := ho5.rd
  replace h0q := h0q.ext hE5
  replace h2 := h2.ext hE5
  go_wp2_with fail
  refine (c6 _ _ _ h0q).mono ?_
  rintro z w7 ⟨v6, rfl, ho6, hE6⟩
  obtain ⟨A6, k6, rfl, h6⟩ := ho6.rd
  replace h2 := h2.ext hE6
  replace h5 := h5.ext hE6
  go_wp2_with fail
  refine (c7 _ _ _ h6).mono ?_
  rintro z w8 ⟨v7, rfl, ho7, hE7⟩
  obtain ⟨A7, k7, rfl, h7⟩ := ho7.rd
  replace h2 := h2.ext hE7
  replace h5 := h5.ext hE7
  replace h6 := h6.ext hE7
  go_wp2_with fail
  refine (c8 _ _ _ h6).mono ?_
  rintro z w9 ⟨v8, rfl, ho8, hE8⟩
  obtain ⟨A8, k8, rfl, h8⟩ := ho8.rd
  replace h2 := h2.ext hE8
  replace h5 := h5.ext hE8
  replace h6 := h6.ext hE8
  replace h7 := h7.ext hE8
  go_wp2_with fail
  refine (c9 _ _ _ _ _ h7 h8).mono ?_
  rintro z w10 ⟨v9, rfl, ho9, hE9⟩
  obtain ⟨A9, k9, rfl, h9⟩ := ho9.rd
  replace h2 := h2.ext hE9
  replace h5 := h5.ext hE9
  replace h6 := h6.ext hE9
  go_wp2_with fail
  refine (c10 _ _ _ h6).mono ?_
  rintro z w11 ⟨v10, rfl, ho10, hE10⟩
  obtain ⟨A10, k10, rfl, h10⟩ := ho10.rd
  replace h2 := h2.ext hE10
  replace h5 := h5.ext hE10
  replace h6 := h6.ext hE10
  replace h9 := h9.ext hE10
  go_wp2_with fail
  refine (c11 _ _ _ _ _ h10 h6).mono ?_
  rintro z w12 ⟨v11, rfl, ho11, hE11⟩
  obtain ⟨A11, k11, rfl, h11⟩ := ho11.rd
  replace h2 := h2.ext hE11
  replace h5 := h5.ext hE11
  replace h6 := h6.ext hE11
  replace h9 := h9.ext hE11
  go_wp2_with fail
  refine (c12 _ _ _ _ _ h9 h11).mono ?_
  rintro z w13 ⟨v12, rfl, ho12, hE12⟩
  obtain ⟨A12, k12, rfl, h12⟩ := ho12.rd
  replace h2 := h2.ext hE12
  replace h5 := h5.ext hE12
  replace h6 := h6.ext hE12
  go_wp2_with fail
  refine (hq _ _ _ h2).mono ?_
  rintro z w14 ⟨v13, rfl, ho13, hE13⟩
  obtain ⟨A13, k13, rfl, h13⟩ := ho13.rd
  replace h5 := h5.ext hE13
  replace h6 := h6.ext hE13
  replace h12 := h12.ext hE13
  go_wp2_with fail
  refine (c14 _ _ _ h6).mono ?_
  rintro z w15 ⟨v14, rfl, ho14, hE14⟩
  obtain ⟨A14, k14, rfl, h14⟩ := ho14.rd
  replace h5 := h5.ext hE14
  replace h6 := h6.ext hE14
  replace h12 := h12.ext hE14
  replace h13 := h13.ext hE14
  go_wp2_with fail
  refine (c15 _ _ _ h6).mono ?_
  rintro z w16 ⟨v15, rfl, ho15, hE15⟩
  obtain ⟨A15, k15, rfl, h15⟩ := ho15.rd
  replace h5 := h5.ext hE15
  replace h6 := h6.ext hE15
  replace h12 := h12.ext hE15
  replace h13 := h13.ext hE15
  replace h14 := h14.ext hE15
  go_wp2_with fail
  refine (c16 _ _ _ _ _ h15 h6).mono ?_
  rintro z w17 ⟨v16, rfl, ho16, hE16⟩
  obtain ⟨A16, k16, rfl, h16⟩ := ho16.rd
  replace h5 := h5.ext hE16
  replace h12 := h12.ext hE16
  replace h13 := h13.ext hE16
  replace h14 := h14.ext hE16
  go_wp2_with fail
  refine (c17 _ _ _ _ _ h14 h16).mono ?_
  rintro z w18 ⟨v17, rfl, ho17, hE17⟩
  obtain ⟨A17, k17, rfl, h17⟩ := ho17.rd
  replace h5 := h5.ext hE17
  replace h12 := h12.ext hE17
  replace h13 := h13.ext hE17
  go_wp2_with fail
  refine (i1 _ _ _ _ _ h5 h12).mono ?_
  rintro z w19 ⟨rfl, hE18⟩
  replace h13 := h13.ext hE18
  replace h17 := h17.ext hE18
  go_wp2_with fail
  refine (i2 _ _ _ _ _ h13 h17).mono ?_
  rintro z w20 ⟨rfl, hE19⟩
  go_wp2_with fail
  refine (awake04_c _).mono ?_
  rintro z w21 ⟨rfl, hE20⟩
  go_wp2_with fail
  go_ret
  exact ⟨rfl, ((((((((((((((((((((hWq.tr hE1).tr hE2).tr hE3).tr hE4).tr hE5).tr hE6).tr hE7).tr hE8).tr hE9).tr hE10).tr hE11).tr hE12).tr hE13).tr hE14).tr hE15).tr hE16).tr hE17).tr hE18).tr hE19).tr hE20)⟩
end Go.Proofs.Ythbnkhgcfcigjaa
