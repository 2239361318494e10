/- math/bits.Div64: the plain law. math/bits.Div64: the walk. package wide: divWord in full. package wide: guess. -/
import Derived.Test.YtknafhogaheacaaDoorW7
import Derived.Test.YtknafhogaheacaaDoorW3
set_option linter.unusedVariables false
set_option linter.unusedSimpArgs false
namespace Go.Proofs.YtknafhogaheacaaDoor
open Go.RowKit

/-! One half digit of a quotient: the number is U H + u, the divisor y = y1 H + y0 with its top bit set. -/
theorem dv_lt {H U y u : Nat} (hU : U < y) (hu : u < H) : (U * H + u) / y < H := by
  rw [Nat.div_lt_iff_lt_mul (by omega)]
  have h1 : (U + 1) * H ≤ y * H := Nat.mul_le_mul_right _ hU
  rw [Nat.add_mul, Nat.one_mul] at h1
  rw [Nat.mul_comm H y]
  omega
theorem dv_init {H U y u y1 y0 : Nat} (hy : y = y1 * H + y0) (hh : H ≤ 2 * y1) (hH : 0 < H) (hy0 : y0 < H) (hU : U < y) (hu : u < H) :
    (U * H + u) / y ≤ U / y1 ∧ U / y1 ≤ H + 1 ∧ U = U / y1 * y1 + U % y1 := by
  have h10 : 0 < y1 := by omega
  have hd := Nat.div_add_mod U y1
  have hm := Nat.mod_lt U h10
  rw [Nat.mul_comm] at hd
  have h5 : y1 * H ≤ y := by omega
  refine ⟨?_, ?_, hd.symm⟩
  · refine Nat.le_of_lt_succ ((Nat.div_lt_iff_lt_mul (by omega)).2 ?_)
    have h1 : U + 1 ≤ (U / y1 + 1) * y1 := by rw [Nat.add_mul, Nat.one_mul]; omega
    have h2 : (U + 1) * H ≤ (U / y1 + 1) * y1 * H := Nat.mul_le_mul_right _ h1
    have h3 : (U / y1 + 1) * y1 * H ≤ (U / y1 + 1) * y := by
      rw [Nat.mul_assoc]; exact Nat.mul_le_mul_left _ h5
    rw [Nat.add_mul, Nat.one_mul] at h2
    rw [Nat.succ_eq_add_one]
    omega
  · have h4 : U / y1 < H + 2 := (Nat.div_lt_iff_lt_mul h10).2 (by
      rw [Nat.add_mul, Nat.mul_comm H y1]
      omega)
    omega
theorem dv_split {H y y1 y0 q : Nat} (hy : y = y1 * H + y0) : q * y = q * y1 * H + q * y0 := by rw [hy, Nat.mul_add, Nat.mul_assoc]
theorem dv_step {H U y u q r y1 y0 : Nat} (hy : y = y1 * H + y0) (hU : U < y) (hu : u < H) (hC : H ≤ q ∨ r * H + u < q * y0) (hq : U = q * y1 + r) (hQ : (U * H + u) / y ≤ q) :
    1 ≤ q ∧ (U * H + u) / y ≤ q - 1 ∧ U = (q - 1) * y1 + (r + y1) := by
  have hlt := dv_lt (H := H) hU hu
  have h1 : (U * H + u) / y < q := by
    rcases hC with h | h
    · exact Nat.lt_of_lt_of_le hlt h
    · rw [Nat.div_lt_iff_lt_mul (by omega), dv_split hy]
      have h2 : U * H = q * y1 * H + r * H := by rw [hq, Nat.add_mul]
      omega
  generalize (U * H + u) / y = Q at *
  refine ⟨by omega, by omega, ?_⟩
  obtain ⟨t, rfl⟩ : ∃ t, q = t + 1 := ⟨q - 1, by omega⟩
  rw [Nat.add_mul, Nat.one_mul] at hq
  rw [Nat.add_sub_cancel]
  omega
theorem dv_done {H U y u q r y1 y0 : Nat} (hy : y = y1 * H + y0) (h0 : 0 < y) (hc : q * y0 ≤ r * H + u) (hq : U = q * y1 + r) (hQ : (U * H + u) / y ≤ q) : q = (U * H + u) / y := by
  refine Nat.le_antisymm ((Nat.le_div_iff_mul_le h0).2 ?_) hQ
  rw [dv_split hy]
  have h2 : U * H = q * y1 * H + r * H := by rw [hq, Nat.add_mul]
  omega
theorem dv_break {H U y u q r y1 y0 : Nat} (hy : y = y1 * H + y0) (h0 : 0 < y) (hy0 : y0 < H) (hr : H ≤ r) (hqH : q ≤ H) (hq : U = q * y1 + r) (hQ : (U * H + u) / y ≤ q) : q = (U * H + u) / y := by
  refine dv_done hy h0 ?_ hq hQ
  have h2 : q * y0 ≤ H * H := Nat.mul_le_mul hqH (by omega)
  have h3 : H * H ≤ r * H := Nat.mul_le_mul_right _ hr
  omega
/-- Two half digits make the whole division. -/
theorem dv_two {H U y a b : Nat} (h0 : 0 < y) :
    ((U * H + a) / y) * H + ((U * H + a) % y * H + b) / y = (U * (H * H) + (a * H + b)) / y ∧
    ((U * H + a) % y * H + b) % y = (U * (H * H) + (a * H + b)) % y := by
  have e1 := Nat.div_add_mod (U * H + a) y
  obtain ⟨q1, hq1⟩ : ∃ q1, (U * H + a) / y = q1 := ⟨_, rfl⟩
  obtain ⟨r1, hr1⟩ : ∃ r1, (U * H + a) % y = r1 := ⟨_, rfl⟩
  rw [hq1, hr1] at e1 ⊢
  have e2 := Nat.div_add_mod (r1 * H + b) y
  have hm := Nat.mod_lt (r1 * H + b) h0
  obtain ⟨q0, hq0⟩ : ∃ q0, (r1 * H + b) / y = q0 := ⟨_, rfl⟩
  obtain ⟨r0, hr0⟩ : ∃ r0, (r1 * H + b) % y = r0 := ⟨_, rfl⟩
  rw [hq0, hr0] at e2
  rw [hr0] at hm
  rw [hq0, hr0]
  have e : U * (H * H) + (a * H + b) = r0 + y * (q1 * H + q0) := by
    have h3 : (U * H + a) * H = (y * q1 + r1) * H := by rw [e1]
    rw [Nat.add_mul, Nat.add_mul, Nat.mul_assoc, Nat.mul_assoc] at h3
    rw [Nat.mul_add]
    omega
  rw [e, Nat.add_mul_div_left _ _ h0, Nat.add_mul_mod_self_left, Nat.div_eq_of_lt hm, Nat.mod_eq_of_lt hm, Nat.zero_add]
  exact ⟨rfl, rfl⟩
/-- A division of numbers that are both shifted. -/
theorem dv_shift {x y P : Nat} (hP : 0 < P) : x * P / (y * P) = x / y ∧ x * P % (y * P) / P = x % y := by
  refine ⟨Nat.mul_div_mul_right _ _ hP, ?_⟩
  rw [Nat.mul_mod_mul_right, Nat.mul_div_cancel _ hP]
/-- The number between, of which the machine keeps one word. -/
theorem dv_mid {N y M : Nat} (h0 : 0 < y) (hM : y ≤ M) : (N % M + (M - N / y * y % M)) % M = N % y := by
  have e := Nat.div_add_mod N y
  have hm := Nat.mod_lt N h0
  rw [Nat.mul_comm] at e
  obtain ⟨t, ht⟩ : ∃ t, N / y * y = t := ⟨_, rfl⟩
  obtain ⟨r, hr⟩ : ∃ r, N % y = r := ⟨_, rfl⟩
  rw [ht, hr] at e
  rw [hr] at hm
  rw [ht, hr, ← e]
  have hMp : 0 < M := by omega
  have h1 := Nat.div_add_mod t M
  have h2 := Nat.mod_lt t hMp
  rw [show (t + r) % M = (t % M + r) % M by rw [Nat.add_mod, Nat.mod_eq_of_lt (show r < M by omega)]]
  rw [Nat.mod_add_mod, show t % M + r + (M - t % M) = r + M by omega, Nat.add_mod_right, Nat.mod_eq_of_lt (by omega)]
end Go.Proofs.YtknafhogaheacaaDoor
namespace Go.Proofs.YtknafhogaheacaaDoor
open Go.RowKit

set_option maxHeartbeats 1000000 in
set_option maxRecDepth 100000 in
theorem div64_low (lo y : Nat) (w : World) (hlo : lo < B) (hy0 : 0 < y) (hy : y < B) :
    Calls Tryd.prog 56 #[.int .u64 0, .int .u64 (lo : Int), .int .u64 (y : Int)] w fun e w' => e = .returned (.tuple #[.int .u64 ((lo / y : Nat) : Int), .int .u64 ((lo % y : Nat) : Int)]) ∧ ∃ n, w' = w.drewN n := by
  have hz : ((y : Int) == 0) = false := by simp; omega
  have hle : decide ((y : Int) ≤ 0) = false := decide_eq_false (by omega)
  have hq : IntKind.u64.wrap ((lo : Int) / (y : Int)) = ((lo / y : Nat) : Int) := by
    have h1 : lo / y ≤ lo := Nat.div_le_self _ _
    rw [show (lo : Int) / (y : Int) = ((lo / y : Nat) : Int) from rfl, IntKind.wrap_u64]
    rw [B_eq] at hlo
    generalize lo / y = d at *
    omega
  go_enter Tryd.func56, Tryd.ntmps56
  go_wp2
  go_quiet (fail)
  go_wp2
  go_ret2
  exact ⟨rfl, _, rfl⟩
theorem dv_norm {hi lo y s : Nat} (hlo : lo < B) (hy : y < B) (hlt : hi < y) (hs : 64 - (bl y : Int) = (s : Int)) :
    s ≤ 63 ∧ y * 2 ^ s < B ∧ 9223372036854775808 ≤ y * 2 ^ s ∧ lo / 2 ^ (64 - s) < 2 ^ s ∧ hi * 2 ^ s + lo / 2 ^ (64 - s) < y * 2 ^ s ∧ (hi * B + lo) * 2 ^ s = (hi * 2 ^ s + lo / 2 ^ (64 - s)) * B + lo * 2 ^ s % B := by
  have hb := bl_pos (show 0 < y by omega)
  have hb2 := bl_lt_word hy
  have hP := Nat.two_pow_pos s
  have hB : B = 2 ^ (64 - s) * 2 ^ s := by rw [B_two, ← Nat.pow_add]; congr 1; omega
  have h1 : y * 2 ^ s < B := by
    have h := Nat.mul_lt_mul_of_pos_right (bl_lt (n := y)) hP
    rw [← Nat.pow_add] at h
    rw [B_two]
    rwa [show bl y + s = 64 by omega] at h
  have h2 : 9223372036854775808 ≤ y * 2 ^ s := by
    have h := Nat.mul_le_mul_right (2 ^ s) (bl_ge (show 0 < y by omega))
    rw [← Nat.pow_add] at h
    rwa [show bl y - 1 + s = 63 by omega] at h
  have h3 : lo / 2 ^ (64 - s) < 2 ^ s := by
    rw [Nat.div_lt_iff_lt_mul (Nat.two_pow_pos _), Nat.mul_comm, ← hB]
    exact hlo
  have h4 : (hi + 1) * 2 ^ s ≤ y * 2 ^ s := Nat.mul_le_mul_right _ hlt
  rw [Nat.add_mul, Nat.one_mul] at h4
  refine ⟨by omega, h1, h2, h3, by omega, ?_⟩
  have h5 : lo * 2 ^ s / B = lo / 2 ^ (64 - s) := by rw [hB]; exact Nat.mul_div_mul_right _ _ hP
  have h6 := Nat.div_add_mod (lo * 2 ^ s) B
  rw [h5] at h6
  rw [Nat.add_mul, Nat.add_mul, Nat.mul_right_comm]
  rw [Nat.mul_comm (lo / 2 ^ (64 - s)) B]
  omega
theorem u64_id {n : Nat} (h : n < B) : IntKind.u64.wrap (n : Int) = (n : Int) := by rw [IntKind.wrap_u64]; rw [B_eq] at h; omega
theorem u64_mul {a b c : Nat} (h : a * b = c) (hc : c < B) : IntKind.u64.wrap ((a : Int) * (b : Int)) = (c : Int) := by
  rw [← Int.natCast_mul, h]; exact u64_id hc
theorem u64_mulm {a b c : Nat} (h : a * b % B = c) : IntKind.u64.wrap ((a : Int) * (b : Int)) = (c : Int) := by
  rw [IntKind.wrap_u64, ← Int.natCast_mul, ← h, B_eq]; rfl
theorem mask32 {v : Nat} (h : v < B) : bits BinOp.and IntKind.u64 (v : Int) 4294967295 = ((v % 4294967296 : Nat) : Int) := by
  rw [show (4294967295 : Int) = ((4294967295 : Nat) : Int) from rfl, u64_and_nat _ _ (by rw [B_eq] at h; exact h) (by omega)]
  congr 1
  exact Nat.and_two_pow_sub_one_eq_mod v 32
set_option maxHeartbeats 8000000 in
set_option maxRecDepth 1000000 in
theorem div64_high (hi lo y s : Nat) (w : World) (h0 : 0 < hi) (hlo : lo < B) (hy : y < B) (hlt : hi < y) (hs : 64 - (bl y : Int) = (s : Int)) :
    Calls Tryd.prog 56 #[.int .u64 (hi : Int), .int .u64 (lo : Int), .int .u64 (y : Int)] w fun e w' => e = .returned (.tuple #[.int .u64 (((hi * B + lo) / y : Nat) : Int), .int .u64 (((hi * B + lo) % y : Nat) : Int)]) ∧ ∃ n, w' = w.drewN n := by
  obtain ⟨n1, n2, n3, n4, n5, n6⟩ := dv_norm hlo hy hlt hs
  have hz : ((y : Int) == 0) = false := by simp; omega
  have hle : decide ((y : Int) ≤ (hi : Int)) = false := decide_eq_false (by omega)
  have hh : ((hi : Int) == 0) = false := by simp; omega
  have hlz := fun w => lz64 y w hy
  rw [hs] at hlz
  have hP : 0 < 2 ^ s := Nat.two_pow_pos s
  have hsh := dv_shift (x := hi * B + lo) (y := y) hP
  rw [n6] at hsh
  have hpw : (2 : Int) ^ s = ((2 ^ s : Nat) : Int) := by push_cast; rfl
  obtain ⟨s2, hs2⟩ : ∃ s2, 64 - s = s2 := ⟨_, rfl⟩
  have hpw2 : (2 : Int) ^ s2 = ((2 ^ s2 : Nat) : Int) := by push_cast; rfl
  have f1 : IntKind.u64.wrap (s : Int) = (s : Int) := u64_id (by rw [B_eq]; omega)
  have f2 : min s 64 = s := by omega
  have f3 : IntKind.u64.wrap (64 - (s : Int)) = (s2 : Int) := by rw [IntKind.wrap_u64]; omega
  have f4 : min s2 64 = s2 := by omega
  rw [hs2] at n4 n5 n6 hsh
  have hfy : IntKind.u64.wrap ((y : Int) * 2 ^ s) = ((y * 2 ^ s : Nat) : Int) := by rw [hpw]; exact u64_mul rfl n2
  have hfv : IntKind.u64.wrap ((lo : Int) * 2 ^ s) = ((lo * 2 ^ s % B : Nat) : Int) := by rw [hpw]; exact u64_mulm rfl
  have hfu : bits BinOp.or IntKind.u64 (IntKind.u64.wrap ((hi : Int) * 2 ^ s)) ((lo : Int) / 2 ^ s2) = ((hi * 2 ^ s + lo / 2 ^ s2 : Nat) : Int) := by
    have g1 : hi * 2 ^ s < B := by
      have := Nat.mul_le_mul_right (2 ^ s) (Nat.le_of_lt hlt)
      omega
    rw [hpw, hpw2, u64_mul rfl g1, show (lo : Int) / ((2 ^ s2 : Nat) : Int) = ((lo / 2 ^ s2 : Nat) : Int) from rfl]
    have g2 : lo / 2 ^ s2 ≤ lo := Nat.div_le_self _ _
    rw [u64_or_nat _ _ (by rw [← B_eq]; exact g1) (by rw [← B_eq]; omega), nat_join s _ _ (Nat.mul_mod_left _ _) n4]
  have hRR : ∀ R : Nat, (R : Int) / 2 ^ s = ((R / 2 ^ s : Nat) : Int) := fun R => by rw [hpw]; rfl
  obtain ⟨Y, hYd⟩ : ∃ Y, y * 2 ^ s = Y := ⟨_, rfl⟩
  obtain ⟨U, hUd⟩ : ∃ U, hi * 2 ^ s + lo / 2 ^ s2 = U := ⟨_, rfl⟩
  obtain ⟨V, hVd⟩ : ∃ V, lo * 2 ^ s % B = V := ⟨_, rfl⟩
  have hVl : V < B := by rw [← hVd]; exact mod_B_lt _
  rw [hYd] at n2 n3 n5 hfy hsh
  rw [hUd] at n5 hfu hsh
  rw [hVd] at hfv hsh
  clear n6 n4 hpw hpw2 hYd hUd hVd hs2 hs hP
  obtain ⟨y1, hy1⟩ : ∃ y1, Y / 4294967296 = y1 := ⟨_, rfl⟩
  obtain ⟨y0, hy0⟩ : ∃ y0, Y % 4294967296 = y0 := ⟨_, rfl⟩
  obtain ⟨u1, hu1⟩ : ∃ u1, V / 4294967296 = u1 := ⟨_, rfl⟩
  obtain ⟨u0, hu0⟩ : ∃ u0, V % 4294967296 = u0 := ⟨_, rfl⟩
  have f9 : (Y : Int) / 4294967296 = (y1 : Int) := by omega
  have f10 : bits BinOp.and IntKind.u64 (Y : Int) 4294967295 = (y0 : Int) := by rw [mask32 n2, hy0]
  have f13 : (V : Int) / 4294967296 = (u1 : Int) := by omega
  have f14 : bits BinOp.and IntKind.u64 (V : Int) 4294967295 = (u0 : Int) := by rw [mask32 hVl, hu0]
  rw [B_eq] at n2 hVl
  have hYs : Y = y1 * 4294967296 + y0 := by omega
  have hVs : V = u1 * 4294967296 + u0 := by omega
  have hy1h : 4294967296 ≤ 2 * y1 := by omega
  have hy1l : y1 < 4294967296 := by omega
  have hy0lt : y0 < 4294967296 := by omega
  have u1lt : u1 < 4294967296 := by omega
  have u0lt : u0 < 4294967296 := by omega
  have Ult : U < Y := n5
  have hYp : 0 < Y := by omega
  have hy1n : ¬ y1 = 0 := by omega
  have hUl : U < 18446744073709551616 := by omega
  clear hy1 hy0 hu1 hu0 n5
  -- the first half digit
  obtain ⟨i1, i2, i3⟩ := dv_init hYs hy1h (by omega) hy0lt Ult u1lt
  obtain ⟨t1, t2⟩ := dv_two (H := 4294967296) (U := U) (a := u1) (b := u0) hYp
  rw [← hVs] at t1 t2
  rw [show (4294967296 * 4294967296 : Nat) = B by rw [B_eq]] at t1 t2
  obtain ⟨q0, hq0⟩ : ∃ q0, U / y1 = q0 := ⟨_, rfl⟩
  obtain ⟨r0, hr0⟩ : ∃ r0, U % y1 = r0 := ⟨_, rfl⟩
  have hr0l : r0 < y1 := by rw [← hr0]; exact Nat.mod_lt _ (by omega)
  rw [hq0] at i1 i2
  rw [hq0, hr0] at i3
  have f15 : IntKind.u64.wrap ((U : Int) / (y1 : Int)) = (q0 : Int) := by
    rw [show (U : Int) / (y1 : Int) = ((U / y1 : Nat) : Int) from rfl, hq0]; exact u64_id (by rw [B_eq]; omega)
  obtain ⟨T, hTd⟩ : ∃ T, q0 * y1 = T := ⟨_, rfl⟩
  have f16 : IntKind.u64.wrap ((q0 : Int) * (y1 : Int)) = (T : Int) := u64_mul hTd (by rw [B_eq]; omega)
  have f17 : IntKind.u64.wrap ((U : Int) - (T : Int)) = (r0 : Int) := by rw [IntKind.wrap_u64]; omega
  obtain ⟨Q1, hQ1⟩ : ∃ Q1, (U * 4294967296 + u1) / Y = Q1 := ⟨_, rfl⟩
  obtain ⟨U2, hU2⟩ : ∃ U2, (U * 4294967296 + u1) % Y = U2 := ⟨_, rfl⟩
  have U2lt : U2 < Y := by rw [← hU2]; exact Nat.mod_lt _ hYp
  have Q1lt : Q1 < 4294967296 := by rw [← hQ1]; exact dv_lt Ult u1lt
  have hmid := dv_mid (N := U * 4294967296 + u1) (y := Y) (M := 18446744073709551616) hYp (by omega)
  rw [hQ1, hU2] at hmid
  rw [hQ1, hU2] at t1
  rw [hU2] at t2
  obtain ⟨a1, ha1⟩ : ∃ a1, U * 4294967296 % 18446744073709551616 = a1 := ⟨_, rfl⟩
  have g1 : IntKind.u64.wrap ((U : Int) * 4294967296) = (a1 : Int) := by rw [IntKind.wrap_u64]; omega
  obtain ⟨a2, ha2⟩ : ∃ a2, (U * 4294967296 + u1) % 18446744073709551616 = a2 := ⟨_, rfl⟩
  have g2 : IntKind.u64.wrap ((a1 : Int) + (u1 : Int)) = (a2 : Int) := by rw [IntKind.wrap_u64]; omega
  obtain ⟨a3, ha3⟩ : ∃ a3, Q1 * Y % 18446744073709551616 = a3 := ⟨_, rfl⟩
  have g3 : IntKind.u64.wrap ((Q1 : Int) * (Y : Int)) = (a3 : Int) := u64_mulm (by rw [B_eq]; exact ha3)
  have ha3l : a3 < 18446744073709551616 := by rw [← ha3]; exact Nat.mod_lt _ (by omega)
  rw [ha2, ha3] at hmid
  have g4 : IntKind.u64.wrap ((a2 : Int) - (a3 : Int)) = (U2 : Int) := by rw [IntKind.wrap_u64]; omega
  have HI1 := Lib.hid (And.intro i3 (And.intro (show (U * 4294967296 + u1) / Y ≤ q0 from i1) (And.intro i2 (show r0 < 4294967296 by omega))))
  clear ha1 ha2 ha3 hmid hTd hq0 hr0 i1 i2 i3 hU2
  -- the second half digit
  obtain ⟨i1, i2, i3⟩ := dv_init hYs hy1h (by omega) hy0lt U2lt u0lt
  obtain ⟨p0, hp0⟩ : ∃ p0, U2 / y1 = p0 := ⟨_, rfl⟩
  obtain ⟨r1, hr1⟩ : ∃ r1, U2 % y1 = r1 := ⟨_, rfl⟩
  have hr1l : r1 < y1 := by rw [← hr1]; exact Nat.mod_lt _ (by omega)
  rw [hp0] at i1 i2
  rw [hp0, hr1] at i3
  have g5 : IntKind.u64.wrap ((U2 : Int) / (y1 : Int)) = (p0 : Int) := by
    rw [show (U2 : Int) / (y1 : Int) = ((U2 / y1 : Nat) : Int) from rfl, hp0]; exact u64_id (by rw [B_eq]; omega)
  obtain ⟨T2, hT2⟩ : ∃ T2, p0 * y1 = T2 := ⟨_, rfl⟩
  have g6 : IntKind.u64.wrap ((p0 : Int) * (y1 : Int)) = (T2 : Int) := u64_mul hT2 (by rw [B_eq]; omega)
  have g7 : IntKind.u64.wrap ((U2 : Int) - (T2 : Int)) = (r1 : Int) := by rw [IntKind.wrap_u64]; omega
  obtain ⟨Q0, hQ0⟩ : ∃ Q0, (U2 * 4294967296 + u0) / Y = Q0 := ⟨_, rfl⟩
  obtain ⟨R, hRd⟩ : ∃ R, (U2 * 4294967296 + u0) % Y = R := ⟨_, rfl⟩
  have hRl : R < Y := by rw [← hRd]; exact Nat.mod_lt _ hYp
  have Q0lt : Q0 < 4294967296 := by rw [← hQ0]; exact dv_lt U2lt u0lt
  have hmid := dv_mid (N := U2 * 4294967296 + u0) (y := Y) (M := 18446744073709551616) hYp (by omega)
  rw [hQ0, hRd] at hmid
  rw [hQ0] at t1
  rw [hRd] at t2
  obtain ⟨b1, hb1⟩ : ∃ b1, Q1 * 4294967296 = b1 := ⟨_, rfl⟩
  have k1 : IntKind.u64.wrap ((Q1 : Int) * 4294967296) = (b1 : Int) := by rw [IntKind.wrap_u64]; omega
  obtain ⟨QQ, hQQ⟩ : ∃ QQ, b1 + Q0 = QQ := ⟨_, rfl⟩
  have k2 : IntKind.u64.wrap ((b1 : Int) + (Q0 : Int)) = (QQ : Int) := by rw [IntKind.wrap_u64]; omega
  obtain ⟨c1, hc1⟩ : ∃ c1, U2 * 4294967296 % 18446744073709551616 = c1 := ⟨_, rfl⟩
  have k3 : IntKind.u64.wrap ((U2 : Int) * 4294967296) = (c1 : Int) := by rw [IntKind.wrap_u64]; omega
  obtain ⟨c2, hc2⟩ : ∃ c2, (U2 * 4294967296 + u0) % 18446744073709551616 = c2 := ⟨_, rfl⟩
  have k4 : IntKind.u64.wrap ((c1 : Int) + (u0 : Int)) = (c2 : Int) := by rw [IntKind.wrap_u64]; omega
  obtain ⟨c3, hc3⟩ : ∃ c3, Q0 * Y % 18446744073709551616 = c3 := ⟨_, rfl⟩
  have k5 : IntKind.u64.wrap ((Q0 : Int) * (Y : Int)) = (c3 : Int) := u64_mulm (by rw [B_eq]; exact hc3)
  have hc3l : c3 < 18446744073709551616 := by rw [← hc3]; exact Nat.mod_lt _ (by omega)
  rw [hc2, hc3] at hmid
  have k6 : IntKind.u64.wrap ((c2 : Int) - (c3 : Int)) = (R : Int) := by rw [IntKind.wrap_u64]; omega
  have k7 := hRR R
  obtain ⟨RR, hRRd⟩ : ∃ RR, R / 2 ^ s = RR := ⟨_, rfl⟩
  rw [hRRd] at k7
  have HEND := Lib.hid (show (hi * B + lo) / y = QQ ∧ (hi * B + lo) % y = RR from by
    rw [← hsh.1, ← hsh.2, ← t1, ← t2, hb1, hQQ, hRRd]
    exact ⟨rfl, rfl⟩)
  have HI2 := Lib.hid (And.intro i3 (And.intro (show (U2 * 4294967296 + u0) / Y ≤ p0 from i1) (And.intro i2 (show r1 < 4294967296 by omega))))
  have HQ1 := Lib.hid hQ1
  have HQ0 := Lib.hid hQ0
  have HY1 := Lib.hid hYs
  clear hc1 hc2 hc3 hmid hT2 hp0 hr1 i1 i2 i3 hRd hb1 hQQ hRRd hsh t1 t2 hQ1 hQ0 hYs hVs hRR n1 n3
  go_enter Tryd.func56, Tryd.ntmps56
  go_wp2_with (go_at_call 40; refine (hlz _).mono ?_; rintro e w2 ⟨rfl, rfl⟩)
  go_loopw [15, 16] (fun v1 v2 wr => ∃ q r : Nat, v1 = .int .u64 q ∧ v2 = .int .u64 r ∧ U = q * y1 + r ∧ (U * 4294967296 + u1) / Y ≤ q ∧ q ≤ 4294967297 ∧ r < 4294967296 ∧ w = wr) (fun v1 _ _ => (intOf v1).toNat)
  case atStart => exact ⟨_, _, rfl, rfl, HI1.out.1, HI1.out.2.1, HI1.out.2.2.1, HI1.out.2.2.2, by first | rfl | trivial⟩
  case round =>
    obtain ⟨q, r, rfl, rfl, hJ1, hJ2, hJ3, hJ4, rfl⟩ := hrel
    by_cases hqH : 4294967296 ≤ q
    · have d0 : decide ((4294967296 : Int) ≤ (q : Int)) = true := decide_eq_true (by omega)
      obtain ⟨e1, e2, e3⟩ := dv_step HY1.out Ult u1lt (.inl hqH) hJ1 hJ2
      obtain ⟨t, ht⟩ : ∃ t, q - 1 = t := ⟨_, rfl⟩
      obtain ⟨r2, hr2⟩ : ∃ r2, r + y1 = r2 := ⟨_, rfl⟩
      rw [ht] at e2 e3
      rw [hr2] at e3
      have d1 : IntKind.u64.wrap ((q : Int) - 1) = (t : Int) := by rw [IntKind.wrap_u64]; omega
      have d2 : IntKind.u64.wrap ((r : Int) + (y1 : Int)) = (r2 : Int) := by rw [IntKind.wrap_u64]; omega
      have hmt : t < q := by omega
      have ht4 : t ≤ 4294967296 := by omega
      by_cases hr4 : 4294967296 ≤ r2
      · have d3 : decide ((4294967296 : Int) ≤ (r2 : Int)) = true := decide_eq_true (by omega)
        have hfin := dv_break HY1.out hYp hy0lt hr4 ht4 e3 e2
        rw [show (U * 4294967296 + u1) / Y = Q1 from HQ1.out] at hfin
        clear ht hr2 hmt e1 e2 e3 hJ1 hJ2 hJ3 hJ4 hr4 ht4
        subst hfin
        go_wp2
        go_loopw [18, 16] (fun v1 v2 wr => ∃ q r : Nat, v1 = .int .u64 q ∧ v2 = .int .u64 r ∧ U2 = q * y1 + r ∧ (U2 * 4294967296 + u0) / Y ≤ q ∧ q ≤ 4294967297 ∧ r < 4294967296 ∧ w = wr) (fun v1 _ _ => (intOf v1).toNat)
        case atStart => exact ⟨_, _, rfl, rfl, HI2.out.1, HI2.out.2.1, HI2.out.2.2.1, HI2.out.2.2.2, by first | rfl | trivial⟩
        case round =>
          obtain ⟨q, r, rfl, rfl, hJ1, hJ2, hJ3, hJ4, rfl⟩ := hrel
          by_cases hqH : 4294967296 ≤ q
          · have d0 : decide ((4294967296 : Int) ≤ (q : Int)) = true := decide_eq_true (by omega)
            obtain ⟨e1, e2, e3⟩ := dv_step HY1.out U2lt u0lt (.inl hqH) hJ1 hJ2
            obtain ⟨t, ht⟩ : ∃ t, q - 1 = t := ⟨_, rfl⟩
            obtain ⟨r2, hr2⟩ : ∃ r2, r + y1 = r2 := ⟨_, rfl⟩
            rw [ht] at e2 e3
            rw [hr2] at e3
            have d1 : IntKind.u64.wrap ((q : Int) - 1) = (t : Int) := by rw [IntKind.wrap_u64]; omega
            have d2 : IntKind.u64.wrap ((r : Int) + (y1 : Int)) = (r2 : Int) := by rw [IntKind.wrap_u64]; omega
            have hmt : t < q := by omega
            have ht4 : t ≤ 4294967296 := by omega
            by_cases hr4 : 4294967296 ≤ r2
            · have d3 : decide ((4294967296 : Int) ≤ (r2 : Int)) = true := decide_eq_true (by omega)
              have hfin := dv_break HY1.out hYp hy0lt hr4 ht4 e3 e2
              rw [show (U2 * 4294967296 + u0) / Y = Q0 from HQ0.out] at hfin
              clear ht hr2 hmt e1 e2 e3 hJ1 hJ2 hJ3 hJ4 hr4 ht4
              subst hfin
              go_wp2
              go_ret2
              refine ⟨?_, 0, rfl⟩
              rw [HEND.out.1, HEND.out.2]
              rfl
            · have d3 : decide ((4294967296 : Int) ≤ (r2 : Int)) = false := decide_eq_false (by omega)
              have HR := Lib.hid (And.intro e3 (And.intro e2 (And.intro (show t ≤ 4294967297 by omega) (And.intro (show r2 < 4294967296 by omega) hmt))))
              clear ht hr2 hmt e1 e2 e3 hJ1 hJ2 hJ3 hJ4 hr4 ht4
              go_wp2
              go_roundw
              case rel => exact ⟨t, r2, rfl, rfl, HR.out.1, HR.out.2.1, HR.out.2.2.1, HR.out.2.2.2.1, by first | rfl | trivial⟩
              case measure => have := HR.out.2.2.2.2; simp [intOf]; omega
          · have d0 : decide ((4294967296 : Int) ≤ (q : Int)) = false := decide_eq_false (by omega)
            obtain ⟨M, hM⟩ : ∃ M, q * y0 = M := ⟨_, rfl⟩
            have hMl : M < B := by
              have h1 : q * y0 ≤ 4294967295 * 4294967295 := Nat.mul_le_mul (by omega) (by omega)
              rw [B_eq]; omega
            have w1 : IntKind.u64.wrap ((q : Int) * (y0 : Int)) = (M : Int) := u64_mul hM hMl
            obtain ⟨Z, hZd⟩ : ∃ Z, 4294967296 * r = Z := ⟨_, rfl⟩
            have w2 : IntKind.u64.wrap (4294967296 * (r : Int)) = (Z : Int) := by rw [IntKind.wrap_u64]; omega
            obtain ⟨S, hSd⟩ : ∃ S, Z + u0 = S := ⟨_, rfl⟩
            have w3 : IntKind.u64.wrap ((Z : Int) + (u0 : Int)) = (S : Int) := by rw [IntKind.wrap_u64]; omega
            by_cases hgt : S < M
            · have w4 : decide (S < M) = true := decide_eq_true hgt
              have hC : r * 4294967296 + u0 < q * y0 := by rw [hM]; omega
              clear hM hZd hSd hMl hgt
              obtain ⟨e1, e2, e3⟩ := dv_step HY1.out U2lt u0lt (.inr hC) hJ1 hJ2
              obtain ⟨t, ht⟩ : ∃ t, q - 1 = t := ⟨_, rfl⟩
              obtain ⟨r2, hr2⟩ : ∃ r2, r + y1 = r2 := ⟨_, rfl⟩
              rw [ht] at e2 e3
              rw [hr2] at e3
              have d1 : IntKind.u64.wrap ((q : Int) - 1) = (t : Int) := by rw [IntKind.wrap_u64]; omega
              have d2 : IntKind.u64.wrap ((r : Int) + (y1 : Int)) = (r2 : Int) := by rw [IntKind.wrap_u64]; omega
              have hmt : t < q := by omega
              have ht4 : t ≤ 4294967296 := by omega
              by_cases hr4 : 4294967296 ≤ r2
              · have d3 : decide ((4294967296 : Int) ≤ (r2 : Int)) = true := decide_eq_true (by omega)
                have hfin := dv_break HY1.out hYp hy0lt hr4 ht4 e3 e2
                rw [show (U2 * 4294967296 + u0) / Y = Q0 from HQ0.out] at hfin
                clear hC ht hr2 hmt e1 e2 e3 hJ1 hJ2 hJ3 hJ4 hr4 ht4
                subst hfin
                go_wp2
                go_ret2
                refine ⟨?_, 0, rfl⟩
                rw [HEND.out.1, HEND.out.2]
                rfl
              · have d3 : decide ((4294967296 : Int) ≤ (r2 : Int)) = false := decide_eq_false (by omega)
                have HR := Lib.hid (And.intro e3 (And.intro e2 (And.intro (show t ≤ 4294967297 by omega) (And.intro (show r2 < 4294967296 by omega) hmt))))
                clear hC ht hr2 hmt e1 e2 e3 hJ1 hJ2 hJ3 hJ4 hr4 ht4
                go_wp2
                go_roundw
                case rel => exact ⟨t, r2, rfl, rfl, HR.out.1, HR.out.2.1, HR.out.2.2.1, HR.out.2.2.2.1, by first | rfl | trivial⟩
                case measure => have := HR.out.2.2.2.2; simp [intOf]; omega
            · have w4 : decide (S < M) = false := decide_eq_false hgt
              have hfin := dv_done HY1.out hYp (by rw [hM]; omega) hJ1 hJ2
              rw [show (U2 * 4294967296 + u0) / Y = Q0 from HQ0.out] at hfin
              clear hM hZd hSd hMl hgt hJ1 hJ2 hJ3 hJ4 hqH
              subst hfin
              go_wp2
              go_ret2
              refine ⟨?_, 0, rfl⟩
              rw [HEND.out.1, HEND.out.2]
              rfl
      · have d3 : decide ((4294967296 : Int) ≤ (r2 : Int)) = false := decide_eq_false (by omega)
        have HR := Lib.hid (And.intro e3 (And.intro e2 (And.intro (show t ≤ 4294967297 by omega) (And.intro (show r2 < 4294967296 by omega) hmt))))
        clear ht hr2 hmt e1 e2 e3 hJ1 hJ2 hJ3 hJ4 hr4 ht4
        go_wp2
        go_roundw
        case rel => exact ⟨t, r2, rfl, rfl, HR.out.1, HR.out.2.1, HR.out.2.2.1, HR.out.2.2.2.1, by first | rfl | trivial⟩
        case measure => have := HR.out.2.2.2.2; simp [intOf]; omega
    · have d0 : decide ((4294967296 : Int) ≤ (q : Int)) = false := decide_eq_false (by omega)
      obtain ⟨M, hM⟩ : ∃ M, q * y0 = M := ⟨_, rfl⟩
      have hMl : M < B := by
        have h1 : q * y0 ≤ 4294967295 * 4294967295 := Nat.mul_le_mul (by omega) (by omega)
        rw [B_eq]; omega
      have w1 : IntKind.u64.wrap ((q : Int) * (y0 : Int)) = (M : Int) := u64_mul hM hMl
      obtain ⟨Z, hZd⟩ : ∃ Z, 4294967296 * r = Z := ⟨_, rfl⟩
      have w2 : IntKind.u64.wrap (4294967296 * (r : Int)) = (Z : Int) := by rw [IntKind.wrap_u64]; omega
      obtain ⟨S, hSd⟩ : ∃ S, Z + u1 = S := ⟨_, rfl⟩
      have w3 : IntKind.u64.wrap ((Z : Int) + (u1 : Int)) = (S : Int) := by rw [IntKind.wrap_u64]; omega
      by_cases hgt : S < M
      · have w4 : decide (S < M) = true := decide_eq_true hgt
        have hC : r * 4294967296 + u1 < q * y0 := by rw [hM]; omega
        clear hM hZd hSd hMl hgt
        obtain ⟨e1, e2, e3⟩ := dv_step HY1.out Ult u1lt (.inr hC) hJ1 hJ2
        obtain ⟨t, ht⟩ : ∃ t, q - 1 = t := ⟨_, rfl⟩
        obtain ⟨r2, hr2⟩ : ∃ r2, r + y1 = r2 := ⟨_, rfl⟩
        rw [ht] at e2 e3
        rw [hr2] at e3
        have d1 : IntKind.u64.wrap ((q : Int) - 1) = (t : Int) := by rw [IntKind.wrap_u64]; omega
        have d2 : IntKind.u64.wrap ((r : Int) + (y1 : Int)) = (r2 : Int) := by rw [IntKind.wrap_u64]; omega
        have hmt : t < q := by omega
        have ht4 : t ≤ 4294967296 := by omega
        by_cases hr4 : 4294967296 ≤ r2
        · have d3 : decide ((4294967296 : Int) ≤ (r2 : Int)) = true := decide_eq_true (by omega)
          have hfin := dv_break HY1.out hYp hy0lt hr4 ht4 e3 e2
          rw [show (U * 4294967296 + u1) / Y = Q1 from HQ1.out] at hfin
          clear hC ht hr2 hmt e1 e2 e3 hJ1 hJ2 hJ3 hJ4 hr4 ht4
          subst hfin
          go_wp2
          go_loopw [18, 16] (fun v1 v2 wr => ∃ q r : Nat, v1 = .int .u64 q ∧ v2 = .int .u64 r ∧ U2 = q * y1 + r ∧ (U2 * 4294967296 + u0) / Y ≤ q ∧ q ≤ 4294967297 ∧ r < 4294967296 ∧ w = wr) (fun v1 _ _ => (intOf v1).toNat)
          case atStart => exact ⟨_, _, rfl, rfl, HI2.out.1, HI2.out.2.1, HI2.out.2.2.1, HI2.out.2.2.2, by first | rfl | trivial⟩
          case round =>
            obtain ⟨q, r, rfl, rfl, hJ1, hJ2, hJ3, hJ4, rfl⟩ := hrel
            by_cases hqH : 4294967296 ≤ q
            · have d0 : decide ((4294967296 : Int) ≤ (q : Int)) = true := decide_eq_true (by omega)
              obtain ⟨e1, e2, e3⟩ := dv_step HY1.out U2lt u0lt (.inl hqH) hJ1 hJ2
              obtain ⟨t, ht⟩ : ∃ t, q - 1 = t := ⟨_, rfl⟩
              obtain ⟨r2, hr2⟩ : ∃ r2, r + y1 = r2 := ⟨_, rfl⟩
              rw [ht] at e2 e3
              rw [hr2] at e3
              have d1 : IntKind.u64.wrap ((q : Int) - 1) = (t : Int) := by rw [IntKind.wrap_u64]; omega
              have d2 : IntKind.u64.wrap ((r : Int) + (y1 : Int)) = (r2 : Int) := by rw [IntKind.wrap_u64]; omega
              have hmt : t < q := by omega
              have ht4 : t ≤ 4294967296 := by omega
              by_cases hr4 : 4294967296 ≤ r2
              · have d3 : decide ((4294967296 : Int) ≤ (r2 : Int)) = true := decide_eq_true (by omega)
                have hfin := dv_break HY1.out hYp hy0lt hr4 ht4 e3 e2
                rw [show (U2 * 4294967296 + u0) / Y = Q0 from HQ0.out] at hfin
                clear ht hr2 hmt e1 e2 e3 hJ1 hJ2 hJ3 hJ4 hr4 ht4
                subst hfin
                go_wp2
                go_ret2
                refine ⟨?_, 0, rfl⟩
                rw [HEND.out.1, HEND.out.2]
                rfl
              · have d3 : decide ((4294967296 : Int) ≤ (r2 : Int)) = false := decide_eq_false (by omega)
                have HR := Lib.hid (And.intro e3 (And.intro e2 (And.intro (show t ≤ 4294967297 by omega) (And.intro (show r2 < 4294967296 by omega) hmt))))
                clear ht hr2 hmt e1 e2 e3 hJ1 hJ2 hJ3 hJ4 hr4 ht4
                go_wp2
                go_roundw
                case rel => exact ⟨t, r2, rfl, rfl, HR.out.1, HR.out.2.1, HR.out.2.2.1, HR.out.2.2.2.1, by first | rfl | trivial⟩
                case measure => have := HR.out.2.2.2.2; simp [intOf]; omega
            · have d0 : decide ((4294967296 : Int) ≤ (q : Int)) = false := decide_eq_false (by omega)
              obtain ⟨M, hM⟩ : ∃ M, q * y0 = M := ⟨_, rfl⟩
              have hMl : M < B := by
                have h1 : q * y0 ≤ 4294967295 * 4294967295 := Nat.mul_le_mul (by omega) (by omega)
                rw [B_eq]; omega
              have w1 : IntKind.u64.wrap ((q : Int) * (y0 : Int)) = (M : Int) := u64_mul hM hMl
              obtain ⟨Z, hZd⟩ : ∃ Z, 4294967296 * r = Z := ⟨_, rfl⟩
              have w2 : IntKind.u64.wrap (4294967296 * (r : Int)) = (Z : Int) := by rw [IntKind.wrap_u64]; omega
              obtain ⟨S, hSd⟩ : ∃ S, Z + u0 = S := ⟨_, rfl⟩
              have w3 : IntKind.u64.wrap ((Z : Int) + (u0 : Int)) = (S : Int) := by rw [IntKind.wrap_u64]; omega
              by_cases hgt : S < M
              · have w4 : decide (S < M) = true := decide_eq_true hgt
                have hC : r * 4294967296 + u0 < q * y0 := by rw [hM]; omega
                clear hM hZd hSd hMl hgt
                obtain ⟨e1, e2, e3⟩ := dv_step HY1.out U2lt u0lt (.inr hC) hJ1 hJ2
                obtain ⟨t, ht⟩ : ∃ t, q - 1 = t := ⟨_, rfl⟩
                obtain ⟨r2, hr2⟩ : ∃ r2, r + y1 = r2 := ⟨_, rfl⟩
                rw [ht] at e2 e3
                rw [hr2] at e3
                have d1 : IntKind.u64.wrap ((q : Int) - 1) = (t : Int) := by rw [IntKind.wrap_u64]; omega
                have d2 : IntKind.u64.wrap ((r : Int) + (y1 : Int)) = (r2 : Int) := by rw [IntKind.wrap_u64]; omega
                have hmt : t < q := by omega
                have ht4 : t ≤ 4294967296 := by omega
                by_cases hr4 : 4294967296 ≤ r2
                · have d3 : decide ((4294967296 : Int) ≤ (r2 : Int)) = true := decide_eq_true (by omega)
                  have hfin := dv_break HY1.out hYp hy0lt hr4 ht4 e3 e2
                  rw [show (U2 * 4294967296 + u0) / Y = Q0 from HQ0.out] at hfin
                  clear hC ht hr2 hmt e1 e2 e3 hJ1 hJ2 hJ3 hJ4 hr4 ht4
                  subst hfin
                  go_wp2
                  go_ret2
                  refine ⟨?_, 0, rfl⟩
                  rw [HEND.out.1, HEND.out.2]
                  rfl
                · have d3 : decide ((4294967296 : Int) ≤ (r2 : Int)) = false := decide_eq_false (by omega)
                  have HR := Lib.hid (And.intro e3 (And.intro e2 (And.intro (show t ≤ 4294967297 by omega) (And.intro (show r2 < 4294967296 by omega) hmt))))
                  clear hC ht hr2 hmt e1 e2 e3 hJ1 hJ2 hJ3 hJ4 hr4 ht4
                  go_wp2
                  go_roundw
                  case rel => exact ⟨t, r2, rfl, rfl, HR.out.1, HR.out.2.1, HR.out.2.2.1, HR.out.2.2.2.1, by first | rfl | trivial⟩
                  case measure => have := HR.out.2.2.2.2; simp [intOf]; omega
              · have w4 : decide (S < M) = false := decide_eq_false hgt
                have hfin := dv_done HY1.out hYp (by rw [hM]; omega) hJ1 hJ2
                rw [show (U2 * 4294967296 + u0) / Y = Q0 from HQ0.out] at hfin
                clear hM hZd hSd hMl hgt hJ1 hJ2 hJ3 hJ4 hqH
                subst hfin
                go_wp2
                go_ret2
                refine ⟨?_, 0, rfl⟩
                rw [HEND.out.1, HEND.out.2]
                rfl
        · have d3 : decide ((4294967296 : Int) ≤ (r2 : Int)) = false := decide_eq_false (by omega)
          have HR := Lib.hid (And.intro e3 (And.intro e2 (And.intro (show t ≤ 4294967297 by omega) (And.intro (show r2 < 4294967296 by omega) hmt))))
          clear hC ht hr2 hmt e1 e2 e3 hJ1 hJ2 hJ3 hJ4 hr4 ht4
          go_wp2
          go_roundw
          case rel => exact ⟨t, r2, rfl, rfl, HR.out.1, HR.out.2.1, HR.out.2.2.1, HR.out.2.2.2.1, by first | rfl | trivial⟩
          case measure => have := HR.out.2.2.2.2; simp [intOf]; omega
      · have w4 : decide (S < M) = false := decide_eq_false hgt
        have hfin := dv_done HY1.out hYp (by rw [hM]; omega) hJ1 hJ2
        rw [show (U * 4294967296 + u1) / Y = Q1 from HQ1.out] at hfin
        clear hM hZd hSd hMl hgt hJ1 hJ2 hJ3 hJ4 hqH
        subst hfin
        go_wp2
        go_loopw [18, 16] (fun v1 v2 wr => ∃ q r : Nat, v1 = .int .u64 q ∧ v2 = .int .u64 r ∧ U2 = q * y1 + r ∧ (U2 * 4294967296 + u0) / Y ≤ q ∧ q ≤ 4294967297 ∧ r < 4294967296 ∧ w = wr) (fun v1 _ _ => (intOf v1).toNat)
        case atStart => exact ⟨_, _, rfl, rfl, HI2.out.1, HI2.out.2.1, HI2.out.2.2.1, HI2.out.2.2.2, by first | rfl | trivial⟩
        case round =>
          obtain ⟨q, r, rfl, rfl, hJ1, hJ2, hJ3, hJ4, rfl⟩ := hrel
          by_cases hqH : 4294967296 ≤ q
          · have d0 : decide ((4294967296 : Int) ≤ (q : Int)) = true := decide_eq_true (by omega)
            obtain ⟨e1, e2, e3⟩ := dv_step HY1.out U2lt u0lt (.inl hqH) hJ1 hJ2
            obtain ⟨t, ht⟩ : ∃ t, q - 1 = t := ⟨_, rfl⟩
            obtain ⟨r2, hr2⟩ : ∃ r2, r + y1 = r2 := ⟨_, rfl⟩
            rw [ht] at e2 e3
            rw [hr2] at e3
            have d1 : IntKind.u64.wrap ((q : Int) - 1) = (t : Int) := by rw [IntKind.wrap_u64]; omega
            have d2 : IntKind.u64.wrap ((r : Int) + (y1 : Int)) = (r2 : Int) := by rw [IntKind.wrap_u64]; omega
            have hmt : t < q := by omega
            have ht4 : t ≤ 4294967296 := by omega
            by_cases hr4 : 4294967296 ≤ r2
            · have d3 : decide ((4294967296 : Int) ≤ (r2 : Int)) = true := decide_eq_true (by omega)
              have hfin := dv_break HY1.out hYp hy0lt hr4 ht4 e3 e2
              rw [show (U2 * 4294967296 + u0) / Y = Q0 from HQ0.out] at hfin
              clear ht hr2 hmt e1 e2 e3 hJ1 hJ2 hJ3 hJ4 hr4 ht4
              subst hfin
              go_wp2
              go_ret2
              refine ⟨?_, 0, rfl⟩
              rw [HEND.out.1, HEND.out.2]
              rfl
            · have d3 : decide ((4294967296 : Int) ≤ (r2 : Int)) = false := decide_eq_false (by omega)
              have HR := Lib.hid (And.intro e3 (And.intro e2 (And.intro (show t ≤ 4294967297 by omega) (And.intro (show r2 < 4294967296 by omega) hmt))))
              clear ht hr2 hmt e1 e2 e3 hJ1 hJ2 hJ3 hJ4 hr4 ht4
              go_wp2
              go_roundw
              case rel => exact ⟨t, r2, rfl, rfl, HR.out.1, HR.out.2.1, HR.out.2.2.1, HR.out.2.2.2.1, by first | rfl | trivial⟩
              case measure => have := HR.out.2.2.2.2; simp [intOf]; omega
          · have d0 : decide ((4294967296 : Int) ≤ (q : Int)) = false := decide_eq_false (by omega)
            obtain ⟨M, hM⟩ : ∃ M, q * y0 = M := ⟨_, rfl⟩
            have hMl : M < B := by
              have h1 : q * y0 ≤ 4294967295 * 4294967295 := Nat.mul_le_mul (by omega) (by omega)
              rw [B_eq]; omega
            have w1 : IntKind.u64.wrap ((q : Int) * (y0 : Int)) = (M : Int) := u64_mul hM hMl
            obtain ⟨Z, hZd⟩ : ∃ Z, 4294967296 * r = Z := ⟨_, rfl⟩
            have w2 : IntKind.u64.wrap (4294967296 * (r : Int)) = (Z : Int) := by rw [IntKind.wrap_u64]; omega
            obtain ⟨S, hSd⟩ : ∃ S, Z + u0 = S := ⟨_, rfl⟩
            have w3 : IntKind.u64.wrap ((Z : Int) + (u0 : Int)) = (S : Int) := by rw [IntKind.wrap_u64]; omega
            by_cases hgt : S < M
            · have w4 : decide (S < M) = true := decide_eq_true hgt
              have hC : r * 4294967296 + u0 < q * y0 := by rw [hM]; omega
              clear hM hZd hSd hMl hgt
              obtain ⟨e1, e2, e3⟩ := dv_step HY1.out U2lt u0lt (.inr hC) hJ1 hJ2
              obtain ⟨t, ht⟩ : ∃ t, q - 1 = t := ⟨_, rfl⟩
              obtain ⟨r2, hr2⟩ : ∃ r2, r + y1 = r2 := ⟨_, rfl⟩
              rw [ht] at e2 e3
              rw [hr2] at e3
              have d1 : IntKind.u64.wrap ((q : Int) - 1) = (t : Int) := by rw [IntKind.wrap_u64]; omega
              have d2 : IntKind.u64.wrap ((r : Int) + (y1 : Int)) = (r2 : Int) := by rw [IntKind.wrap_u64]; omega
              have hmt : t < q := by omega
              have ht4 : t ≤ 4294967296 := by omega
              by_cases hr4 : 4294967296 ≤ r2
              · have d3 : decide ((4294967296 : Int) ≤ (r2 : Int)) = true := decide_eq_true (by omega)
                have hfin := dv_break HY1.out hYp hy0lt hr4 ht4 e3 e2
                rw [show (U2 * 4294967296 + u0) / Y = Q0 from HQ0.out] at hfin
                clear hC ht hr2 hmt e1 e2 e3 hJ1 hJ2 hJ3 hJ4 hr4 ht4
                subst hfin
                go_wp2
                go_ret2
                refine ⟨?_, 0, rfl⟩
                rw [HEND.out.1, HEND.out.2]
                rfl
              · have d3 : decide ((4294967296 : Int) ≤ (r2 : Int)) = false := decide_eq_false (by omega)
                have HR := Lib.hid (And.intro e3 (And.intro e2 (And.intro (show t ≤ 4294967297 by omega) (And.intro (show r2 < 4294967296 by omega) hmt))))
                clear hC ht hr2 hmt e1 e2 e3 hJ1 hJ2 hJ3 hJ4 hr4 ht4
                go_wp2
                go_roundw
                case rel => exact ⟨t, r2, rfl, rfl, HR.out.1, HR.out.2.1, HR.out.2.2.1, HR.out.2.2.2.1, by first | rfl | trivial⟩
                case measure => have := HR.out.2.2.2.2; simp [intOf]; omega
            · have w4 : decide (S < M) = false := decide_eq_false hgt
              have hfin := dv_done HY1.out hYp (by rw [hM]; omega) hJ1 hJ2
              rw [show (U2 * 4294967296 + u0) / Y = Q0 from HQ0.out] at hfin
              clear hM hZd hSd hMl hgt hJ1 hJ2 hJ3 hJ4 hqH
              subst hfin
              go_wp2
              go_ret2
              refine ⟨?_, 0, rfl⟩
              rw [HEND.out.1, HEND.out.2]
              rfl
theorem div64_c (hi lo y : Nat) (w : World) (hlo : lo < B) (hy : y < B) (hlt : hi < y) :
    Calls Tryd.prog 56 #[.int .u64 (hi : Int), .int .u64 (lo : Int), .int .u64 (y : Int)] w fun e w' => e = .returned (.tuple #[.int .u64 (((hi * B + lo) / y : Nat) : Int), .int .u64 (((hi * B + lo) % y : Nat) : Int)]) ∧ ∃ n, w' = w.drewN n := by
  rcases Nat.eq_zero_or_pos hi with rfl | h0
  · rw [Nat.zero_mul, Nat.zero_add]
    exact div64_low lo y w hlo hlt hy
  · have hb := bl_lt_word hy
    exact div64_high hi lo y (64 - bl y) w h0 hlo hy hlt (by omega)
end Go.Proofs.YtknafhogaheacaaDoor
namespace Go.Proofs.YtknafhogaheacaaDoor
open Go.RowKit

theorem dv_word {V wd x M : Nat} (h0 : 0 < wd) (hx : x < M) :
    (x + M * V) / wd = (V % wd * M + x) / wd + M * (V / wd) ∧ (x + M * V) % wd = (V % wd * M + x) % wd ∧ (V % wd * M + x) / wd < M := by
  have e := Nat.div_add_mod V wd
  have hm := Nat.mod_lt V h0
  obtain ⟨q, hq⟩ : ∃ q, V / wd = q := ⟨_, rfl⟩
  obtain ⟨r, hr⟩ : ∃ r, V % wd = r := ⟨_, rfl⟩
  rw [hq, hr] at e
  rw [hr] at hm
  rw [hq, hr]
  have e2 : x + M * V = r * M + x + wd * (M * q) := by
    rw [← e, Nat.mul_add, Nat.mul_comm M r, ← Nat.mul_assoc, ← Nat.mul_assoc, Nat.mul_comm M wd]
    omega
  rw [e2, Nat.add_mul_div_left _ _ h0, Nat.add_mul_mod_self_left]
  refine ⟨rfl, rfl, ?_⟩
  rw [Nat.div_lt_iff_lt_mul h0]
  have h1 : (r + 1) * M ≤ wd * M := Nat.mul_le_mul_right _ hm
  rw [Nat.add_mul, Nat.one_mul] at h1
  rw [Nat.mul_comm M wd]
  omega
theorem drop_at {o : List Nat} {j : Nat} (hj : j < o.length) : o.drop j = o.getD j 0 :: o.drop (j + 1) := by
  rw [List.drop_eq_getElem_cons hj, List.getD_eq_getElem?_getD, List.getElem?_eq_getElem hj]
  rfl
theorem drop_set_at {o : List Nat} {j d : Nat} (hj : j < o.length) : (o.set j d).drop j = d :: o.drop (j + 1) := by
  rw [drop_at (o := o.set j d) (by rw [List.length_set]; exact hj), List.drop_set_of_lt (by omega)]
  congr 1
  rw [List.getD_eq_getElem?_getD, List.getElem?_set_self hj]
  rfl
set_option maxHeartbeats 2000000 in
set_option maxRecDepth 100000 in
theorem divword_c (A : Option Addr) (c wd : Nat) (xs : List Nat) (w : World) (h : Rd w A c xs) (hs : xs.length ≤ 1000000000) (h0 : 0 < wd) (hwd : wd < B) :
    Calls Tryd.prog 39 #[.slice A xs.length c, .int .u64 (wd : Int)] w fun e w' => ∃ v, e = .returned (.tuple #[v, .int .u64 ((val xs % wd : Nat) : Int)]) ∧ Own w' w.heap.size v (cn (val xs / wd)) ∧ Ext w w' := by
  have hw := h.w64
  go_enter Tryd.func39, Tryd.ntmps39
  go_wp2_with (at_make; refine wp_make rfl _ _ _ rfl Tryd.underlying23 xs.length _ rfl rfl rfl (by omega) ?_; intro g w1 hg hbk hb1)
  have HBK := Lib.hid hbk
  have HB1 := Lib.hid hb1
  have HG := Lib.hid hg
  clear hbk hb1 hg
  go_loopw [7, 8] (fun v7 v8 wr => ∃ (k : Nat) (o : List Nat) (rest : Nat), k ≤ xs.length ∧ v8 = .int .i64 ((k : Int) - 1) ∧ v7 = .int .u64 (rest : Int) ∧ Bk wr g o ∧ o.length = xs.length ∧ rest = val (xs.drop k) % wd ∧ val (o.drop k) = val (xs.drop k) / wd ∧ Ext w wr) (fun _ v _ => (intOf v + 1).toNat)
  case atStart =>
    refine ⟨xs.length, _, 0, Nat.le_refl _, rfl, rfl, HBK.out, by simp, ?_, ?_, HB1.out⟩
    · rw [List.drop_length]; show 0 = 0 % wd; rw [Nat.zero_mod]
    · rw [List.drop_of_length_le (by simp), List.drop_length]; show 0 = 0 / wd; rw [Nat.zero_div]
  case round =>
    obtain ⟨k, o, rest, hk, rfl, rfl, hbk, hol, hrest, ho, hE⟩ := hrel
    rcases Nat.eq_zero_or_pos k with rfl | hk0
    · rw [List.drop_zero, List.drop_zero] at ho
      rw [List.drop_zero] at hrest
      have hr := hbk.rd (by omega) (c := xs.length) (by omega)
      have htr := fun w h => trim_c (some ⟨g, 0, none⟩) xs.length o w h (by omega)
      rw [hol, ho] at htr
      have HRS := Lib.hid hrest
      clear ho hrest hol
      go_wp2_with (go_at_call 38; refine (htr _ hr).mono ?_; rintro z w2 ⟨v, rfl, ho2, hb2⟩)
      go_ret2
      exact ⟨_, by rw [HRS.out]; rfl, ho2.low hE.size, hE.tr hb2⟩
    · obtain ⟨ad, rfl, hcell⟩ := h.cell (k - 1) (by omega)
      obtain ⟨j, hj⟩ : ∃ j, k = j + 1 := ⟨k - 1, by omega⟩
      subst hj
      have e1 : ((j + 1 : Nat) : Int) - 1 = (j : Int) := by omega
      rw [show j + 1 - 1 = j by omega] at hcell
      have hblk : ad.block < w.heap.size := by
        have := World.block_lt_of_cell? w _ hcell
        have e : (ad.add j).block = ad.block := by unfold Addr.add; split <;> rfl
        rwa [e] at this
      have hne : ¬ ad.block = g := by have := HG.out; omega
      have hne2 : ¬ g = ad.block := by have := HG.out; omega
      have hx1 := hE.cell hcell
      have hx := hw.get j
      have hcell2 := hbk.cell j (by omega)
      have hfz := hbk.frozen j
      have hdx := drop_at (o := xs) (j := j) (by omega)
      obtain ⟨x, hxx⟩ : ∃ x, xs.getD j 0 = x := ⟨_, rfl⟩
      rw [hxx] at hcell hx1 hx hdx
      generalize o.getD j 0 = ov at hcell2
      obtain ⟨d1, d2, d3⟩ := dv_word (V := val (xs.drop (j + 1))) (x := x) (M := B) h0 hx
      rw [← hrest, ← ho] at d1
      rw [← hrest] at d2 d3
      have hvx : val (xs.drop j) = x + B * val (xs.drop (j + 1)) := by rw [hdx]; rfl
      rw [← hvx] at d1 d2
      have hrl : rest < wd := by rw [hrest]; exact Nat.mod_lt _ h0
      obtain ⟨d, hd⟩ : ∃ d, (rest * B + x) / wd = d := ⟨_, rfl⟩
      obtain ⟨r2, hr2⟩ : ∃ r2, (rest * B + x) % wd = r2 := ⟨_, rfl⟩
      have hdv := fun w => div64_c rest x wd w hx hwd hrl
      rw [hd, hr2] at hdv
      rw [hd] at d1 d3
      rw [hr2] at d2
      have hnew : val ((o.set j d).drop j) = val (xs.drop j) / wd := by
        rw [drop_set_at (by omega), d1]
        rfl
      have hl2 : (o.set j d).length = xs.length := by rw [List.length_set]; exact hol
      have HL2 := Lib.hid hl2
      have HST := Lib.hid hnew
      have HR2 := Lib.hid d2.symm
      have HBK2 := Lib.hid hbk
      have HEE := Lib.hid hE
      rw [e1]
      clear hol ho hnew hl2 hxx hbk hE hrest hrl hd hr2 d1 d2 hvx hdx
      go_wp2_with fail
      refine (hdv _).mono ?_
      rintro z w2 ⟨rfl, n, rfl⟩
      have hb2 := (HBK2.out.drewN n).set j d d3
      have hE2 := (HEE.out.drewN n).set HG.out j (.int .u64 (d : Int))
      go_wp2
      go_roundw
      case rel => exact ⟨j, _, r2, by omega, rfl, rfl, hb2, HL2.out, HR2.out, HST.out, hE2⟩
      case measure => simp [intOf]
end Go.Proofs.YtknafhogaheacaaDoor
namespace Go.Proofs.YtknafhogaheacaaDoor
open Go.RowKit

theorem gs_eq {M a b c v w q r : Nat} (h : a * M + b = q * v + r) : (a * M + b) * M + c + q * w = q * (v * M + w) + (r * M + c) := by
  rw [h, Nat.add_mul, Nat.mul_add, Nat.mul_assoc]
  omega
/-- Where the test does not find the digit too great, it is not; where it does, it is. -/
theorem gs_le {M a b c v w q r : Nat} (h0 : 0 < v * M + w) (h : a * M + b = q * v + r) (hc : q * w ≤ r * M + c) : q ≤ ((a * M + b) * M + c) / (v * M + w) := by
  have e := gs_eq (c := c) (w := w) h
  exact (Nat.le_div_iff_mul_le h0).2 (by omega)
theorem gs_lt {M a b c v w q r : Nat} (h0 : 0 < v * M + w) (h : a * M + b = q * v + r) (hc : r * M + c < q * w) : ((a * M + b) * M + c) / (v * M + w) < q := by
  have e := gs_eq (c := c) (w := w) h
  exact (Nat.div_lt_iff_lt_mul h0).2 (by omega)
/-- The digit that guess answers. -/
def gsN (a b c v w : Nat) : Nat := min (B - 1) (((a * B + b) * B + c) / (v * B + w))
theorem gs_done {a b c v w q r : Nat} (h0 : 0 < v * B + w) (h : a * B + b = q * v + r) (hq : q ≤ B - 1) (hg : gsN a b c v w ≤ q) (hc : q * w ≤ r * B + c) : q = gsN a b c v w := by
  exact Nat.le_antisymm (Nat.le_min.2 ⟨hq, gs_le (c := c) h0 h hc⟩) hg
theorem gs_step {a b c v w q r : Nat} (h0 : 0 < v * B + w) (h : a * B + b = q * v + r) (hq : q ≤ B - 1) (hg : gsN a b c v w ≤ q) (hc : r * B + c < q * w) : 1 ≤ q ∧ gsN a b c v w ≤ q - 1 ∧ a * B + b = (q - 1) * v + (r + v) := by
  have h2 : gsN a b c v w < q := Nat.lt_of_le_of_lt (Nat.min_le_right _ _) (gs_lt (c := c) h0 h hc)
  generalize gsN a b c v w = G at *
  obtain ⟨t, rfl⟩ : ∃ t, q = t + 1 := ⟨q - 1, by omega⟩
  rw [Nat.add_mul, Nat.one_mul] at h
  rw [Nat.add_sub_cancel]
  exact ⟨by omega, by omega, by omega⟩
theorem gs_over {q w r c : Nat} (hq : q ≤ B - 1) (hw : w < B) (hr : B ≤ r) : q * w ≤ r * B + c := by
  have h1 : q * w ≤ B * B := Nat.mul_le_mul (by omega) (by omega)
  have h2 : B * B ≤ r * B := Nat.mul_le_mul_right _ hr
  omega
theorem gs_first {a b c v w : Nat} (h0 : 0 < v) (hav : a < v) (hc : c < B) : gsN a b c v w ≤ (a * B + b) / v := by
  have h1 : ((a * B + b) * B + c) / (v * B + w) ≤ (a * B + b) / v := by
    refine Nat.le_of_lt_succ ((Nat.div_lt_iff_lt_mul (by have := Nat.mul_pos h0 B_pos; omega)).2 ?_)
    have hd := Nat.lt_mul_div_succ (a * B + b) h0
    have h2 : (a * B + b + 1) * B ≤ v * ((a * B + b) / v + 1) * B := Nat.mul_le_mul_right _ hd
    rw [Nat.succ_eq_add_one, Nat.mul_add]
    rw [Nat.add_mul, Nat.one_mul] at h2
    have h3 : v * ((a * B + b) / v + 1) * B = ((a * B + b) / v + 1) * (v * B) := by
      rw [Nat.mul_comm v, Nat.mul_assoc]
    omega
  exact Nat.le_trans (Nat.min_le_right _ _) h1
set_option maxHeartbeats 8000000 in
set_option maxRecDepth 100000 in
theorem guess_c (a b c v w : Nat) (W : World) (ha : a ≤ v) (hb : b < B) (hc : c < B) (hv : v < B) (hw : w < B) (h0 : 0 < v) :
    Calls Tryd.prog 41 #[.int .u64 (a : Int), .int .u64 (b : Int), .int .u64 (c : Int), .int .u64 (v : Int), .int .u64 (w : Int)] W fun e w' => e = .returned (.int .u64 ((gsN a b c v w : Nat) : Int)) ∧ ∃ n, w' = W.drewN n := by
  have hD : 0 < v * B + w := by have := Nat.mul_pos h0 B_pos; omega
  have hB0 := B_pos
  have hav : decide (v < a) = false := decide_eq_false (by omega)
  obtain ⟨G, hG⟩ : ∃ G, gsN a b c v w = G := ⟨_, rfl⟩
  rw [hG]
  have HG := Lib.hid hG
  rcases Nat.lt_or_eq_of_le ha with hlt | rfl
  · have hae : ((a : Int) == (v : Int)) = false := by simp; omega
    have hdv := fun w => div64_c a b v w hb hv hlt
    have hf := gs_first (a := a) (b := b) (c := c) (v := v) (w := w) h0 hlt hc
    rw [hG] at hf
    have hq0 : (a * B + b) / v ≤ B - 1 := by
      have h1 : (a * B + b) / v < B := by
        rw [Nat.div_lt_iff_lt_mul h0]
        have h2 : (a + 1) * B ≤ v * B := Nat.mul_le_mul_right _ hlt
        rw [Nat.add_mul, Nat.one_mul] at h2
        rw [Nat.mul_comm B v]
        omega
      omega
    have hdm := Nat.div_add_mod (a * B + b) v
    rw [Nat.mul_comm] at hdm
    have hml := Nat.mod_lt (a * B + b) h0
    obtain ⟨q0, hq0e⟩ : ∃ q0, (a * B + b) / v = q0 := ⟨_, rfl⟩
    obtain ⟨r0, hr0e⟩ : ∃ r0, (a * B + b) % v = r0 := ⟨_, rfl⟩
    rw [hq0e, hr0e] at hdv hdm
    rw [hq0e] at hf hq0
    rw [hr0e] at hml
    have HI := Lib.hid (And.intro hdm.symm (And.intro hq0 (And.intro hf (show r0 < B by omega))))
    clear hq0e hr0e hf hq0 hdm hml hG hlt
    go_enter Tryd.func41, Tryd.ntmps41
    go_wp2_with fail
    refine (hdv _).mono ?_
    rintro z w1 ⟨rfl, n1, rfl⟩
    go_wp2
    go_loopw [11, 12, 13] (fun v1 v2 v3 wr => ∃ q r n : Nat, v1 = .int .u64 (q : Int) ∧ v2 = .int .u64 ((r % B : Nat) : Int) ∧ v3 = .bool (decide (B ≤ r)) ∧ a * B + b = q * v + r ∧ q ≤ B - 1 ∧ G ≤ q ∧ r < B + B ∧ W.drewN n = wr) (fun v1 _ _ _ => (intOf v1).toNat)
    case atStart => exact ⟨q0, r0, n1, rfl, by rw [Nat.mod_eq_of_lt HI.out.2.2.2], by rw [decide_eq_false (by have := HI.out.2.2.2; omega)], HI.out.1, HI.out.2.1, HI.out.2.2.1, by have := HI.out.2.2.2; omega, rfl⟩
    case round =>
      obtain ⟨q, r, n, rfl, rfl, rfl, j1, j2, j3, j4, rfl⟩ := hrel
      by_cases hr : B ≤ r
      · have hov : decide (B ≤ r) = true := decide_eq_true hr
        have hfin := gs_done hD j1 j2 (by rw [HG.out]; exact j3) (gs_over (c := c) j2 hw hr)
        rw [HG.out] at hfin
        rw [hov]
        clear j1 j2 j3 j4 hr hov
        subst hfin
        generalize r % B = rr
        go_wp2
        go_ret
        exact ⟨rfl, _, rfl⟩
      · have hov : decide (B ≤ r) = false := decide_eq_false hr
        have hrB : r < B := by omega
        have hqB : q < B := by omega
        rw [hov, Nat.mod_eq_of_lt hrB]
        have hml := fun w0 => mul64 q w w0 hqB hw
        have hqe := Nat.div_add_mod (q * w) B
        have hlo := mod_B_lt (q * w)
        obtain ⟨H1, hH1⟩ : ∃ H1, q * w / B = H1 := ⟨_, rfl⟩
        obtain ⟨L1, hL1⟩ : ∃ L1, q * w % B = L1 := ⟨_, rfl⟩
        rw [hH1, hL1] at hml hqe
        rw [hL1] at hlo
        rw [Nat.mul_comm B H1] at hqe
        clear hH1 hL1 hov hr j4
        by_cases h1 : H1 < r
        · have hc2 : q * w ≤ r * B + c := by
            have h2 : (H1 + 1) * B ≤ r * B := Nat.mul_le_mul_right _ h1
            rw [Nat.add_mul, Nat.one_mul] at h2
            omega
          have d1 : decide (H1 < r) = true := decide_eq_true h1
          have hfin := gs_done hD j1 j2 (by rw [HG.out]; exact j3) hc2
          rw [HG.out] at hfin
          clear hqe hc2 j1 j2 j3 hrB hqB hlo h1
          subst hfin
          go_wp2_with (go_at_call 57; refine (hml _).mono ?_; rintro z w2 ⟨rfl, rfl⟩)
          go_ret
          exact ⟨rfl, _, rfl⟩
        · have d1 : decide (H1 < r) = false := decide_eq_false h1
          by_cases h2 : H1 = r ∧ L1 ≤ c
          · obtain ⟨rfl, h3⟩ := h2
            have d3 : decide (L1 ≤ c) = true := decide_eq_true h3
            have hfin := gs_done hD j1 j2 (by rw [HG.out]; exact j3) (by omega)
            rw [HG.out] at hfin
            clear hqe j1 j2 j3 hrB hqB hlo h1 h3
            subst hfin
            go_wp2_with (go_at_call 57; refine (hml _).mono ?_; rintro z w2 ⟨rfl, rfl⟩)
            go_ret
            exact ⟨rfl, _, rfl⟩
          · have hc2 : r * B + c < q * w := by
              rcases Nat.lt_or_eq_of_le (Nat.le_of_not_lt h1) with h3 | h3
              · have h4 : (r + 1) * B ≤ H1 * B := Nat.mul_le_mul_right _ h3
                rw [Nat.add_mul, Nat.one_mul] at h4
                omega
              · subst h3
                have : ¬ L1 ≤ c := fun h => h2 ⟨rfl, h⟩
                omega
            obtain ⟨k1, k2, k3⟩ := gs_step hD j1 j2 (by rw [HG.out]; exact j3) hc2
            rw [HG.out] at k2
            obtain ⟨t, ht⟩ : ∃ t, q - 1 = t := ⟨_, rfl⟩
            obtain ⟨r2, hr2⟩ : ∃ r2, r + v = r2 := ⟨_, rfl⟩
            rw [ht] at k2 k3
            rw [hr2] at k3
            have hqi : q < 18446744073709551616 := by rw [B_eq] at hqB; exact hqB
            have d2 : IntKind.u64.wrap ((q : Int) - 1) = (t : Int) := by rw [IntKind.wrap_u64]; omega
            have hadd := run_a64 r v 0 (by omega)
            rw [Nat.add_zero, hr2, show ((0 : Nat) : Int) = 0 from rfl] at hadd
            have hcar : ((((r2 / B : Nat) : Int) == 1) = decide (B ≤ r2)) := by
              have hr2b : r2 < B + B := by omega
              by_cases hb2 : B ≤ r2
              · rw [decide_eq_true hb2, show r2 / B = 1 from Nat.div_eq_of_lt_le (by omega) (by omega)]; rfl
              · rw [decide_eq_false hb2, Nat.div_eq_of_lt (by omega)]; rfl
            have HR := Lib.hid (And.intro k3 (And.intro (show t ≤ B - 1 by omega) (And.intro k2 (And.intro (show r2 < B + B by omega) (show t < q by omega)))))
            have hel : (H1 = r ∧ decide (L1 ≤ c) = false) ∨ ¬ H1 = r := by
              by_cases h3 : H1 = r
              · exact .inl ⟨h3, decide_eq_false (fun h => h2 ⟨h3, h⟩)⟩
              · exact .inr h3
            obtain ⟨ov, hove⟩ : ∃ ov, decide (B ≤ r2) = ov := ⟨_, rfl⟩
            obtain ⟨rm, hrme⟩ : ∃ rm, r2 % B = rm := ⟨_, rfl⟩
            rw [hove] at hcar
            rw [hrme] at hadd
            have HO := Lib.hid (And.intro hove hrme)
            generalize r2 / B = cy at *
            clear hove hrme hqe hc2 j1 j2 j3 hrB hqB hlo h1 h2 k1 k2 k3 ht hr2 hqi
            rcases hel with ⟨rfl, d3⟩ | hne
            all_goals
              try have hn1 : ((H1 : Int) == (r : Int)) = false := by simpa using hne
              go_wp2_with (go_at_call 57; refine (hml _).mono ?_; rintro z w2 ⟨rfl, rfl⟩)
              exact ⟨⟨t, r2, n, rfl, by rw [HO.out.2], by rw [HO.out.1], HR.out.1, HR.out.2.1, HR.out.2.2.1, HR.out.2.2.2.1, rfl⟩, by have := HR.out.2.2.2.2; simp [intOf]; omega⟩
  · have hae : ((a : Int) == (a : Int)) = true := by simp
    have hadd0 := run_a64 b a 0 (by omega)
    rw [Nat.add_zero, show ((0 : Nat) : Int) = 0 from rfl] at hadd0
    have hcar0 : ((((b + a) / B : Nat) : Int) == 1) = decide (B ≤ b + a) := by
      by_cases hb2 : B ≤ b + a
      · rw [decide_eq_true hb2, show (b + a) / B = 1 from Nat.div_eq_of_lt_le (by omega) (by omega)]; rfl
      · rw [decide_eq_false hb2, Nat.div_eq_of_lt (by omega)]; rfl
    have hst : a * B + b = (B - 1) * a + (b + a) := by
      have h1 : (B - 1) * a + a = B * a := by
        rw [← Nat.succ_mul, Nat.succ_eq_add_one, Nat.sub_add_cancel B_pos]
      rw [Nat.mul_comm a B]
      omega
    have hGle : G ≤ B - 1 := by rw [← hG]; exact Nat.min_le_left _ _
    obtain ⟨ov0, hov0⟩ : ∃ ov, decide (B ≤ b + a) = ov := ⟨_, rfl⟩
    obtain ⟨rm0, hrm0⟩ : ∃ rm, (b + a) % B = rm := ⟨_, rfl⟩
    rw [hov0] at hcar0
    rw [hrm0] at hadd0
    have HI := Lib.hid (And.intro hst (And.intro hGle (And.intro (show b + a < B + B by omega) (And.intro hrm0 hov0))))
    generalize (b + a) / B = cy0 at *
    clear hst hGle hov0 hrm0 hG
    go_enter Tryd.func41, Tryd.ntmps41
    go_wp2
    go_loopw [11, 12, 13] (fun v1 v2 v3 wr => ∃ q r n : Nat, v1 = .int .u64 (q : Int) ∧ v2 = .int .u64 ((r % B : Nat) : Int) ∧ v3 = .bool (decide (B ≤ r)) ∧ a * B + b = q * a + r ∧ q ≤ B - 1 ∧ G ≤ q ∧ r < B + B ∧ W.drewN n = wr) (fun v1 _ _ _ => (intOf v1).toNat)
    case atStart => exact ⟨B - 1, b + a, 0, by rw [B_eq]; rfl, by rw [HI.out.2.2.2.1], by rw [HI.out.2.2.2.2], HI.out.1, Nat.le_refl _, HI.out.2.1, HI.out.2.2.1, rfl⟩
    case round =>
      obtain ⟨q, r, n, rfl, rfl, rfl, j1, j2, j3, j4, rfl⟩ := hrel
      by_cases hr : B ≤ r
      · have hov : decide (B ≤ r) = true := decide_eq_true hr
        have hfin := gs_done hD j1 j2 (by rw [HG.out]; exact j3) (gs_over (c := c) j2 hw hr)
        rw [HG.out] at hfin
        rw [hov]
        clear j1 j2 j3 j4 hr hov
        subst hfin
        generalize r % B = rr
        go_wp2
        go_ret
        exact ⟨rfl, _, rfl⟩
      · have hov : decide (B ≤ r) = false := decide_eq_false hr
        have hrB : r < B := by omega
        have hqB : q < B := by omega
        rw [hov, Nat.mod_eq_of_lt hrB]
        have hml := fun w0 => mul64 q w w0 hqB hw
        have hqe := Nat.div_add_mod (q * w) B
        have hlo := mod_B_lt (q * w)
        obtain ⟨H1, hH1⟩ : ∃ H1, q * w / B = H1 := ⟨_, rfl⟩
        obtain ⟨L1, hL1⟩ : ∃ L1, q * w % B = L1 := ⟨_, rfl⟩
        rw [hH1, hL1] at hml hqe
        rw [hL1] at hlo
        rw [Nat.mul_comm B H1] at hqe
        clear hH1 hL1 hov hr j4
        by_cases h1 : H1 < r
        · have hc2 : q * w ≤ r * B + c := by
            have h2 : (H1 + 1) * B ≤ r * B := Nat.mul_le_mul_right _ h1
            rw [Nat.add_mul, Nat.one_mul] at h2
            omega
          have d1 : decide (H1 < r) = true := decide_eq_true h1
          have hfin := gs_done hD j1 j2 (by rw [HG.out]; exact j3) hc2
          rw [HG.out] at hfin
          clear hqe hc2 j1 j2 j3 hrB hqB hlo h1
          subst hfin
          go_wp2_with (go_at_call 57; refine (hml _).mono ?_; rintro z w2 ⟨rfl, rfl⟩)
          go_ret
          exact ⟨rfl, _, rfl⟩
        · have d1 : decide (H1 < r) = false := decide_eq_false h1
          by_cases h2 : H1 = r ∧ L1 ≤ c
          · obtain ⟨rfl, h3⟩ := h2
            have d3 : decide (L1 ≤ c) = true := decide_eq_true h3
            have hfin := gs_done hD j1 j2 (by rw [HG.out]; exact j3) (by omega)
            rw [HG.out] at hfin
            clear hqe j1 j2 j3 hrB hqB hlo h1 h3
            subst hfin
            go_wp2_with (go_at_call 57; refine (hml _).mono ?_; rintro z w2 ⟨rfl, rfl⟩)
            go_ret
            exact ⟨rfl, _, rfl⟩
          · have hc2 : r * B + c < q * w := by
              rcases Nat.lt_or_eq_of_le (Nat.le_of_not_lt h1) with h3 | h3
              · have h4 : (r + 1) * B ≤ H1 * B := Nat.mul_le_mul_right _ h3
                rw [Nat.add_mul, Nat.one_mul] at h4
                omega
              · subst h3
                have : ¬ L1 ≤ c := fun h => h2 ⟨rfl, h⟩
                omega
            obtain ⟨k1, k2, k3⟩ := gs_step hD j1 j2 (by rw [HG.out]; exact j3) hc2
            rw [HG.out] at k2
            obtain ⟨t, ht⟩ : ∃ t, q - 1 = t := ⟨_, rfl⟩
            obtain ⟨r2, hr2⟩ : ∃ r2, r + a = r2 := ⟨_, rfl⟩
            rw [ht] at k2 k3
            rw [hr2] at k3
            have hqi : q < 18446744073709551616 := by rw [B_eq] at hqB; exact hqB
            have d2 : IntKind.u64.wrap ((q : Int) - 1) = (t : Int) := by rw [IntKind.wrap_u64]; omega
            have hadd := run_a64 r a 0 (by omega)
            rw [Nat.add_zero, hr2, show ((0 : Nat) : Int) = 0 from rfl] at hadd
            have hcar : ((((r2 / B : Nat) : Int) == 1) = decide (B ≤ r2)) := by
              have hr2b : r2 < B + B := by omega
              by_cases hb2 : B ≤ r2
              · rw [decide_eq_true hb2, show r2 / B = 1 from Nat.div_eq_of_lt_le (by omega) (by omega)]; rfl
              · rw [decide_eq_false hb2, Nat.div_eq_of_lt (by omega)]; rfl
            have HR := Lib.hid (And.intro k3 (And.intro (show t ≤ B - 1 by omega) (And.intro k2 (And.intro (show r2 < B + B by omega) (show t < q by omega)))))
            have hel : (H1 = r ∧ decide (L1 ≤ c) = false) ∨ ¬ H1 = r := by
              by_cases h3 : H1 = r
              · exact .inl ⟨h3, decide_eq_false (fun h => h2 ⟨h3, h⟩)⟩
              · exact .inr h3
            obtain ⟨ov, hove⟩ : ∃ ov, decide (B ≤ r2) = ov := ⟨_, rfl⟩
            obtain ⟨rm, hrme⟩ : ∃ rm, r2 % B = rm := ⟨_, rfl⟩
            rw [hove] at hcar
            rw [hrme] at hadd
            have HO := Lib.hid (And.intro hove hrme)
            generalize r2 / B = cy at *
            clear hove hrme hqe hc2 j1 j2 j3 hrB hqB hlo h1 h2 k1 k2 k3 ht hr2 hqi
            rcases hel with ⟨rfl, d3⟩ | hne
            all_goals
              try have hn1 : ((H1 : Int) == (r : Int)) = false := by simpa using hne
              go_wp2_with (go_at_call 57; refine (hml _).mono ?_; rintro z w2 ⟨rfl, rfl⟩)
              exact ⟨⟨t, r2, n, rfl, by rw [HO.out.2], by rw [HO.out.1], HR.out.1, HR.out.2.1, HR.out.2.2.1, HR.out.2.2.2.1, rfl⟩, by have := HR.out.2.2.2.2; simp [intOf]; omega⟩
end Go.Proofs.YtknafhogaheacaaDoor
