/- package ntt: sums, differences, Reduce, products and powers of residues. package ntt: Reduce, products of residues. package ntt: powers of residues, lengths, roots. package ntt: are all words residues? package ntt: Add, Sub, Times, Pow, Inverse. package ntt: Pow, Inverse. -/
import Derived.Test.YthbnkhgcfcigjaaKT
import Derived.Test.YthbnkhgcfcigjaaBits
import Derived.Test.YthbnkhgcfcigjaaR1
set_option linter.unusedVariables false
set_option linter.unusedSimpArgs false
namespace Go.Proofs.Ythbnkhgcfcigjaa
open Go.RowKit

theorem add64_c (a b : Nat) (w : World) : (callFunc 85 #[.int .u64 (a : Int), .int .u64 (b : Int), .int .u64 0]).run Try.prog w =
    .ok (.value (.tuple #[.int .u64 (((a + b) % B : Nat) : Int), .int .u64 (((a + b) / B : Nat) : Int)])) w := by
  have h := run_a64 a b 0 (by omega) w
  rwa [Nat.add_zero] at h
theorem sub64_c (a b : Nat) (w : World) : (callFunc 84 #[.int .u64 (a : Int), .int .u64 (b : Int), .int .u64 0]).run Try.prog w =
    .ok (.value (.tuple #[.int .u64 (((a + B - b) % B : Nat) : Int), .int .u64 ((brw a b 0 : Nat) : Int)])) w := by
  have h := run_s64 a b 0 (by omega) w
  rwa [Nat.sub_zero] at h
set_option maxHeartbeats 1000000 in
theorem plus_c (a b : Nat) (w : World) (ha : a < PP) (hb : b < PP) : Calls Try.prog 78 #[.int .u64 (a : Int), .int .u64 (b : Int)] w fun e w' => e = .returned (.int .u64 (((a + b) % PP : Nat) : Int)) ∧ w = w' := by
  have hl := plus_law ha hb
  have had := add64_c a b
  obtain ⟨s, hs⟩ : ∃ s, (a + b) % B = s := ⟨_, rfl⟩
  obtain ⟨c, hc⟩ : ∃ c, (a + b) / B = c := ⟨_, rfl⟩
  rw [hs, hc] at hl had
  have hsB : s < B := by rw [← hs]; exact Nat.mod_lt _ B_pos
  rw [B_eq] at hsB
  generalize (a + b) % PP = r at *
  have HL := Lib.hid hl
  clear hl hs hc ha hb
  by_cases h : 0 < c ∨ PP ≤ s
  · have hr := HL.out
    rw [if_pos h] at hr
    have hw : IntKind.u64.wrap ((s : Int) - 18446744069414584321) = (r : Int) := by
      rw [← hr, IntKind.wrap_u64, B_eq, PP_eq]
      omega
    have hc4 : (decide (0 < c) = true) ∨ (decide (0 < c) = false ∧ decide ((18446744069414584321 : Int) ≤ (s : Int)) = true) := by
      rw [PP_eq] at h
      by_cases h0 : 0 < c
      · exact .inl (decide_eq_true h0)
      · exact .inr ⟨decide_eq_false h0, decide_eq_true (by omega)⟩
    clear hr h HL
    rcases hc4 with d1 | ⟨d1, d2⟩
    all_goals
      go_enter Try.func78, Try.ntmps78
      go_wp2_with (simp only [had])
      go_ret
      exact ⟨rfl, rfl⟩
  · have hr := HL.out
    rw [if_neg h] at hr
    have d1 : decide (0 < c) = false := decide_eq_false (fun h0 => h (.inl h0))
    have d2 : decide ((18446744069414584321 : Int) ≤ (s : Int)) = false := decide_eq_false (fun h0 => h (.inr (by rw [PP_eq]; omega)))
    subst hr
    clear h HL
    go_enter Try.func78, Try.ntmps78
    go_wp2_with (simp only [had])
    go_ret
    exact ⟨rfl, rfl⟩
set_option maxHeartbeats 1000000 in
theorem minus_c (a b : Nat) (w : World) (ha : a < PP) (hb : b < PP) : Calls Try.prog 79 #[.int .u64 (a : Int), .int .u64 (b : Int)] w fun e w' => e = .returned (.int .u64 (((a + PP - b) % PP : Nat) : Int)) ∧ w = w' := by
  have hl := minus_law ha hb
  have hsb := sub64_c a b
  obtain ⟨r, hr⟩ : ∃ r, (a + PP - b) % PP = r := ⟨_, rfl⟩
  rw [hr] at hl ⊢
  clear hr
  obtain ⟨s, hs⟩ : ∃ s, (a + B - b) % B = s := ⟨_, rfl⟩
  rw [hs] at hsb
  unfold brw at hsb
  rw [B_eq, PP_eq] at *
  rw [Nat.add_zero] at hsb
  by_cases h : a < b
  · rw [if_pos h] at hl hsb
    have hw : IntKind.u64.wrap ((s : Int) + 18446744069414584321) = (r : Int) := by
      rw [← hl, ← hs, IntKind.wrap_u64]
      omega
    clear hl hs ha hb h
    go_enter Try.func79, Try.ntmps79
    go_wp2_with (simp only [hsb])
    go_ret
    exact ⟨rfl, rfl⟩
  · rw [if_neg h] at hl hsb
    obtain rfl : s = r := by omega
    clear hl hs ha hb h
    go_enter Try.func79, Try.ntmps79
    go_wp2_with (simp only [hsb])
    go_ret
    exact ⟨rfl, rfl⟩
end Go.Proofs.Ythbnkhgcfcigjaa
namespace Go.Proofs.Ythbnkhgcfcigjaa
open Go.RowKit

theorem and_low (x : Nat) (h : x < B) : bits BinOp.and IntKind.u64 (x : Int) 4294967295 = ((x % 4294967296 : Nat) : Int) := by
  rw [show (4294967295 : Int) = ((4294967295 : Nat) : Int) from rfl, u64_and_nat _ _ (by rw [B_eq] at h; omega) (by omega), show 4294967295 = 2 ^ 32 - 1 from rfl, Nat.and_two_pow_sub_one_eq_mod]
set_option maxHeartbeats 2000000 in
set_option maxRecDepth 100000 in
theorem reduce_c (high low : Nat) (w : World) (hh : high < B) (hl : low < B) : Calls Try.prog 52 #[.int .u64 (high : Int), .int .u64 (low : Int)] w fun e w' => e = .returned (.int .u64 (((high * B + low) % PP : Nat) : Int)) ∧ w = w' := by
  have hlaw := reduce_law hh hl
  have had1 := and_low high hh
  have htop : high / 4294967296 < 4294967296 := by rw [B_eq] at hh; omega
  have hmid := Nat.mod_lt high (show 4294967296 > 0 by omega)
  have hsr : (high : Int) / 4294967296 = ((high / 4294967296 : Nat) : Int) := by omega
  generalize (high * B + low) % PP = r at *
  generalize high % 4294967296 = mid at *
  generalize high / 4294967296 = top at *
  have hsb := sub64_c low top
  unfold brw at hsb
  rw [Nat.add_zero] at hsb
  obtain ⟨M, hM⟩ : ∃ M, mid * 4294967295 = M := ⟨_, rfl⟩
  rw [hM] at hlaw
  have hm : (mid : Int) * 4294967296 - (mid : Int) = (M : Int) := by omega
  have hMB : M ≤ 18446744065119617025 := by omega
  obtain ⟨s0, hs0⟩ : ∃ s0, (low + B - top) % B = s0 := ⟨_, rfl⟩
  rw [hs0] at hsb
  obtain ⟨S1, hS1⟩ : ∃ S1, rdS1 low top = S1 := ⟨_, rfl⟩
  rw [hS1] at hlaw
  unfold rdS1 at hS1
  have had := add64_c S1 M
  obtain ⟨s2, hs2⟩ : ∃ s2, (S1 + M) % B = s2 := ⟨_, rfl⟩
  obtain ⟨c2, hc2⟩ : ∃ c2, (S1 + M) / B = c2 := ⟨_, rfl⟩
  rw [hs2, hc2] at had
  obtain ⟨S2, hS2⟩ : ∃ S2, rdS2 S1 M = S2 := ⟨_, rfl⟩
  rw [hS2] at hlaw
  unfold rdS2 at hS2
  unfold rdS3 at hlaw
  rw [B_eq, PP_eq] at *
  have hS1b : S1 < 18446744073709551616 := by
    rw [← hS1]
    split <;> omega
  have h1 : (low < top ∧ IntKind.u64.wrap ((s0 : Int) + 18446744069414584321) = (S1 : Int)) ∨ (¬ low < top ∧ s0 = S1) := by
    by_cases h : low < top
    · rw [if_pos h] at hS1
      refine .inl ⟨h, ?_⟩
      rw [IntKind.wrap_u64]
      omega
    · rw [if_neg h] at hS1
      exact .inr ⟨h, by omega⟩
  have h2 : (decide (0 < c2) = true ∧ IntKind.u64.wrap ((s2 : Int) + 4294967295) = (S2 : Int)) ∨ (decide (0 < c2) = false ∧ s2 = S2) := by
    by_cases h : 18446744073709551616 ≤ S1 + M
    · rw [if_pos h] at hS2
      refine .inl ⟨decide_eq_true (by omega), ?_⟩
      rw [IntKind.wrap_u64]
      omega
    · rw [if_neg h] at hS2
      exact .inr ⟨decide_eq_false (by omega), by omega⟩
  have h3 : (decide ((18446744069414584321 : Int) ≤ (S2 : Int)) = true ∧ IntKind.u64.wrap ((S2 : Int) - 18446744069414584321) = (r : Int)) ∨ (decide ((18446744069414584321 : Int) ≤ (S2 : Int)) = false ∧ S2 = r) := by
    by_cases h : 18446744069414584321 ≤ S2
    · rw [if_pos h] at hlaw
      refine .inl ⟨decide_eq_true (by omega), ?_⟩
      rw [IntKind.wrap_u64]
      have hS2b : S2 < 18446744073709551616 := by
        rw [← hS2]
        split <;> omega
      omega
    · rw [if_neg h] at hlaw
      exact .inr ⟨decide_eq_false (by omega), hlaw⟩
  clear hlaw hS1 hS2 hs2 hc2 hs0 hM hh hl htop hmid hS1b
  rcases h1 with ⟨e1, e2⟩ | ⟨e1, rfl⟩
  · rw [if_pos e1] at hsb
    clear e1
    rcases h2 with ⟨e3, e4⟩ | ⟨e3, rfl⟩ <;> rcases h3 with ⟨e5, e6⟩ | ⟨e5, rfl⟩
    all_goals
      go_enter Try.func52, Try.ntmps52
      go_wp2_with (first | (simp only [hsb]) | (simp only [had]))
      go_ret
      exact ⟨rfl, rfl⟩
  · rw [if_neg e1] at hsb
    clear e1
    rcases h2 with ⟨e3, e4⟩ | ⟨e3, rfl⟩ <;> rcases h3 with ⟨e5, e6⟩ | ⟨e5, rfl⟩
    all_goals
      go_enter Try.func52, Try.ntmps52
      go_wp2_with (first | (simp only [hsb]) | (simp only [had]))
      go_ret
      exact ⟨rfl, rfl⟩
theorem times_c (a b : Nat) (w : World) (ha : a < B) (hb : b < B) : Calls Try.prog 80 #[.int .u64 (a : Int), .int .u64 (b : Int)] w fun e w' => e = .returned (.int .u64 ((a * b % PP : Nat) : Int)) ∧ w = w' := by
  have hml := mul64 a b w ha hb
  have hhi : a * b / B < B := Nat.div_lt_of_lt_mul (Nat.mul_lt_mul_of_lt_of_lt ha hb)
  have hrd := fun w => reduce_c (a * b / B) (a * b % B) w hhi (Nat.mod_lt _ B_pos)
  have e : a * b / B * B + a * b % B = a * b := by rw [Nat.mul_comm]; exact Nat.div_add_mod (a * b) B
  rw [e] at hrd
  generalize a * b / B = hi at *
  generalize a * b % B = lo at *
  generalize a * b % PP = r at *
  clear e hhi ha hb
  go_enter Try.func80, Try.ntmps80
  go_wp2_with fail
  refine hml.mono ?_
  rintro z w1 ⟨rfl, rfl⟩
  go_wp2_with fail
  refine (hrd _).mono ?_
  rintro z w2 ⟨rfl, rfl⟩
  go_wp2
  go_ret
  exact ⟨rfl, rfl⟩
end Go.Proofs.Ythbnkhgcfcigjaa
namespace Go.Proofs.Ythbnkhgcfcigjaa
open Go.RowKit

theorem and_one (x : Nat) (h : x < B) : bits BinOp.and IntKind.u64 (x : Int) 1 = ((x % 2 : Nat) : Int) := by
  rw [show (1 : Int) = ((1 : Nat) : Int) from rfl, u64_and_nat _ _ (by rw [B_eq] at h; omega) (by omega), show 1 = 2 ^ 1 - 1 from rfl, Nat.and_two_pow_sub_one_eq_mod]
set_option maxHeartbeats 2000000 in
set_option maxRecDepth 100000 in
theorem power04_c (a k : Nat) (w : World) (ha : a < B) (hk : k < B) : Calls Try.prog 60 #[.int .u64 (a : Int), .int .u64 (k : Int)] w fun e w' => e = .returned (.int .u64 ((a ^ k % PP : Nat) : Int)) ∧ w = w' := by
  obtain ⟨r, hr⟩ : ∃ r, a ^ k % PP = r := ⟨_, rfl⟩
  have hr' : pwI 1 a k = r := by unfold pwI; rw [Nat.one_mul]; exact hr
  rw [hr]
  clear hr
  have HR := Lib.hid hr'
  clear hr'
  go_enter Try.func60, Try.ntmps60
  go_wp2_with fail
  go_loopw [0, 1, 5] (fun v0 v1 v5 wr => ∃ a' k' o : Nat, v0 = .int .u64 (a' : Int) ∧ v1 = .int .u64 (k' : Int) ∧ v5 = .int .u64 (o : Int) ∧ a' < B ∧ k' < B ∧ o < PP ∧ pwI o a' k' = r ∧ wr = w) (fun _ v _ _ => (intOf v).toNat)
  case atStart => exact ⟨a, k, 1, rfl, rfl, rfl, ha, hk, by rw [PP_eq]; omega, HR.out, rfl⟩
  case round =>
    clear HR ha hk
    obtain ⟨a', k', o, rfl, rfl, rfl, ha, hk, ho, hrel, rfl⟩ := hrel
    have hoB : o < B := Nat.lt_trans ho PP_lt_B
    have h1 := and_one k' hk
    have h2 : (k' : Int) / 2 = ((k' / 2 : Nat) : Int) := by omega
    by_cases h0 : k' = 0
    · subst h0
      have hd := pow_done o a' ho
      rw [hd] at hrel
      subst hrel
      clear hd h1 h2 ha hk ho hoB
      go_wp2_with fail
      go_ret
      exact ⟨rfl, rfl⟩
    · have hs := pow_step (out := o) (a := a') (k := k') (by omega)
      rw [hrel] at hs
      have hp : decide (0 < k') = true := decide_eq_true (by omega)
      have hm2 := fun w => times_c a' a' w ha ha
      have hm1 := fun w => times_c o a' w hoB ha
      have hq : a' * a' % PP < B := Nat.lt_trans (Nat.mod_lt _ PP_pos) PP_lt_B
      have hkk : k' / 2 < B := by omega
      have hlt : k' / 2 < k' := by omega
      rcases (show k' % 2 = 1 ∨ k' % 2 = 0 by omega) with e | e
      · rw [if_pos e] at hs
        rw [e] at h1
        have HS := Lib.hid hs
        have HB := Lib.hid (Nat.mod_lt (o * a') PP_pos)
        clear hs hrel e ho hoB h0
        generalize a' * a' % PP = a2 at *
        generalize o * a' % PP = o2 at *
        generalize k' / 2 = k2 at *
        go_wp2_with fail
        refine (hm1 _).mono ?_
        rintro z w1 ⟨rfl, rfl⟩
        go_wp2_with fail
        refine (hm2 _).mono ?_
        rintro z w1 ⟨rfl, rfl⟩
        go_wp2_with fail
        go_roundw
        case rel => exact ⟨a2, k2, o2, rfl, rfl, rfl, hq, hkk, HB.out, HS.out, by first | trivial | rfl⟩
        case measure => simp [intOf]; omega
      · rw [if_neg (by omega)] at hs
        rw [e] at h1
        have HS := Lib.hid hs
        have HB := Lib.hid ho
        clear hs hrel e ho hoB h0 hm1
        generalize a' * a' % PP = a2 at *
        generalize k' / 2 = k2 at *
        go_wp2_with fail
        refine (hm2 _).mono ?_
        rintro z w1 ⟨rfl, rfl⟩
        go_wp2_with fail
        go_roundw
        case rel => exact ⟨a2, k2, o, rfl, rfl, rfl, hq, hkk, HB.out, HS.out, by first | trivial | rfl⟩
        case measure => simp [intOf]; omega
/-- Whether n is a length. -/
def lenB (n : Int) : Bool := decide (1 ≤ n) && (decide (n ≤ 65536) && decide (bits BinOp.and IntKind.i64 n (n - 1) = 0))
theorem isLength_c (n : Int) (w : World) : Calls Try.prog 54 #[.int .i64 n] w fun e w' => e = .returned (.bool (lenB n)) ∧ w = w' := by
  unfold lenB
  by_cases h1 : 1 ≤ n
  · have d1 : decide (1 ≤ n) = true := decide_eq_true h1
    by_cases h2 : n ≤ 65536
    · have d2 : decide (n ≤ 65536) = true := decide_eq_true h2
      obtain ⟨x, hx⟩ : ∃ x, bits BinOp.and IntKind.i64 n (n - 1) = x := ⟨_, rfl⟩
      rw [d1, d2, hx, Bool.true_and, Bool.true_and]
      have hb : (x == 0) = decide (x = 0) := by by_cases h : x = 0 <;> simp [h]
      generalize decide (x = 0) = b at *
      go_enter Try.func54, Try.ntmps54
      go_wp2_with fail
      go_ret
      exact ⟨rfl, rfl⟩
    · have d2 : decide (n ≤ 65536) = false := decide_eq_false h2
      rw [d1, d2]
      clear h2
      go_enter Try.func54, Try.ntmps54
      go_wp2_with fail
      go_ret
      exact ⟨rfl, rfl⟩
  · have d1 : decide (1 ≤ n) = false := decide_eq_false h1
    rw [d1]
    clear h1
    go_enter Try.func54, Try.ntmps54
    go_wp2_with fail
    go_ret
    exact ⟨rfl, rfl⟩
theorem lenB_range {n : Int} (h : lenB n = true) : 1 ≤ n ∧ n ≤ 65536 := by
  unfold lenB at h
  simp only [Bool.and_eq_true, decide_eq_true_eq] at h
  exact ⟨h.1, h.2.1⟩
theorem root_c (n : Nat) (w : World) (h1 : 1 ≤ n) (h2 : n ≤ 65536) : Calls Try.prog 55 #[.int .i64 (n : Int)] w fun e w' => e = .returned (.int .u64 ((rootN n : Nat) : Int)) ∧ w = w' := by
  have hq : (18446744069414584320 : Int) / (n : Int) = (((PP - 1) / n : Nat) : Int) := by rw [PP_eq, Int.natCast_ediv]; rfl
  have hqB : (PP - 1) / n < B := by
    refine Nat.lt_of_le_of_lt (Nat.div_le_self _ _) ?_
    rw [PP_eq, B_eq]
    omega
  have hpw : ∀ w, Calls Try.prog 60 #[.int .u64 7, .int .u64 (((PP - 1) / n : Nat) : Int)] w fun e w' => e = .returned (.int .u64 ((rootN n : Nat) : Int)) ∧ w = w' := fun w => power04_c 7 ((PP - 1) / n) w (by rw [B_eq]; omega) hqB
  generalize rootN n = r at *
  have hw1 : IntKind.u64.wrap (n : Int) = (n : Int) := by rw [IntKind.wrap_u64]; omega
  have hn0 : ((n : Int) == 0) = false := by rw [beq_eq_false_iff_ne]; omega
  generalize (PP - 1) / n = q at *
  have hw2 : IntKind.u64.wrap (q : Int) = (q : Int) := by rw [IntKind.wrap_u64]; rw [B_eq] at hqB; omega
  go_enter Try.func55, Try.ntmps55
  go_wp2_with fail
  refine (hpw _).mono ?_
  rintro z w1 ⟨rfl, rfl⟩
  go_wp2
  go_ret
  exact ⟨rfl, rfl⟩
/-- Root, of any length. -/
def rtE (n : Int) : Int := if lenB n = true then 0 else 1
def rtV (n : Int) : Nat := if lenB n = true then rootN n.toNat else 0
theorem Root_c (n : Int) (w : World) : Calls Try.prog 13 #[.int .i64 n] w fun e w' => e = .returned (.tuple #[.int .u64 (rtV n : Int), .int .i64 (rtE n)]) ∧ w = w' := by
  have hl := fun w => isLength_c n w
  unfold rtV rtE
  by_cases h : lenB n = true
  · rw [if_pos h, if_pos h]
    obtain ⟨h1, h2⟩ := lenB_range h
    obtain ⟨m, rfl⟩ := Int.eq_ofNat_of_zero_le (show 0 ≤ n by omega)
    have hr := fun w => root_c m w (by omega) (by omega)
    rw [h] at hl
    rw [Int.toNat_natCast]
    generalize rootN m = r at *
    clear h
    go_enter Try.func13, Try.ntmps13
    go_wp2_with fail
    refine (hl _).mono ?_
    rintro z w1 ⟨rfl, rfl⟩
    go_wp2_with fail
    refine (hr _).mono ?_
    rintro z w1 ⟨rfl, rfl⟩
    go_wp2
    go_ret2
    exact ⟨rfl, rfl⟩
  · rw [if_neg h, if_neg h]
    rw [show lenB n = false by simpa using h] at hl
    clear h
    go_enter Try.func13, Try.ntmps13
    go_wp2_with fail
    refine (hl _).mono ?_
    rintro z w1 ⟨rfl, rfl⟩
    go_wp2
    go_ret2
    exact ⟨rfl, rfl⟩
end Go.Proofs.Ythbnkhgcfcigjaa
namespace Go.Proofs.Ythbnkhgcfcigjaa
open Go.RowKit

theorem are1_c (x : Nat) (w : World) : Calls Try.prog 88 #[.int .u64 (x : Int)] w fun e w' => e = .returned (.bool (decide (PP ≤ x))) ∧ w = w' := by
  have hd : decide ((18446744069414584321 : Int) ≤ (x : Int)) = decide (PP ≤ x) := by rw [decide_eq_decide, PP_eq]; omega
  generalize decide (PP ≤ x) = b at *
  go_enter Try.func88, Try.ntmps88
  go_wp2
  go_ret
  exact ⟨rfl, rfl⟩
def bigB (xs : List Nat) : Bool := xs.any fun x => decide (PP ≤ x)
theorem bigB_true {xs : List Nat} (i : Nat) (hi : i < xs.length) (h : PP ≤ xs.getD i 0) : bigB xs = true := by
  refine List.any_eq_true.2 ⟨xs[i], List.getElem_mem hi, decide_eq_true ?_⟩
  rwa [List.getD_eq_getElem?_getD, List.getElem?_eq_getElem hi] at h
theorem bigB_false {xs : List Nat} (h : ∀ i, i < xs.length → xs.getD i 0 < PP) : bigB xs = false := by
  rw [Bool.eq_false_iff]
  intro hb
  obtain ⟨x, hx, hp⟩ := List.any_eq_true.1 hb
  obtain ⟨i, hi, rfl⟩ := List.mem_iff_getElem.1 hx
  have := h i hi
  rw [List.getD_eq_getElem?_getD, List.getElem?_eq_getElem hi] at this
  have h2 := of_decide_eq_true hp
  simp only [Option.getD_some] at this
  omega
set_option maxHeartbeats 2000000 in
set_option maxRecDepth 100000 in
theorem indexFunc_c (A : Option Addr) (c : Nat) (xs : List Nat) (w : World) (h : Rd w A c xs) :
    Calls Try.prog 102 #[.slice A xs.length c, .func (.func 88) #[] #[]] w fun e w' => ∃ i : Int, e = .returned (.int .i64 i) ∧ decide (0 ≤ i) = bigB xs ∧ w = w' := by
  have hl := h.len
  go_enter Try.func102, Try.ntmps102
  go_wp2_with fail
  go_loopw [8] (fun v8 wr => ∃ i : Nat, i ≤ xs.length ∧ v8 = .int .i64 (i : Int) ∧ (∀ j, j < i → xs.getD j 0 < PP) ∧ wr = w) (fun v _ => xs.length - (intOf v).toNat)
  case atStart => exact ⟨0, Nat.zero_le _, rfl, fun j hj => absurd hj (by omega), rfl⟩
  case round =>
    obtain ⟨i, hi, rfl, hsm, rfl⟩ := hrel
    by_cases hlt : i < xs.length
    · obtain ⟨ad, rfl, hx⟩ := h.cell i hlt
      have hb1 := fun h => bigB_true i hlt h
      obtain ⟨x, hx'⟩ : ∃ x, xs.getD i 0 = x := ⟨_, rfl⟩
      have hsm2 : x < PP → ∀ j, j < i + 1 → xs.getD j 0 < PP := fun hp j hj => by
        rcases Nat.lt_or_ge j i with h4 | h4
        · exact hsm j h4
        · obtain rfl : j = i := by omega
          rw [hx']; exact hp
      rw [hx'] at hx hb1
      have hf := fun w => are1_c x w
      have HS := Lib.hid hsm2
      have HB := Lib.hid hb1
      clear hx' hsm hsm2 hb1
      go_wp2_with fail
      refine (hf _).mono ?_
      rintro z w1 ⟨rfl, rfl⟩
      by_cases hp : PP ≤ x
      · rw [decide_eq_true hp]
        have hb := HB.out hp
        clear hp HS HB
        go_wp2_with fail
        go_ret
        exact ⟨_, rfl, by rw [hb]; exact decide_eq_true (by omega), rfl⟩
      · rw [decide_eq_false hp]
        have hs := HS.out (by omega)
        have HS2 := Lib.hid hs
        clear hp HS HB hs
        go_wp2_with fail
        go_roundw
        case rel => exact ⟨i + 1, hlt, by go_num, HS2.out, by first | trivial | rfl⟩
        case measure => simp [intOf]; omega
    · obtain rfl : i = xs.length := by omega
      have hb := bigB_false hsm
      clear hsm
      go_wp2_with fail
      go_ret
      exact ⟨_, rfl, by rw [hb]; rfl, rfl⟩
theorem containsFunc_c (A : Option Addr) (c : Nat) (xs : List Nat) (w : World) (h : Rd w A c xs) :
    Calls Try.prog 87 #[.slice A xs.length c, .func (.func 88) #[] #[]] w fun e w' => e = .returned (.bool (bigB xs)) ∧ w = w' := by
  have hi := fun w h => indexFunc_c A c xs w h
  go_enter Try.func87, Try.ntmps87
  go_wp2_with fail
  refine (hi _ h).mono ?_
  rintro z w1 ⟨i, rfl, hb, rfl⟩
  go_wp2
  go_ret
  exact ⟨rfl, rfl⟩
theorem are_c (A : Option Addr) (c : Nat) (xs : List Nat) (w : World) (h : Rd w A c xs) :
    Calls Try.prog 62 #[.slice A xs.length c] w fun e w' => e = .returned (.bool (!bigB xs)) ∧ w = w' := by
  have hi := fun w h => containsFunc_c A c xs w h
  generalize bigB xs = b at *
  go_enter Try.func62, Try.ntmps62
  go_wp2_with fail
  refine (hi _ h).mono ?_
  rintro z w1 ⟨rfl, rfl⟩
  go_wp2
  go_ret
  exact ⟨rfl, rfl⟩
end Go.Proofs.Ythbnkhgcfcigjaa
namespace Go.Proofs.Ythbnkhgcfcigjaa
open Go.RowKit

/-- The answer of an operation on residues. -/
def opR (w : World) (ok : Bool) (v : Nat) (e : Ending) (w' : World) : Prop := e = .returned (.tuple #[.int .u64 ((if ok = true then v else 0 : Nat) : Int), .int .i64 (if ok = true then 0 else 1)]) ∧ Ext w w'
def okB (a b : Nat) : Bool := decide (a < PP) && decide (b < PP)
theorem ok_big (a b : Nat) : bigB [a, b] = !okB a b := by
  unfold bigB okB
  simp only [List.any_cons, List.any_nil, Bool.or_false]
  by_cases h1 : a < PP <;> by_cases h2 : b < PP <;> simp [h1, h2, Nat.not_le.2, Nat.le_of_not_lt]
theorem ok_one (a : Nat) : bigB [a] = !decide (a < PP) := by
  unfold bigB
  simp only [List.any_cons, List.any_nil, Bool.or_false]
  by_cases h1 : a < PP <;> simp [h1, Nat.not_le.2, Nat.le_of_not_lt]
set_option maxHeartbeats 1000000 in
theorem op_plus (g a b : Nat) (w : World) (ha : a < B) (hb : b < B) (hF : okB a b = true → ∀ w, Calls Try.prog 78 #[.int .u64 (a : Int), .int .u64 (b : Int)] w fun e w' => e = .returned (.int .u64 (g : Int)) ∧ w = w') :
    Calls Try.prog 77 #[.int .u64 (a : Int), .int .u64 (b : Int), .func (.func 78) #[] #[]] w (opR w (okB a b) g) := by
  have hr := Rd.new2 w a b ha hb
  have hA := (Ext.refl w).al (.cells #[.int .u64 (a : Int), .int .u64 (b : Int)] 22)
  have har := are_c (some ⟨w.heap.size, 0, none⟩) 2 [a, b] _ hr
  rw [ok_big, Bool.not_not] at har
  unfold opR
  cases hok : okB a b with
  | true =>
    have hF' := hF hok
    rw [hok] at har
    simp only [if_true]
    clear hF hok ha hb
    go_enter Try.func77, Try.ntmps77
    go_wp2_with fail
    refine har.mono ?_
    rintro z w1 ⟨rfl, rfl⟩
    go_wp2_with fail
    refine (hF' _).mono ?_
    rintro z w1 ⟨rfl, rfl⟩
    go_wp2
    go_ret2
    exact ⟨rfl, hA⟩
  | false =>
    rw [hok] at har
    simp only [Bool.false_eq_true, if_false]
    clear hF hok ha hb
    go_enter Try.func77, Try.ntmps77
    go_wp2_with fail
    refine har.mono ?_
    rintro z w1 ⟨rfl, rfl⟩
    go_wp2
    go_ret2
    exact ⟨rfl, hA⟩
set_option maxHeartbeats 1000000 in
theorem op_minus (g a b : Nat) (w : World) (ha : a < B) (hb : b < B) (hF : okB a b = true → ∀ w, Calls Try.prog 79 #[.int .u64 (a : Int), .int .u64 (b : Int)] w fun e w' => e = .returned (.int .u64 (g : Int)) ∧ w = w') :
    Calls Try.prog 77 #[.int .u64 (a : Int), .int .u64 (b : Int), .func (.func 79) #[] #[]] w (opR w (okB a b) g) := by
  have hr := Rd.new2 w a b ha hb
  have hA := (Ext.refl w).al (.cells #[.int .u64 (a : Int), .int .u64 (b : Int)] 22)
  have har := are_c (some ⟨w.heap.size, 0, none⟩) 2 [a, b] _ hr
  rw [ok_big, Bool.not_not] at har
  unfold opR
  cases hok : okB a b with
  | true =>
    have hF' := hF hok
    rw [hok] at har
    simp only [if_true]
    clear hF hok ha hb
    go_enter Try.func77, Try.ntmps77
    go_wp2_with fail
    refine har.mono ?_
    rintro z w1 ⟨rfl, rfl⟩
    go_wp2_with fail
    refine (hF' _).mono ?_
    rintro z w1 ⟨rfl, rfl⟩
    go_wp2
    go_ret2
    exact ⟨rfl, hA⟩
  | false =>
    rw [hok] at har
    simp only [Bool.false_eq_true, if_false]
    clear hF hok ha hb
    go_enter Try.func77, Try.ntmps77
    go_wp2_with fail
    refine har.mono ?_
    rintro z w1 ⟨rfl, rfl⟩
    go_wp2
    go_ret2
    exact ⟨rfl, hA⟩
set_option maxHeartbeats 1000000 in
theorem op_times (g a b : Nat) (w : World) (ha : a < B) (hb : b < B) (hF : okB a b = true → ∀ w, Calls Try.prog 80 #[.int .u64 (a : Int), .int .u64 (b : Int)] w fun e w' => e = .returned (.int .u64 (g : Int)) ∧ w = w') :
    Calls Try.prog 77 #[.int .u64 (a : Int), .int .u64 (b : Int), .func (.func 80) #[] #[]] w (opR w (okB a b) g) := by
  have hr := Rd.new2 w a b ha hb
  have hA := (Ext.refl w).al (.cells #[.int .u64 (a : Int), .int .u64 (b : Int)] 22)
  have har := are_c (some ⟨w.heap.size, 0, none⟩) 2 [a, b] _ hr
  rw [ok_big, Bool.not_not] at har
  unfold opR
  cases hok : okB a b with
  | true =>
    have hF' := hF hok
    rw [hok] at har
    simp only [if_true]
    clear hF hok ha hb
    go_enter Try.func77, Try.ntmps77
    go_wp2_with fail
    refine har.mono ?_
    rintro z w1 ⟨rfl, rfl⟩
    go_wp2_with fail
    refine (hF' _).mono ?_
    rintro z w1 ⟨rfl, rfl⟩
    go_wp2
    go_ret2
    exact ⟨rfl, hA⟩
  | false =>
    rw [hok] at har
    simp only [Bool.false_eq_true, if_false]
    clear hF hok ha hb
    go_enter Try.func77, Try.ntmps77
    go_wp2_with fail
    refine har.mono ?_
    rintro z w1 ⟨rfl, rfl⟩
    go_wp2
    go_ret2
    exact ⟨rfl, hA⟩
theorem Add_c (a b : Nat) (w : World) (ha : a < B) (hb : b < B) : Calls Try.prog 39 #[.int .u64 (a : Int), .int .u64 (b : Int)] w (opR w (okB a b) ((a + b) % PP)) := by
  have hop := fun w => op_plus ((a + b) % PP) a b w ha hb (fun h w => by unfold okB at h; simp only [Bool.and_eq_true, decide_eq_true_eq] at h; exact plus_c a b w h.1 h.2)
  unfold opR at hop ⊢
  obtain ⟨v, hv⟩ : ∃ v : Nat, (if okB a b = true then (a + b) % PP else 0) = v := ⟨_, rfl⟩
  obtain ⟨e, he⟩ : ∃ e : Int, (if okB a b = true then 0 else 1) = e := ⟨_, rfl⟩
  rw [hv, he] at hop ⊢
  clear hv he
  go_enter Try.func39, Try.ntmps39
  go_wp2_with fail
  refine (hop _).mono ?_
  rintro z w1 ⟨rfl, hb1⟩
  go_wp2
  go_ret2
  exact ⟨rfl, hb1⟩
theorem Sub_c (a b : Nat) (w : World) (ha : a < B) (hb : b < B) : Calls Try.prog 40 #[.int .u64 (a : Int), .int .u64 (b : Int)] w (opR w (okB a b) ((a + PP - b) % PP)) := by
  have hop := fun w => op_minus ((a + PP - b) % PP) a b w ha hb (fun h w => by unfold okB at h; simp only [Bool.and_eq_true, decide_eq_true_eq] at h; exact minus_c a b w h.1 h.2)
  unfold opR at hop ⊢
  obtain ⟨v, hv⟩ : ∃ v : Nat, (if okB a b = true then (a + PP - b) % PP else 0) = v := ⟨_, rfl⟩
  obtain ⟨e, he⟩ : ∃ e : Int, (if okB a b = true then 0 else 1) = e := ⟨_, rfl⟩
  rw [hv, he] at hop ⊢
  clear hv he
  go_enter Try.func40, Try.ntmps40
  go_wp2_with fail
  refine (hop _).mono ?_
  rintro z w1 ⟨rfl, hb1⟩
  go_wp2
  go_ret2
  exact ⟨rfl, hb1⟩
theorem Times_c (a b : Nat) (w : World) (ha : a < B) (hb : b < B) : Calls Try.prog 41 #[.int .u64 (a : Int), .int .u64 (b : Int)] w (opR w (okB a b) (a * b % PP)) := by
  have hop := fun w => op_times (a * b % PP) a b w ha hb (fun _ w => times_c a b w ha hb)
  unfold opR at hop ⊢
  obtain ⟨v, hv⟩ : ∃ v : Nat, (if okB a b = true then a * b % PP else 0) = v := ⟨_, rfl⟩
  obtain ⟨e, he⟩ : ∃ e : Int, (if okB a b = true then 0 else 1) = e := ⟨_, rfl⟩
  rw [hv, he] at hop ⊢
  clear hv he
  go_enter Try.func41, Try.ntmps41
  go_wp2_with fail
  refine (hop _).mono ?_
  rintro z w1 ⟨rfl, hb1⟩
  go_wp2
  go_ret2
  exact ⟨rfl, hb1⟩
end Go.Proofs.Ythbnkhgcfcigjaa
namespace Go.Proofs.Ythbnkhgcfcigjaa
open Go.RowKit

theorem Rd.nw1 (w : World) (x : Nat) (hx : x < B) : Rd (w.alloc (.cells #[.int .u64 (x : Int)] 22)) (some ⟨w.heap.size, 0, none⟩) 1 [x] :=
  Bk.rd (xs := [x]) ⟨heap_alloc_new w _, W64.cons hx W64.nil⟩ (by simp) (by simp)
set_option maxHeartbeats 1000000 in
theorem Pow_c (a k : Nat) (w : World) (ha : a < B) (hk : k < B) : Calls Try.prog 46 #[.int .u64 (a : Int), .int .u64 (k : Int)] w (opR w (decide (a < PP)) (a ^ k % PP)) := by
  have hr := Rd.nw1 w a ha
  have hA := (Ext.refl w).al (.cells #[.int .u64 (a : Int)] 22)
  have har := are_c (some ⟨w.heap.size, 0, none⟩) 1 [a] _ hr
  have hpw := fun w => power04_c a k w ha hk
  rw [ok_one, Bool.not_not] at har
  unfold opR
  generalize a ^ k % PP = r at *
  cases hok : decide (a < PP) with
  | true =>
    rw [hok] at har
    simp only [if_true]
    clear hok ha hk
    go_enter Try.func46, Try.ntmps46
    go_wp2_with fail
    refine har.mono ?_
    rintro z w1 ⟨rfl, rfl⟩
    go_wp2_with fail
    refine (hpw _).mono ?_
    rintro z w1 ⟨rfl, rfl⟩
    go_wp2
    go_ret2
    exact ⟨rfl, hA⟩
  | false =>
    rw [hok] at har
    simp only [Bool.false_eq_true, if_false]
    clear hok ha hk
    go_enter Try.func46, Try.ntmps46
    go_wp2_with fail
    refine har.mono ?_
    rintro z w1 ⟨rfl, rfl⟩
    go_wp2
    go_ret2
    exact ⟨rfl, hA⟩
/-- The error of Inverse, and its answer. -/
def inE (a : Nat) : Int := if a < PP then (if a = 0 then 5 else 0) else 1
def inV (a : Nat) : Nat := if a < PP then (if a = 0 then 0 else a ^ (PP - 2) % PP) else 0
set_option maxHeartbeats 1000000 in
theorem Inverse_c (a : Nat) (w : World) (ha : a < B) : Calls Try.prog 42 #[.int .u64 (a : Int)] w fun e w' => e = .returned (.tuple #[.int .u64 (inV a : Int), .int .i64 (inE a)]) ∧ Ext w w' := by
  have hr := Rd.nw1 w a ha
  have hA := (Ext.refl w).al (.cells #[.int .u64 (a : Int)] 22)
  have har := are_c (some ⟨w.heap.size, 0, none⟩) 1 [a] _ hr
  have hpw : ∀ w, Calls Try.prog 60 #[.int .u64 (a : Int), .int .u64 18446744069414584319] w fun e w' => e = .returned (.int .u64 ((a ^ (PP - 2) % PP : Nat) : Int)) ∧ w = w' := fun w => power04_c a (PP - 2) w ha (by rw [PP_eq, B_eq]; omega)
  rw [ok_one, Bool.not_not] at har
  unfold inV inE
  generalize a ^ (PP - 2) % PP = r at *
  by_cases hok : a < PP
  · rw [decide_eq_true hok] at har
    rw [if_pos hok, if_pos hok]
    by_cases h0 : a = 0
    · subst h0
      rw [if_pos rfl, if_pos rfl]
      clear hok ha
      go_enter Try.func42, Try.ntmps42
      go_wp2_with fail
      refine har.mono ?_
      rintro z w1 ⟨rfl, rfl⟩
      go_wp2
      go_ret2
      exact ⟨rfl, hA⟩
    · rw [if_neg h0, if_neg h0]
      have hb : ((a : Int) == 0) = false := by rw [beq_eq_false_iff_ne]; omega
      have hb2 : (a = 0) = False := eq_false h0
      clear hok ha h0
      go_enter Try.func42, Try.ntmps42
      go_wp2_with fail
      refine har.mono ?_
      rintro z w1 ⟨rfl, rfl⟩
      go_wp2_with fail
      refine (hpw _).mono ?_
      rintro z w1 ⟨rfl, rfl⟩
      go_wp2
      go_ret2
      exact ⟨rfl, hA⟩
  · rw [decide_eq_false hok] at har
    rw [if_neg hok, if_neg hok]
    clear hok ha
    go_enter Try.func42, Try.ntmps42
    go_wp2_with fail
    refine har.mono ?_
    rintro z w1 ⟨rfl, rfl⟩
    go_wp2
    go_ret2
    exact ⟨rfl, hA⟩
end Go.Proofs.Ythbnkhgcfcigjaa
