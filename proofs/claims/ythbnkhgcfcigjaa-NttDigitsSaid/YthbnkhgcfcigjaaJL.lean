/- Chapter 04's law: few, tame, residues. -/
import Derived.Test.YthbnkhgcfcigjaaJI
set_option linter.unusedVariables false
set_option linter.unusedSimpArgs false
namespace Go.Proofs.Ythbnkhgcfcigjaa
open Go.RowKit

theorem take_min (xs : List Nat) (most : Nat) : xs.take (min xs.length most) = xs.take most := by
  rcases Nat.le_total xs.length most with h | h
  · rw [Nat.min_eq_left h, List.take_length, List.take_of_length_le h]
  · rw [Nat.min_eq_right h]
set_option maxHeartbeats 2000000 in
set_option maxRecDepth 100000 in
theorem few_c (A : Option Addr) (c : Nat) (xs : List Nat) (most : Nat) (w : World) (h : Rd w A c xs) (hm : most ≤ 1000000) :
    Calls Try.prog 17 #[.slice A xs.length c, .int .i64 (most : Int)] w (Res w (xs.take most)) := by
  have hl := h.len
  have hc := h.cap
  rw [← take_min]
  obtain ⟨m, hmm⟩ : ∃ m, min xs.length most = m := ⟨_, rfl⟩
  have hmi : min (xs.length : Int) (most : Int) = (m : Int) := by omega
  have hml : m ≤ xs.length := by omega
  have hmo : m ≤ 1000000 := by omega
  have hmc : (m : Int) ≤ (c : Int) := by omega
  rw [hmm]
  have ht := h.take m hml (c' := c) (by omega)
  have htl : (xs.take m).length = m := by rw [List.length_take]; omega
  generalize xs.take m = ys at *
  have HT := Lib.hid htl
  clear hmm htl
  go_enter Try.func17, Try.ntmps17
  go_wp2_with (at_builtin; refine wp_append rfl _ _ _ rfl Try.underlying30 w.heap.size _ [] rfl (Own.nil _ _) A m c ys HT.out rfl ht (Nat.le_refl _) (by have := HT.out; simp; omega) ?_; intro v' w4 ho4 hb4 hat hg4)
  go_ret
  exact ⟨_, rfl, ho4, hb4⟩
theorem tab_snoc (n : Nat) (f : Nat → Nat) : tab n f ++ [f n] = tab (n + 1) f := by
  unfold tab
  rw [List.range_succ, List.map_append]
  rfl
/-- The residues of a list's first words. -/
def rsL (xs : List Nat) (n : Nat) : List Nat := tab n fun i => xs.getD i 0 % PP
theorem rsL_al (xs : List Nat) (n : Nat) : Al (rsL xs n) := tab_al fun i hi => Nat.mod_lt _ PP_pos
theorem rsL_len (xs : List Nat) (n : Nat) : (rsL xs n).length = n := tab_len _ _
set_option maxHeartbeats 2000000 in
set_option maxRecDepth 100000 in
theorem residues_c (A : Option Addr) (c : Nat) (xs : List Nat) (most : Nat) (w : World) (h : Rd w A c xs) (hm : most ≤ 1000000) :
    Calls Try.prog 27 #[.slice A xs.length c, .int .i64 (most : Int)] w (Res w (rsL xs (min xs.length most))) := by
  obtain ⟨m, hmm⟩ : ∃ m, min xs.length most = m := ⟨_, rfl⟩
  rw [hmm]
  have hl := h.len
  go_enter Try.func27, Try.ntmps27
  go_wp2_with fail
  go_loopw [5, 6] (fun v5 v6 wr => ∃ i : Nat, i ≤ m ∧ v6 = .int .i64 (i : Int) ∧ Own wr w.heap.size v5 (rsL xs i) ∧ Ext w wr) (fun _ v _ => m - (intOf v).toNat)
  case atStart => exact ⟨0, Nat.zero_le _, rfl, Own.nil _ _, Ext.refl _⟩
  case round =>
    obtain ⟨i, hi, rfl, ho, hE⟩ := hrel
    by_cases hlt : i < m
    · have hx0 : i < xs.length := by omega
      obtain ⟨ad, rfl, hx⟩ := h.cell i hx0
      replace hx := hE.cell hx
      have ht : rsL xs i ++ [xs.getD i 0 % PP] = rsL xs (i + 1) := tab_snoc i fun i => xs.getD i 0 % PP
      have hln : (rsL xs i).length ≤ 1000000 := by rw [rsL_len]; omega
      have hr1 : ((xs.getD i 0 : Nat) : Int).tmod 18446744069414584321 = ((xs.getD i 0 % PP : Nat) : Int) := by rw [Int.tmod_eq_emod_of_nonneg (by omega), PP_eq]; omega
      have hr2 : ((xs.getD i 0 : Nat) : Int) % 18446744069414584321 = ((xs.getD i 0 % PP : Nat) : Int) := by rw [PP_eq]; omega
      have hyB : xs.getD i 0 % PP < B := Nat.lt_trans (Nat.mod_lt _ PP_pos) PP_lt_B
      generalize xs.getD i 0 % PP = y at *
      generalize xs.getD i 0 = x at *
      have HT := Lib.hid ht
      have HO := Lib.hid ho
      have HL := Lib.hid hln
      have c1 : decide (i < xs.length) = true := decide_eq_true (by omega)
      have c2 : decide (i < most) = true := decide_eq_true (by omega)
      have hsz := hE.size
      have HMM := Lib.hid hmm
      clear ht ho hln hmm
      generalize rsL xs i = ys at *
      go_wp2_with (first
        | (at_builtin; refine wp_append rfl _ _ _ rfl Try.underlying30 w.heap.size _ ys rfl (HO.out.ext ((Ext.refl _).al _)) (some ⟨wr.heap.size, 0, none⟩) 1 1 [y] rfl rfl (Rd.nw1 wr y hyB) ?hb ?hl ?_; (case hb => simp; omega); (case hl => have := HL.out; simp; omega); intro v' w4 ho4 hb4 hat hg4; have hE4 : Ext w w4 := (hE.al _).trans hb4; clear hat hg4 hb4))
      go_roundw
      case rel => exact ⟨i + 1, hlt, by go_num, by rw [← HT.out]; exact ho4, hE4⟩
      case measure => simp [intOf]; omega
    · obtain rfl : i = m := by omega
      rcases Nat.lt_or_ge i xs.length with h1 | h1
      · have c1 : decide (i < xs.length) = true := decide_eq_true (by omega)
        have c2 : decide (i < most) = false := decide_eq_false (by omega)
        clear hmm
        go_wp2_with fail
        go_ret
        exact ⟨_, rfl, ho, hE⟩
      · have c1 : decide (i < xs.length) = false := decide_eq_false (by omega)
        clear hmm
        go_wp2_with fail
        go_ret
        exact ⟨_, rfl, ho, hE⟩
set_option maxHeartbeats 4000000 in
set_option maxRecDepth 100000 in
theorem tame_c (A : Option Addr) (c : Nat) (xs : List Nat) (most : Nat) (w : World) (h : Rd w A c xs) (hm : most ≤ 16) :
    Calls Try.prog 26 #[.slice A xs.length c, .int .i64 (most : Int)] w fun e w' => ∃ m, m ≤ most ∧ ∃ v, e = .returned v ∧ Own w' w.heap.size v (rsL xs (2 ^ m)) ∧ Ext w w' := by
  have hl := h.len
  obtain ⟨M, hM⟩ : ∃ M, 2 ^ most = M := ⟨_, rfl⟩
  have hMi : (2 : Int) ^ most = (M : Int) := by rw [← hM, Int.natCast_pow]; rfl
  have hM16 : M ≤ 65536 := by rw [← hM]; exact Nat.pow_le_pow_right (n := 2) (by omega) hm
  have HM := Lib.hid hM
  clear hM
  go_enter Try.func26, Try.ntmps26
  go_wp2_with fail
  go_loopw [5] (fun v5 wr => ∃ k : Nat, k ≤ most ∧ v5 = .int .i64 ((2 ^ k : Nat) : Int) ∧ wr = w) (fun v _ => M + 1 - (intOf v).toNat)
  case atStart => exact ⟨0, Nat.zero_le _, rfl, rfl⟩
  case round =>
    obtain ⟨k, hk, rfl, rfl⟩ := hrel
    have hp : 2 ^ (k + 1) = 2 ^ k * 2 := Nat.pow_succ 2 k
    have hpos := Nat.two_pow_pos k
    have hle : 2 ^ k ≤ M := by rw [← HM.out]; exact Nat.pow_le_pow_right (by omega) hk
    by_cases hgo : 2 * 2 ^ k ≤ xs.length ∧ 2 * 2 ^ k ≤ M
    · have hk2 : k + 1 ≤ most := by
        rcases Nat.lt_or_ge k most with h1 | h1
        · exact h1
        · have := Nat.pow_le_pow_right (n := 2) (by omega) h1
          rw [HM.out] at this
          omega
      obtain ⟨g1, g2⟩ := hgo
      obtain ⟨n, hn⟩ : ∃ n, 2 ^ k = n := ⟨_, rfl⟩
      rw [hn] at hp hpos hle g1 g2 ⊢
      have HP := Lib.hid hp
      have c1 : decide ((2 : Int) * (n : Int) ≤ (xs.length : Int)) = true := decide_eq_true (by omega)
      have c2 : decide ((2 : Int) * (n : Int) ≤ (M : Int)) = true := decide_eq_true (by omega)
      clear hp hn
      go_wp2_with fail
      go_roundw
      case rel => exact ⟨k + 1, hk2, by rw [HP.out]; go_num, by first | trivial | rfl⟩
      case measure => simp [intOf]; omega
    · obtain ⟨n, hn⟩ : ∃ n, 2 ^ k = n := ⟨_, rfl⟩
      rw [hn] at hp hpos hle hgo ⊢
      have HN := Lib.hid hn
      clear hp hn
      have d : decide ((2 : Int) * (n : Int) ≤ (xs.length : Int)) = false ∨ (decide ((2 : Int) * (n : Int) ≤ (xs.length : Int)) = true ∧ decide ((2 : Int) * (n : Int) ≤ (M : Int)) = false) := by
        rcases Nat.lt_or_ge xs.length (2 * n) with h1 | h1
        · exact .inl (decide_eq_false (by omega))
        · exact .inr ⟨decide_eq_true (by omega), decide_eq_false (by omega)⟩
      clear hgo
      have hn16 : n ≤ 65536 := by omega
      rcases d with c1 | ⟨c1, c2⟩
      all_goals (
        go_wp2_with (at_make; refine wp_make rfl _ _ _ rfl Try.underlying30 n _ rfl rfl rfl (by omega) ?_; intro g w1 hg1 hb1 he1)
        clear c1
        try clear c2
        have hrd := h.ext he1
        go_loopw [7] (fun v7 w2 => ∃ (i : Nat) (zs : List Nat), i ≤ n ∧ v7 = .int .i64 (i : Int) ∧ Bk w2 g zs ∧ Hf (fun k => xs.getD k 0 % PP) (List.replicate n 0) zs i ∧ Gb g w1 w2 ∧ (i ≤ xs.length)) (fun v _ => n - (intOf v).toNat)
        case atStart => exact ⟨0, _, Nat.zero_le _, rfl, hb1, Hf.zero _ _, Gb.refl _ _, Nat.zero_le _⟩
        case round =>
          obtain ⟨i, zs, hi, rfl, hb2, hf2, hg2, hil⟩ := hrel
          have hzl : zs.length = n := by rw [hf2.1, List.length_replicate]
          by_cases hlt : i < n ∧ i < xs.length
          · obtain ⟨hlt, hlx⟩ := hlt
            have hE2 := hg2.ext he1 hg1
            obtain ⟨ad, rfl, hx⟩ := h.cell i hlx
            replace hx := hE2.cell hx
            have hr1 : ((xs.getD i 0 : Nat) : Int).tmod 18446744069414584321 = ((xs.getD i 0 % PP : Nat) : Int) := by rw [Int.tmod_eq_emod_of_nonneg (by omega), PP_eq]; omega
            have hr2 : ((xs.getD i 0 : Nat) : Int) % 18446744069414584321 = ((xs.getD i 0 % PP : Nat) : Int) := by rw [PP_eq]; omega
            have hyB : xs.getD i 0 % PP < B := Nat.lt_trans (Nat.mod_lt _ PP_pos) PP_lt_B
            have hs := hf2.succ (by rw [List.length_replicate]; exact hlt)
            have e1 := hb2.cell i (by omega)
            have ef := hb2.frozen i
            have hb3 := hb2.set i (xs.getD i 0 % PP) hyB
            have hg3 := hg2.set i (.int .u64 ((xs.getD i 0 % PP : Nat) : Int))
            have HS := Lib.hid hs
            have HB := Lib.hid hb3
            have HG := Lib.hid hg3
            clear hs hb3 hg3 hzl hf2
            have HQ : ∃ x y, xs.getD i 0 = x ∧ xs.getD i 0 % PP = y := ⟨_, _, rfl, rfl⟩
            obtain ⟨x, y, hx1, hy1⟩ := HQ
            rw [hy1] at hr1 hr2 hyB HS HB HG
            rw [hx1] at hx hr1 hr2
            clear hx1 hy1
            generalize zs.getD i 0 = z0 at *
            have d1 : decide (i < n) = true := decide_eq_true (by omega)
            have d2 : decide (i < xs.length) = true := decide_eq_true (by omega)
            go_wp2_with fail
            go_roundw
            case rel => exact ⟨i + 1, _, hlt, by go_num, HB.out, HS.out, HG.out, hlx⟩
            case measure => simp [intOf]; omega
          · have hfin : zs = rsL xs n := by
              refine tab_eq hzl fun j hj => ?_
              rw [hf2.2 j]
              by_cases hji : j < i
              · rw [if_pos hji]
              · rw [if_neg hji, getD_replicate, getD_past (by omega)]
                rfl
            have dd : decide (i < n) = false ∨ (decide (i < n) = true ∧ decide (i < xs.length) = false) := by
              rcases Nat.lt_or_ge i n with h1 | h1
              · exact .inr ⟨decide_eq_true (by omega), decide_eq_false (by omega)⟩
              · exact .inl (decide_eq_false (by omega))
            have HF := Lib.hid hfin
            have HZ := Lib.hid hzl
            clear hfin hzl hf2 hlt
            have hE2 := hg2.ext he1 hg1
            rcases dd with d1 | ⟨d1, d2⟩
            all_goals (
              go_wp2_with fail
              go_ret
              have ho := hb2.own hg1 (by rw [HZ.out]; omega)
              rw [HZ.out, HF.out, ← HN.out] at ho
              refine ⟨k, hk, _, rfl, ?_, hE2⟩
              rw [← HN.out]
              exact ho))
end Go.Proofs.Ythbnkhgcfcigjaa
