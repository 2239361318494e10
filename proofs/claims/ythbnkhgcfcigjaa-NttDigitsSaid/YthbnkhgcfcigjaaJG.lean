/- package ntt: Digits, Join, Mul, Square. Chapter 04's reference and law: Length, same. Chapter 04's law: awake. -/
import Derived.Test.YthbnkhgcfcigjaaJD
import Derived.Test.YthbnkhgcfcigjaaJE
import Derived.Test.YthbnkhgcfcigjaaKX
import Derived.Test.YthbnkhgcfcigjaaKQ
import Derived.Test.YthbnkhgcfcigjaaKF
import Derived.Deep.QuietTactic
import Derived.BigQuiet
import Derived.Test.YthbnkhgcfcigjaaR8
set_option linter.unusedVariables false
set_option linter.unusedSimpArgs false
namespace Go.Proofs.Ythbnkhgcfcigjaa
open Go.RowKit

/-- Whether digits may have so many bits. -/
def isD (n : Int) : Bool := decide (n = 8) || (decide (n = 16) || decide (n = 32))
theorem isD_use {n : Int} (h : isD n = true) : ∃ s K : Nat, n = (s : Int) ∧ s * K = 64 ∧ 8 ≤ s ∧ s ≤ 32 := by
  unfold isD at h
  simp only [Bool.or_eq_true, decide_eq_true_eq] at h
  rcases h with h | h | h
  · exact ⟨8, 8, h, rfl, by omega, by omega⟩
  · exact ⟨16, 4, h, rfl, by omega, by omega⟩
  · exact ⟨32, 2, h, rfl, by omega, by omega⟩
theorem isDigit_c (n : Int) (w : World) : Calls Try.prog 76 #[.int .i64 n] w fun e w' => e = .returned (.bool (isD n)) ∧ w = w' := by
  unfold isD
  by_cases h1 : n = 8
  · subst h1
    go_enter Try.func76, Try.ntmps76
    go_wp2_with fail
    go_ret
    exact ⟨rfl, rfl⟩
  by_cases h2 : n = 16
  · subst h2
    go_enter Try.func76, Try.ntmps76
    go_wp2_with fail
    go_ret
    exact ⟨rfl, rfl⟩
  by_cases h3 : n = 32
  · subst h3
    go_enter Try.func76, Try.ntmps76
    go_wp2_with fail
    go_ret
    exact ⟨rfl, rfl⟩
  · rw [decide_eq_false h1, decide_eq_false h2, decide_eq_false h3]
    have n1 : (n == 8) = false := by rw [beq_eq_false_iff_ne]; exact h1
    have n2 : (n == 16) = false := by rw [beq_eq_false_iff_ne]; exact h2
    have n3 : (n == 32) = false := by rw [beq_eq_false_iff_ne]; exact h3
    clear h1 h2 h3
    go_enter Try.func76, Try.ntmps76
    go_wp2_with fail
    go_ret
    exact ⟨rfl, rfl⟩
def dgX (xs : List Nat) (n : Int) : List Nat := if xs.length ≤ 4096 then (if isD n = true then digs (2 ^ n.toNat) (val xs) else []) else []
def dgE (xs : List Nat) (n : Int) : Int := if xs.length ≤ 4096 then (if isD n = true then 0 else 1) else 2
set_option maxHeartbeats 2000000 in
set_option maxRecDepth 100000 in
theorem Digits_c (A : Option Addr) (c : Nat) (xs : List Nat) (n : Int) (w : World) (h : Rd w A c xs) :
    Calls Try.prog 38 #[.slice A xs.length c, .int .i64 n] w (LR w (dgX xs n) (dgE xs n)) := by
  have hid := fun w => isDigit_c n w
  unfold dgX dgE
  by_cases h1 : xs.length ≤ 4096
  · rw [if_pos h1, if_pos h1]
    have n1 : decide (4096 < (xs.length : Int)) = false := decide_eq_false (by omega)
    by_cases h2 : isD n = true
    · rw [if_pos h2, if_pos h2]
      rw [h2] at hid
      obtain ⟨s, K, rfl, hsK, hs1, hs2⟩ := isD_use h2
      have hdg := digits_c s K hsK hs1 hs2 A c xs w h (by omega)
      rw [Int.toNat_natCast]
      have hw : IntKind.u64.wrap (s : Int) = (s : Int) := by rw [IntKind.wrap_u64]; omega
      generalize digs (2 ^ s) (val xs) = R at *
      clear h2
      go_enter Try.func38, Try.ntmps38
      go_wp2_with fail
      refine (hid _).mono ?_
      rintro z w1 ⟨rfl, rfl⟩
      go_wp2_with fail
      refine hdg.mono ?_
      rintro z w2 ⟨v, rfl, ho, hE⟩
      go_wp2_with fail
      go_ret2
      exact ⟨_, rfl, ho, hE⟩
    · rw [if_neg h2, if_neg h2]
      rw [show isD n = false by simpa using h2] at hid
      clear h2
      go_enter Try.func38, Try.ntmps38
      go_wp2_with fail
      refine (hid _).mono ?_
      rintro z w1 ⟨rfl, rfl⟩
      go_wp2_with fail
      go_ret2
      exact LR.bad _ _
  · rw [if_neg h1, if_neg h1]
    have n1 : decide (4096 < (xs.length : Int)) = true := decide_eq_true (by omega)
    go_enter Try.func38, Try.ntmps38
    go_wp2_with fail
    go_ret2
    exact LR.bad _ _
/-- A number that must not have too many words. -/
def ftX (V : Nat) : List Nat := if (cn V).length ≤ 4096 then cn V else []
def ftE (V : Nat) : Int := if (cn V).length ≤ 4096 then 0 else 2
def jnX (l : List Nat) (n : Int) : List Nat := if isD n = true ∧ l.length ≤ 262144 then ftX (valb (2 ^ n.toNat) l) else []
def jnE (l : List Nat) (n : Int) : Int := if isD n = true ∧ l.length ≤ 262144 then ftE (valb (2 ^ n.toNat) l) else 1
set_option maxHeartbeats 2000000 in
set_option maxRecDepth 100000 in
theorem Join_c (A : Option Addr) (c : Nat) (l : List Nat) (n : Int) (w : World) (h : Rd w A c l) :
    Calls Try.prog 43 #[.slice A l.length c, .int .i64 n] w (LR w (jnX l n) (jnE l n)) := by
  have hid := fun w => isDigit_c n w
  unfold jnX jnE
  by_cases h2 : isD n = true
  · rw [h2] at hid
    by_cases h1 : l.length ≤ 262144
    · rw [if_pos ⟨h2, h1⟩, if_pos ⟨h2, h1⟩]
      have n1 : decide (262144 < (l.length : Int)) = false := decide_eq_false (by omega)
      obtain ⟨s, K, rfl, hsK, hs1, hs2⟩ := isD_use h2
      have hjn := join_c s K hsK hs1 hs2 A c l w h h1
      rw [Int.toNat_natCast]
      have hw : IntKind.u64.wrap (s : Int) = (s : Int) := by rw [IntKind.wrap_u64]; omega
      unfold ftX ftE
      generalize cn (valb (2 ^ s) l) = R at *
      clear h2
      by_cases h3 : R.length ≤ 4096
      · rw [if_pos h3, if_pos h3]
        have n3 : decide (4096 < (R.length : Int)) = false := decide_eq_false (by omega)
        go_enter Try.func43, Try.ntmps43
        go_wp2_with fail
        refine (hid _).mono ?_
        rintro z w1 ⟨rfl, rfl⟩
        go_wp2_with fail
        refine hjn.mono ?_
        rintro z w2 ⟨v, rfl, ho, hE⟩
        obtain ⟨A2, c2, rfl, hr2⟩ := ho.rd
        go_wp2_with fail
        go_ret2
        exact ⟨_, rfl, ho, hE⟩
      · rw [if_neg h3, if_neg h3]
        have n3 : decide (4096 < (R.length : Int)) = true := decide_eq_true (by omega)
        go_enter Try.func43, Try.ntmps43
        go_wp2_with fail
        refine (hid _).mono ?_
        rintro z w1 ⟨rfl, rfl⟩
        go_wp2_with fail
        refine hjn.mono ?_
        rintro z w2 ⟨v, rfl, ho, hE⟩
        obtain ⟨A2, c2, rfl, hr2⟩ := ho.rd
        go_wp2_with fail
        go_ret2
        exact ⟨_, rfl, Own.nil _ _, hE⟩
    · rw [if_neg (fun hh => h1 hh.2), if_neg (fun hh => h1 hh.2)]
      have n1 : decide (262144 < (l.length : Int)) = true := decide_eq_true (by omega)
      clear h2
      go_enter Try.func43, Try.ntmps43
      go_wp2_with fail
      refine (hid _).mono ?_
      rintro z w1 ⟨rfl, rfl⟩
      go_wp2_with fail
      go_ret2
      exact LR.bad _ _
  · rw [if_neg (fun hh => h2 hh.1), if_neg (fun hh => h2 hh.1)]
    rw [show isD n = false by simpa using h2] at hid
    clear h2
    go_enter Try.func43, Try.ntmps43
    go_wp2_with fail
    refine (hid _).mono ?_
    rintro z w1 ⟨rfl, rfl⟩
    go_wp2_with fail
    go_ret2
    exact LR.bad _ _
/-- A product, or that it is too large. -/
def mlX (xs ys : List Nat) : List Nat := if xs.length ≤ 4096 ∧ ys.length ≤ 4096 then ftX (val xs * val ys) else []
def mlE (xs ys : List Nat) : Int := if xs.length ≤ 4096 ∧ ys.length ≤ 4096 then ftE (val xs * val ys) else 2
set_option maxHeartbeats 4000000 in
set_option maxRecDepth 100000 in
theorem Mul_c (A A' : Option Addr) (c c' : Nat) (xs ys : List Nat) (w : World) (h : Rd w A c xs) (h' : Rd w A' c' ys) :
    Calls Try.prog 31 #[.slice A xs.length c, .slice A' ys.length c'] w (LR w (mlX xs ys) (mlE xs ys)) := by
  unfold mlX mlE
  by_cases hm : xs.length ≤ 4096 ∧ ys.length ≤ 4096
  · rw [if_pos hm, if_pos hm]
    have m2 : decide (4096 < max (xs.length : Int) (ys.length : Int)) = false := decide_eq_false (by omega)
    have l1 := digs_len16 h.w64
    have l2 := digs_len16 h'.w64
    have hdx := digits_c 16 4 rfl (by omega) (by omega) A c xs w h (by omega)
    have hdy := fun w h => digits_c 16 4 rfl (by omega) (by omega) A' c' ys w h (by omega)
    have hml := mul_law (m := val xs) (n := val ys) (by omega)
    have a1 := digs_al (val xs)
    have a2 := digs_al (val ys)
    have lz : (lgL (digs (2 ^ 16) (val xs)) (digs (2 ^ 16) (val ys))).length ≤ 262144 := by
      unfold lgL
      split
      · simp
      · rw [tab_len]; omega
    generalize digs (2 ^ 16) (val xs) = dx at *
    generalize digs (2 ^ 16) (val ys) = dy at *
    have hlg := fun A A' c c' w h h' => long_c A A' c c' dx dy w h h' (by omega) (by omega) a1 a2
    have hjn := fun A c w h => join_c 16 4 rfl (by omega) (by omega) A c (lgL dx dy) w h lz
    rw [hml] at hjn
    have hop := fun A c w h => opened_c A c dx w h (by omega)
    have hop' := fun A c w h => opened_c A c dy w h (by omega)
    have htl := fun A c w h => told_c A c (lgL dx dy) w h (by omega)
    generalize lgL dx dy = Z at *
    unfold ftX ftE
    generalize cn (val xs * val ys) = R at *
    clear hml a1 a2 l1 l2 hm
    by_cases h3 : R.length ≤ 4096
    · rw [if_pos h3, if_pos h3]
      have n3 : decide (4096 < (R.length : Int)) = false := decide_eq_false (by omega)
      go_enter Try.func31, Try.ntmps31
      go_wp2_with fail
      refine hdx.mono ?_
      rintro z w1 ⟨v1, rfl, ho1, hE1⟩
      obtain ⟨A1, c1, rfl, hr1⟩ := ho1.rd
      go_wp2_with fail
      refine (hop _ _ _ hr1).mono ?_
      rintro z w2 ⟨v2, rfl, ho2, hE2⟩
      obtain ⟨A2, c2, rfl, hr2⟩ := ho2.rd
      go_wp2_with fail
      refine (hdy _ (h'.ext (hE1.tr hE2))).mono ?_
      rintro z w3 ⟨v3, rfl, ho3, hE3⟩
      obtain ⟨A3, c3, rfl, hr3⟩ := ho3.rd
      go_wp2_with fail
      refine (hop' _ _ _ hr3).mono ?_
      rintro z w4 ⟨v4, rfl, ho4, hE4⟩
      obtain ⟨A4, c4, rfl, hr4⟩ := ho4.rd
      go_wp2_with fail
      refine (hlg _ _ _ _ _ ((hr2.ext hE3).ext hE4) hr4).mono ?_
      rintro z w5 ⟨v5, rfl, ho5, hE5⟩
      obtain ⟨A5, c5, rfl, hr5⟩ := ho5.rd
      go_wp2_with fail
      refine (htl _ _ _ hr5).mono ?_
      rintro z w6 ⟨v6, rfl, ho6, hE6⟩
      obtain ⟨A6, c6, rfl, hr6⟩ := ho6.rd
      go_wp2_with fail
      refine (hjn _ _ _ hr6).mono ?_
      rintro z w7 ⟨v7, rfl, ho7, hE7⟩
      obtain ⟨A7, c7, rfl, hr7⟩ := ho7.rd
      go_wp2_with fail
      go_ret2
      have hE := ((((hE1.tr hE2).tr hE3).tr hE4).tr hE5).tr hE6
      exact ⟨_, rfl, ho7.low hE.size, hE.tr hE7⟩
    · rw [if_neg h3, if_neg h3]
      have n3 : decide (4096 < (R.length : Int)) = true := decide_eq_true (by omega)
      go_enter Try.func31, Try.ntmps31
      go_wp2_with fail
      refine hdx.mono ?_
      rintro z w1 ⟨v1, rfl, ho1, hE1⟩
      obtain ⟨A1, c1, rfl, hr1⟩ := ho1.rd
      go_wp2_with fail
      refine (hop _ _ _ hr1).mono ?_
      rintro z w2 ⟨v2, rfl, ho2, hE2⟩
      obtain ⟨A2, c2, rfl, hr2⟩ := ho2.rd
      go_wp2_with fail
      refine (hdy _ (h'.ext (hE1.tr hE2))).mono ?_
      rintro z w3 ⟨v3, rfl, ho3, hE3⟩
      obtain ⟨A3, c3, rfl, hr3⟩ := ho3.rd
      go_wp2_with fail
      refine (hop' _ _ _ hr3).mono ?_
      rintro z w4 ⟨v4, rfl, ho4, hE4⟩
      obtain ⟨A4, c4, rfl, hr4⟩ := ho4.rd
      go_wp2_with fail
      refine (hlg _ _ _ _ _ ((hr2.ext hE3).ext hE4) hr4).mono ?_
      rintro z w5 ⟨v5, rfl, ho5, hE5⟩
      obtain ⟨A5, c5, rfl, hr5⟩ := ho5.rd
      go_wp2_with fail
      refine (htl _ _ _ hr5).mono ?_
      rintro z w6 ⟨v6, rfl, ho6, hE6⟩
      obtain ⟨A6, c6, rfl, hr6⟩ := ho6.rd
      go_wp2_with fail
      refine (hjn _ _ _ hr6).mono ?_
      rintro z w7 ⟨v7, rfl, ho7, hE7⟩
      obtain ⟨A7, c7, rfl, hr7⟩ := ho7.rd
      go_wp2_with fail
      go_ret2
      have hE := ((((hE1.tr hE2).tr hE3).tr hE4).tr hE5).tr hE6
      exact ⟨_, rfl, Own.nil _ _, hE.tr hE7⟩
  · rw [if_neg hm, if_neg hm]
    have m2 : decide (4096 < max (xs.length : Int) (ys.length : Int)) = true := decide_eq_true (by omega)
    clear hm
    go_enter Try.func31, Try.ntmps31
    go_wp2_with fail
    go_ret2
    exact LR.bad _ _
theorem Square_c (A : Option Addr) (c : Nat) (xs : List Nat) (w : World) (h : Rd w A c xs) :
    Calls Try.prog 33 #[.slice A xs.length c] w (LR w (mlX xs xs) (mlE xs xs)) := by
  have hm := Mul_c A A c c xs xs w h h
  generalize mlX xs xs = R at *
  generalize mlE xs xs = er at *
  go_enter Try.func33, Try.ntmps33
  go_wp2_with fail
  refine hm.mono ?_
  rintro z w1 ⟨v, rfl, ho, hE⟩
  go_wp2_with fail
  go_ret2
  exact ⟨_, rfl, ho, hE⟩
end Go.Proofs.Ythbnkhgcfcigjaa
namespace Go.Proofs.Ythbnkhgcfcigjaa
open Go.RowKit

theorem rlength04_c (n : Int) (w : World) : Calls Try.prog 14 #[.int .i64 n] w fun e w' => e = .returned (.bool (lenB n)) ∧ w = w' := by
  unfold lenB
  by_cases h1 : 1 ≤ n
  · have d1 : decide (1 ≤ n) = true := decide_eq_true h1
    by_cases h2 : n ≤ 65536
    · have d2 : decide (n ≤ 65536) = true := decide_eq_true h2
      obtain ⟨x, hx⟩ : ∃ x, bits BinOp.and IntKind.i64 n (n - 1) = x := ⟨_, rfl⟩
      rw [d1, d2, hx, Bool.true_and, Bool.true_and]
      have hb : (x == 0) = decide (x = 0) := by by_cases h : x = 0 <;> simp [h]
      generalize decide (x = 0) = b at *
      go_enter Try.func14, Try.ntmps14
      go_wp2_with fail
      go_ret
      exact ⟨rfl, rfl⟩
    · have d2 : decide (n ≤ 65536) = false := decide_eq_false h2
      rw [d1, d2]
      clear h2
      go_enter Try.func14, Try.ntmps14
      go_wp2_with fail
      go_ret
      exact ⟨rfl, rfl⟩
  · have d1 : decide (1 ≤ n) = false := decide_eq_false h1
    rw [d1]
    clear h1
    go_enter Try.func14, Try.ntmps14
    go_wp2_with fail
    go_ret
    exact ⟨rfl, rfl⟩
set_option maxHeartbeats 1000000 in
set_option maxRecDepth 100000 in
theorem same04_c (A A' : Option Addr) (c c' : Nat) (xs ys : List Nat) (w : World) (h : Rd w A c xs) (h' : Rd w A' c' ys) :
    Calls Try.prog 22 #[.slice A xs.length c, .slice A' ys.length c'] w fun e w' => e = .returned (.bool (decide (xs = ys))) ∧ ∃ n, w' = w.drewN n := by
  by_cases hlen : xs.length = ys.length
  · have hb : ((xs.length : Int) != (ys.length : Int)) = false := by rw [hlen]; simp
    go_enter Try.func22, Try.ntmps22
    have HL := Lib.hid hlen
    clear hlen
    go_wp2
    have hlx := h.len
    go_loopw [5] (fun v wr => ∃ i : Nat, i ≤ xs.length ∧ v = .int .i64 i ∧ xs.take i = ys.take i ∧ ∃ n, wr = w.drewN n) (fun v _ => xs.length - (intOf v).toNat)
    case atStart => exact ⟨0, Nat.zero_le _, rfl, rfl, 0, rfl⟩
    case round =>
      obtain ⟨i, hi, rfl, htk, n, rfl⟩ := hrel
      by_cases hlt : i < xs.length
      · obtain ⟨ad, rfl, hxc⟩ := h.cell i hlt
        obtain ⟨ad', rfl, hyc⟩ := h'.cell i (by have := HL.out; omega)
        have hlt2 : i < ys.length := by have := HL.out; omega
        have g0 : (0 : Int) ≤ (i : Int) := by omega
        have g1 : (i : Int) < (xs.length : Int) := by omega
        have g2 : (i : Int) < (ys.length : Int) := by omega
        by_cases hxy : xs.getD i 0 = ys.getD i 0
        · have hn : xs.take (i + 1) = ys.take (i + 1) := by
            rw [List.getD_eq_getElem?_getD, List.getD_eq_getElem?_getD, List.getElem?_eq_getElem hlt, List.getElem?_eq_getElem hlt2] at hxy
            rw [List.take_succ_eq_append_getElem hlt, List.take_succ_eq_append_getElem hlt2, htk, show xs[i] = ys[i] from hxy]
          rw [hxy] at hxc
          have HN := Lib.hid hn
          clear htk hn hxy
          generalize ys.getD i 0 = y at *
          have hne : ((y : Int) != (y : Int)) = false := by simp
          go_wp2
          go_quiet (fail)
          go_wp2
          go_roundw
          case rel => exact ⟨i + 1, hlt, by go_num, HN.out, _, rfl⟩
          case measure => simp [intOf]; omega
        · have hd : decide (xs = ys) = false := by rw [decide_eq_false_iff_not]; intro e; exact hxy (by rw [e])
          have hne : (((xs.getD i 0 : Nat) : Int) != ((ys.getD i 0 : Nat) : Int)) = true := by rw [bne_iff_ne]; omega
          have HD := Lib.hid hd
          clear htk hd hxy
          generalize xs.getD i 0 = x at *
          generalize ys.getD i 0 = y at *
          go_wp2
          go_quiet (fail)
          go_wp2
          go_ret
          exact ⟨by rw [HD.out]; rfl, _, World.drewN_drewN ..⟩
      · obtain rfl : i = xs.length := by omega
        have hd : decide (xs = ys) = true := by
          rw [decide_eq_true_iff]
          have e := HL.out
          rw [List.take_length, e, List.take_length] at htk
          exact htk
        have HD := Lib.hid hd
        clear htk hd
        go_wp2
        go_ret
        exact ⟨by rw [HD.out]; rfl, _, rfl⟩
  · have hd : decide (xs = ys) = false := by rw [decide_eq_false_iff_not]; intro e; exact hlen (by rw [e])
    have hne : ((xs.length : Int) != (ys.length : Int)) = true := by rw [bne_iff_ne]; omega
    have HD := Lib.hid hd
    clear hd hlen
    go_enter Try.func22, Try.ntmps22
    go_wp2
    go_ret
    exact ⟨by rw [HD.out]; rfl, 0, rfl⟩
end Go.Proofs.Ythbnkhgcfcigjaa
namespace Go.Proofs.Ythbnkhgcfcigjaa
open Go.RowKit

theorem root_at (n : Nat) : rootN n = pmF 64 1 7 ((PP - 1) / n) := by
  unfold rootN
  refine pow_mod_eq 7 _ (Nat.lt_of_le_of_lt (Nat.div_le_self _ _) ?_)
  rw [PP_eq]
  decide
theorem root_two : rootN 2 = 18446744069414584320 := (root_at 2).trans (by decide +kernel)
theorem root_four : rootN 4 = 281474976710656 := (root_at 4).trans (by decide +kernel)
theorem lit2 (w : World) (a b : Nat) (ha : a < B) (hb : b < B) (t : TypeId) : Rd (w.alloc (.cells #[.int .u64 (a : Int), .int .u64 (b : Int)] t)) (some ⟨w.heap.size, 0, none⟩) 2 [a, b] := by
  refine ⟨by simp, by simp, W64.cons ha (W64.cons hb W64.nil), fun i hi => ⟨_, rfl, ?_⟩⟩
  rw [add_zero', cell_of_row _ w.heap.size i _ _ _ (heap_alloc_new w _)]
  rcases i with _ | _ | i
  · rfl
  · rfl
  · simp at hi; omega
theorem lit3 (w : World) (a b c : Nat) (ha : a < B) (hb : b < B) (hc : c < B) (t : TypeId) : Rd (w.alloc (.cells #[.int .u64 (a : Int), .int .u64 (b : Int), .int .u64 (c : Int)] t)) (some ⟨w.heap.size, 0, none⟩) 3 [a, b, c] := by
  refine ⟨by simp, by simp, W64.cons ha (W64.cons hb (W64.cons hc W64.nil)), fun i hi => ⟨_, rfl, ?_⟩⟩
  rw [add_zero', cell_of_row _ w.heap.size i _ _ _ (heap_alloc_new w _)]
  rcases i with _ | _ | _ | i
  · rfl
  · rfl
  · rfl
  · simp at hi; omega
theorem lit4 (w : World) (a b c d : Nat) (ha : a < B) (hb : b < B) (hc : c < B) (hd : d < B) (t : TypeId) : Rd (w.alloc (.cells #[.int .u64 (a : Int), .int .u64 (b : Int), .int .u64 (c : Int), .int .u64 (d : Int)] t)) (some ⟨w.heap.size, 0, none⟩) 4 [a, b, c, d] := by
  refine ⟨by simp, by simp, W64.cons ha (W64.cons hb (W64.cons hc (W64.cons hd W64.nil))), fun i hi => ⟨_, rfl, ?_⟩⟩
  rw [add_zero', cell_of_row _ w.heap.size i _ _ _ (heap_alloc_new w _)]
  rcases i with _ | _ | _ | _ | i
  · rfl
  · rfl
  · rfl
  · rfl
  · simp at hi; omega
theorem ok12 : okT [1, 2] = true := by
  unfold okT
  rw [show (([1, 2] : List Nat).length : Int) = ((2 ^ 1 : Nat) : Int) from rfl, lenB_of (by omega)]
  decide +kernel
theorem ok1234 : okP [1, 2] [3, 4] = true := by
  unfold okP
  rw [ok12]
  decide +kernel
theorem okl1234 : okL [1, 2] [3, 4] = true := by decide +kernel
theorem dft12 : dftL (rootN 2) [1, 2] = [3, 18446744069414584320] := by
  rw [root_two]
  decide +kernel
theorem cyc1234 : cycL [1, 2] [3, 4] = [11, 10] := by decide +kernel
theorem tr1234 : trL [1, 2] [3, 4] = [18446744069414584316, 10] := by decide +kernel
theorem lg1234 : lgL [1, 2] [3, 4] = [3, 10, 8] := by decide +kernel
theorem cn4 : cn (val [4, 13, 22, 15]) = [4, 13, 22, 15] := digs_valb two_le_B _ (by
  intro x hx
  rw [B_eq]
  simp at hx
  omega) (fun _ => by decide +kernel)
theorem ml12345 : mlX [1, 2, 3] [4, 5] = [4, 13, 22, 15] ∧ mlE [1, 2, 3] [4, 5] = 0 := by
  have e : val [1, 2, 3] * val [4, 5] = val [4, 13, 22, 15] := by decide +kernel
  unfold mlX mlE ftX ftE
  rw [e, cn4]
  exact ⟨rfl, rfl⟩
theorem rt2 : rtV 2 = 18446744069414584320 ∧ rtE 2 = 0 ∧ rtV 4 = 281474976710656 ∧ rtE 4 = 0 := by
  have h2 : lenB 2 = true := lenB_of (m := 1) (by omega)
  have h4 : lenB 4 = true := lenB_of (m := 2) (by omega)
  unfold rtV rtE
  rw [if_pos h2, if_pos h2, if_pos h4, if_pos h4]
  exact ⟨root_two, rfl, root_four, rfl⟩
theorem n1 : (1 : Nat) < B := by rw [B_eq]; omega
theorem n2 : (2 : Nat) < B := by rw [B_eq]; omega
theorem n3 : (3 : Nat) < B := by rw [B_eq]; omega
theorem n4 : (4 : Nat) < B := by rw [B_eq]; omega
theorem n5 : (5 : Nat) < B := by rw [B_eq]; omega
/-- A row of words, no error. -/
def AR (w : World) (xs : List Nat) (e : Ending) (w' : World) : Prop := ∃ A c, e = .returned (.tuple #[.slice A xs.length c, .int .i64 0]) ∧ Rd w' A c xs ∧ Ext w w'
theorem LR.ar {w w0 : World} {xs : List Nat} {e : Ending} {w' : World} (h : LR w xs 0 e w') (h0 : Ext w0 w) : AR w0 xs e w' := by
  obtain ⟨v, rfl, ho, hE⟩ := h
  obtain ⟨A, c, rfl, hr⟩ := ho.rd
  exact ⟨A, c, rfl, hr, h0.tr hE⟩
theorem aw_t (w : World) : Calls Try.prog 28 #[.slice (some ⟨w.heap.size, 0, none⟩) 2 2] (w.alloc (.cells #[.int .u64 1, .int .u64 2] 22)) (AR w [3, 18446744069414584320]) := by
  have h := Transform_c (some ⟨w.heap.size, 0, none⟩) 2 [1, 2] _ (lit2 w 1 2 n1 n2 22) (by decide)
  rw [ok12] at h
  simp only [if_true] at h
  rw [show ([1, 2] : List Nat).length = 2 from rfl, dft12] at h
  exact h.mono fun e w' hh => hh.ar ((Ext.refl w).al _)
theorem aw_r (w : World) : Calls Try.prog 18 #[.slice (some ⟨w.heap.size, 0, none⟩) 2 2, .slice (some ⟨w.heap.size + 1, 0, none⟩) 2 2] ((w.alloc (.cells #[.int .u64 1, .int .u64 2] 22)).alloc (.cells #[.int .u64 3, .int .u64 4] 22)) (AR w [11, 10]) := by
  have h := Round_c (some ⟨w.heap.size, 0, none⟩) (some ⟨(w.alloc (.cells #[.int .u64 1, .int .u64 2] 22)).heap.size, 0, none⟩) 2 2 [1, 2] [3, 4] _ ((lit2 w 1 2 n1 n2 22).ext ((Ext.refl _).al (.cells #[.int .u64 3, .int .u64 4] 22))) (lit2 (w.alloc (.cells #[.int .u64 1, .int .u64 2] 22)) 3 4 n3 n4 22)
  rw [ok1234] at h
  simp only [if_true] at h
  rw [cyc1234, World.size_alloc] at h
  exact h.mono fun e w' hh => hh.ar (((Ext.refl w).al _).al _)
theorem aw_u (w : World) : Calls Try.prog 19 #[.slice (some ⟨w.heap.size, 0, none⟩) 2 2, .slice (some ⟨w.heap.size + 1, 0, none⟩) 2 2] ((w.alloc (.cells #[.int .u64 1, .int .u64 2] 22)).alloc (.cells #[.int .u64 3, .int .u64 4] 22)) (AR w [18446744069414584316, 10]) := by
  have h := Turned_c (some ⟨w.heap.size, 0, none⟩) (some ⟨(w.alloc (.cells #[.int .u64 1, .int .u64 2] 22)).heap.size, 0, none⟩) 2 2 [1, 2] [3, 4] _ ((lit2 w 1 2 n1 n2 22).ext ((Ext.refl _).al (.cells #[.int .u64 3, .int .u64 4] 22))) (lit2 (w.alloc (.cells #[.int .u64 1, .int .u64 2] 22)) 3 4 n3 n4 22)
  rw [ok1234] at h
  simp only [if_true] at h
  rw [tr1234, World.size_alloc] at h
  exact h.mono fun e w' hh => hh.ar (((Ext.refl w).al _).al _)
theorem aw_l (w : World) : Calls Try.prog 20 #[.slice (some ⟨w.heap.size, 0, none⟩) 2 2, .slice (some ⟨w.heap.size + 1, 0, none⟩) 2 2] ((w.alloc (.cells #[.int .u64 1, .int .u64 2] 22)).alloc (.cells #[.int .u64 3, .int .u64 4] 22)) (AR w [3, 10, 8]) := by
  have h := Long_c (some ⟨w.heap.size, 0, none⟩) (some ⟨(w.alloc (.cells #[.int .u64 1, .int .u64 2] 22)).heap.size, 0, none⟩) 2 2 [1, 2] [3, 4] _ ((lit2 w 1 2 n1 n2 22).ext ((Ext.refl _).al (.cells #[.int .u64 3, .int .u64 4] 22))) (lit2 (w.alloc (.cells #[.int .u64 1, .int .u64 2] 22)) 3 4 n3 n4 22)
  rw [okl1234] at h
  simp only [if_true] at h
  rw [lg1234, World.size_alloc] at h
  exact h.mono fun e w' hh => hh.ar (((Ext.refl w).al _).al _)
theorem aw_m (w : World) : Calls Try.prog 31 #[.slice (some ⟨w.heap.size, 0, none⟩) 3 3, .slice (some ⟨w.heap.size + 1, 0, none⟩) 2 2] ((w.alloc (.cells #[.int .u64 1, .int .u64 2, .int .u64 3] 22)).alloc (.cells #[.int .u64 4, .int .u64 5] 22)) (AR w [4, 13, 22, 15]) := by
  have h := Mul_c (some ⟨w.heap.size, 0, none⟩) (some ⟨(w.alloc (.cells #[.int .u64 1, .int .u64 2, .int .u64 3] 22)).heap.size, 0, none⟩) 3 2 [1, 2, 3] [4, 5] _ ((lit3 w 1 2 3 n1 n2 n3 22).ext ((Ext.refl _).al (.cells #[.int .u64 4, .int .u64 5] 22))) (lit2 (w.alloc (.cells #[.int .u64 1, .int .u64 2, .int .u64 3] 22)) 4 5 n4 n5 22)
  rw [ml12345.1, ml12345.2, World.size_alloc] at h
  exact h.mono fun e w' hh => hh.ar (((Ext.refl w).al _).al _)
theorem aw_s2 (A : Option Addr) (c a b : Nat) (w : World) (h : Rd w A c [a, b]) (ha : a < B) (hb : b < B) : Calls Try.prog 22 #[.slice A 2 c, .slice (some ⟨w.heap.size, 0, none⟩) 2 2] (w.alloc (.cells #[.int .u64 (a : Int), .int .u64 (b : Int)] 22)) fun e w' => e = .returned (.bool true) ∧ Ext w w' := by
  refine (same04_c A (some ⟨w.heap.size, 0, none⟩) c 2 [a, b] [a, b] _ (h.ext ((Ext.refl _).al _)) (lit2 w a b ha hb 22)).mono ?_
  rintro e w' ⟨rfl, n, rfl⟩
  exact ⟨by rw [decide_eq_true rfl], ((Ext.refl w).al _).drewN n⟩
theorem aw_s3 (A : Option Addr) (c a b d : Nat) (w : World) (h : Rd w A c [a, b, d]) (ha : a < B) (hb : b < B) (hd : d < B) : Calls Try.prog 22 #[.slice A 3 c, .slice (some ⟨w.heap.size, 0, none⟩) 3 3] (w.alloc (.cells #[.int .u64 (a : Int), .int .u64 (b : Int), .int .u64 (d : Int)] 22)) fun e w' => e = .returned (.bool true) ∧ Ext w w' := by
  refine (same04_c A (some ⟨w.heap.size, 0, none⟩) c 3 [a, b, d] [a, b, d] _ (h.ext ((Ext.refl _).al _)) (lit3 w a b d ha hb hd 22)).mono ?_
  rintro e w' ⟨rfl, n, rfl⟩
  exact ⟨by rw [decide_eq_true rfl], ((Ext.refl w).al _).drewN n⟩
theorem aw_i (A : Option Addr) (c : Nat) (w : World) (h : Rd w A c [4, 13, 22, 15]) : Calls Try.prog 34 #[.slice A 4 c, .slice (some ⟨w.heap.size, 0, none⟩) 4 4] (w.alloc (.cells #[.int .u64 4, .int .u64 13, .int .u64 22, .int .u64 15] 22)) fun e w' => e = .returned (.bool true) ∧ Ext w w' := by
  refine (ris_c A (some ⟨w.heap.size, 0, none⟩) c 4 [4, 13, 22, 15] [4, 13, 22, 15] _ (h.ext ((Ext.refl _).al _)) (lit4 w 4 13 22 15 (by rw [B_eq]; omega) (by rw [B_eq]; omega) (by rw [B_eq]; omega) (by rw [B_eq]; omega) 22) (by decide)).mono ?_
  rintro e w' ⟨rfl, hE⟩
  exact ⟨by rw [cn4, decide_eq_true rfl], ((Ext.refl w).al _).tr hE⟩
set_option maxHeartbeats 4000000 in
set_option maxRecDepth 100000 in
/-- What a program must do whatever the input is. -/
theorem awake04_c (w : World) : Calls Try.prog 16 #[] w fun e w' => e = .returned (.bool true) ∧ Ext w w' := by
  obtain ⟨t1, t2, t3, t4⟩ := rt2
  have h1 := fun w => Root_c 2 w
  have h2 := fun w => Root_c 4 w
  rw [t1, t2] at h1
  rw [t3, t4] at h2
  go_enter Try.func16, Try.ntmps16
  go_wp2_with fail
  refine (h1 _).mono ?_
  rintro z w1 ⟨rfl, rfl⟩
  go_wp2_with fail
  refine (h2 _).mono ?_
  rintro z w1 ⟨rfl, rfl⟩
  go_wp2_with fail
  refine (aw_t _).mono ?_
  rintro z w3 ⟨A3, c3, rfl, hr3, hE3⟩
  go_wp2_with fail
  refine (aw_r _).mono ?_
  rintro z w4 ⟨A4, c4, rfl, hr4, hE4⟩
  go_wp2_with fail
  refine (aw_u _).mono ?_
  rintro z w5 ⟨A5, c5, rfl, hr5, hE5⟩
  go_wp2_with fail
  refine (aw_l _).mono ?_
  rintro z w6 ⟨A6, c6, rfl, hr6, hE6⟩
  go_wp2_with fail
  refine (aw_m _).mono ?_
  rintro z w7 ⟨A7, c7, rfl, hr7, hE7⟩
  go_wp2_with fail
  refine (aw_s2 _ _ _ _ _ ((((hr3.ext hE4).ext hE5).ext hE6).ext hE7) n3 (by rw [B_eq]; omega)).mono ?_
  rintro z w8 ⟨rfl, hE8⟩
  go_wp2_with fail
  refine (aw_s2 _ _ _ _ _ ((((hr4.ext hE5).ext hE6).ext hE7).ext hE8) (by rw [B_eq]; omega) (by rw [B_eq]; omega)).mono ?_
  rintro z w9 ⟨rfl, hE9⟩
  go_wp2_with fail
  refine (aw_s2 _ _ _ _ _ ((((hr5.ext hE6).ext hE7).ext hE8).ext hE9) (by rw [B_eq]; omega) (by rw [B_eq]; omega)).mono ?_
  rintro z w10 ⟨rfl, hE10⟩
  go_wp2_with fail
  refine (aw_s3 _ _ _ _ _ _ ((((hr6.ext hE7).ext hE8).ext hE9).ext hE10) n3 (by rw [B_eq]; omega) (by rw [B_eq]; omega)).mono ?_
  rintro z w11 ⟨rfl, hE11⟩
  go_wp2_with fail
  refine (aw_i _ _ _ ((((hr7.ext hE8).ext hE9).ext hE10).ext hE11)).mono ?_
  rintro z w12 ⟨rfl, hE12⟩
  go_wp2_with fail
  go_ret
  exact ⟨rfl, ((((((((hE3.tr hE4).tr hE5).tr hE6).tr hE7).tr hE8).tr hE9).tr hE10).tr hE11).tr hE12⟩
end Go.Proofs.Ythbnkhgcfcigjaa
